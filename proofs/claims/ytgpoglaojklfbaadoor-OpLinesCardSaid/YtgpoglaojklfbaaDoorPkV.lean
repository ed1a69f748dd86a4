/-
  Layer 7: the law OpLines.
-/
import Derived.Test.YtgpoglaojklfbaaDoorPkU
namespace Go.Proofs.YtgpoglaojklfbaaDoor
open Go.RowKit
set_option linter.unusedVariables false
set_option linter.unusedSimpArgs false
set_option maxRecDepth 100000
attribute [local go_sem ↓] runOp headOp
attribute [local go_sem] ev0 ev1 ev2 ev3 ev4 evA stHOk.eq_1 stHOk.eq_2 stHSt.eq_1 stHSt.eq_2 okV valV fzV okF valF okBld valBld mxOk.eq_1 mxOk.eq_2 mxVal.eq_1 mxVal.eq_2 cellFit.eq_1 cellFit.eq_2 cellFit.eq_3 cellEq.eq_1 cellEq.eq_2 cellEq.eq_3 upd_at AV.flatB AV.flatBs binIok binIV binSok binSV cellsOk.eq_1 cellsOk.eq_2 cellsVal.eq_1 cellsVal.eq_2 objCells.eq_1 objCells.eq_2 objZ.eq_1 objZ.eq_2 objProt.eq_1 objProt.eq_2 oneObj ptrOk.eq_1 ptrOk.eq_2 ptrOk.eq_3 ptrCells.eq_1 ptrCells.eq_2 ptrCells.eq_3 lenOk.eq_1 lenOk.eq_2 lenOk.eq_3 lenOk.eq_4 lenVal.eq_1 lenVal.eq_2 lenVal.eq_3 lenVal.eq_4 faOk.eq_1 faOk.eq_2 faOk.eq_3 faVal.eq_1 faVal.eq_2 faVal.eq_3 iaOk.eq_1 iaOk.eq_2 iaOk.eq_3 iaVal.eq_1 iaVal.eq_2 iaVal.eq_3 slcLen.eq_1 slcLen.eq_2 slcLen.eq_3 slcLen.eq_4 bdOk.eq_1 bdOk.eq_2 bdVal.eq_1 bdVal.eq_2 slcOk.eq_1 slcOk.eq_2 slcOk.eq_3 slcOk.eq_4 slcVal.eq_1 slcVal.eq_2 slcVal.eq_3 slcVal.eq_4 slcFz.eq_1 slcFz.eq_2 byOk.eq_1 byOk.eq_2 byOk.eq_3 byOk.eq_4 byOk.eq_5 byOk.eq_6 byVal.eq_1 byVal.eq_2 byVal.eq_3 byFz.eq_1 byFz.eq_2 byFz.eq_3 byOks byVals byFzs allOne resSt.eq_1 resSt.eq_2 resName.eq_1 resName.eq_2 stOk.eq_1 stOk.eq_2 stArr.eq_1 stArr.eq_2 stSt.eq_1 stSt.eq_2 AV.patch nameOk_none gB.eq_1 gB.eq_2 gB.eq_3 gIs.eq_1 gIs.eq_2 gIs.eq_3 retV resV resVs evalV cellsV St.byval List.getD_cons_zero List.getD_cons_succ List.getD_nil List.map_cons List.map_nil List.length_cons List.length_nil List.take_succ_cons List.take_zero List.drop_succ_cons List.drop_zero List.headD_cons List.set_cons_zero List.append_nil List.nil_append List.cons_append List.contains_cons List.contains_nil List.elem_cons List.elem_nil List.all_cons List.all_nil List.getElem?_cons_zero List.getElem?_cons_succ List.filterMap_cons List.filterMap_nil Option.isSome_some Option.isSome_none Option.map_some Option.map_none Option.some.injEq AV.int.injEq AV.bool.injEq AV.str.injEq AV.tup.injEq AV.agg.injEq AV.sl.injEq List.cons.injEq Bool.false_eq_true Bool.true_eq_false Bool.not_true Bool.not_false Bool.and_true Bool.true_and Bool.or_false Bool.or_true Bool.false_or Bool.true_or Bool.or_self Bool.and_self Bool.not_eq_true' Bool.not_eq_false' Bool.not_not beq_self_eq_true true_and and_true false_and and_false and_self not_true_eq_false not_false_eq_true forall_const true_implies false_implies implies_true imp_self Nat.lt_add_one Nat.le_refl Nat.zero_le Nat.add_zero Nat.zero_add decide_true decide_false decide_eq_true_eq decide_eq_false_iff_not exists_eq_left exists_eq_left' ge_iff_le gt_iff_lt ite_branch ite_branch' nilOk.eq_1 nilOk.eq_2 nilMay.eq_1 nilMay.eq_2 AV.isSl.eq_1 objTy'.eq_1 objTy'.eq_2 apSt.eq_1 apArr.eq_1 apArr.eq_2 slOf.eq_1 fitsV List.mem_cons List.not_mem_nil Bool.false_and Bool.and_false primOk.eq_1 primOk.eq_2 primOk.eq_3 primOk.eq_4 primOk.eq_5 primVal.eq_1 primVal.eq_2 primVal.eq_3 primVal.eq_4 primVal.eq_5 mOk.eq_1 mOk.eq_2 mVal.eq_1 mVal.eq_2 mFz.eq_1 mFz.eq_2 mOks mVals mFzs mCalOk.eq_1 mCalOk.eq_2 mFn.eq_1 mFn.eq_2 mArgs.eq_1 mArgs.eq_2 ckOk.eq_1 ckOk.eq_2 cloOk.eq_1 ptrAt.eq_1 sh.eq_1 sh.eq_2 sh.eq_3 sh.eq_4 retM shH_small
/-! ### percolate/percolatelaw07.awake -/
def r_awake7_0 : Reg := ⟨[], [⟨(.mv (.c (.bool false))), (some 0), none, [], []⟩], [], [], false⟩
def r_awake7_1 : Reg := ⟨[], [⟨(.bld [(.int .i64 0), (.str ⟨#[]⟩), (.str ⟨#[]⟩), (.bool false), (.str ⟨#[]⟩), (.int .i64 0)] [⟨0, 1, (.c (.int .i64 3))⟩, ⟨1, 1, (.c (.str ⟨#[107]⟩))⟩]), (some 4), none, [5], []⟩, ⟨(.callv (.c (.clo 23 [] [])) [(.t 4)]), (some 5), none, [], []⟩, ⟨(.mv (.t 5)), (some 3), none, [], []⟩, ⟨(.ext 0 (.t 3)), (some 6), none, [], []⟩, ⟨(.ext 1 (.t 3)), (some 7), none, [], []⟩, ⟨(.mv (.t 6)), (some 1), none, [], []⟩, ⟨(.mv (.t 7)), (some 2), none, [], []⟩], [5], [], false⟩
def r_awake7_2 : Reg := ⟨[], [⟨(.mv (.t 2)), (some 8), none, [15, 20], []⟩, ⟨(.mv (.t 8)), (some 9), none, [15, 20], []⟩, ⟨(.mv (.t 1)), (some 10), (some (9, true)), [15, 20], []⟩, ⟨(.bin .eql (.t 10) (.c (.str ⟨#[3, 1, 107]⟩))), (some 11), (some (9, true)), [15, 20], []⟩, ⟨(.pick (.t 9) (.t 11) (.c (.bool false))), (some 12), none, [15, 20], []⟩, ⟨(.mv (.t 12)), (some 13), none, [15, 20], []⟩, ⟨(.bld [(.int .i64 0), (.str ⟨#[]⟩), (.str ⟨#[]⟩), (.bool false), (.str ⟨#[]⟩), (.int .i64 0)] [⟨0, 1, (.c (.int .i64 6))⟩, ⟨1, 1, (.c (.str ⟨#[97]⟩))⟩, ⟨3, 1, (.c (.bool true))⟩, ⟨5, 1, (.c (.int .i64 3))⟩]), (some 14), (some (13, true)), [15, 20], []⟩, ⟨(.callv (.c (.clo 31 [] [])) [(.t 14)]), (some 15), (some (13, true)), [20], []⟩, ⟨(.bin .eql (.t 15) (.c (.str ⟨#[115, 99, 97, 110, 32, 97, 32, 42, 32, 51]⟩))), (some 16), (some (13, true)), [20], []⟩, ⟨(.pick (.t 13) (.t 16) (.c (.bool false))), (some 17), none, [20], []⟩, ⟨(.mv (.t 17)), (some 18), none, [20], []⟩, ⟨(.bld [(.int .i64 0), (.str ⟨#[]⟩), (.str ⟨#[]⟩), (.bool false), (.str ⟨#[]⟩), (.int .i64 0)] []), (some 19), (some (18, true)), [20], []⟩, ⟨(.callv (.c (.clo 42 [] [])) [(.t 19)]), (some 20), (some (18, true)), [], []⟩, ⟨(.bin .eql (.t 20) (.c (.int .i64 3))), (some 21), (some (18, true)), [], []⟩, ⟨(.pick (.t 18) (.t 21) (.c (.bool false))), (some 22), none, [], []⟩, ⟨(.mv (.t 22)), (some 0), none, [], []⟩], [15, 20], [], false⟩
def ir_awake7 : IR := (.seq (.reg r_awake7_0)
  (.seq (.reg r_awake7_1)
  (.seq (.reg r_awake7_2)
  .ret)))
def res_awake7 : List RDesc := [(.tmp 0)]
theorem e_awake7_0 (C : FuncId → List AV → AV → Prop) (σ : St) (K : St → Prop) : runReg C r_awake7_0 σ K = runOps C [⟨(.mv (.c (.bool false))), (some 0), none, [], []⟩] (σ.kills []) K := rfl
theorem e_awake7_1 (C : FuncId → List AV → AV → Prop) (σ : St) (K : St → Prop) : runReg C r_awake7_1 σ K = runOps C [⟨(.bld [(.int .i64 0), (.str ⟨#[]⟩), (.str ⟨#[]⟩), (.bool false), (.str ⟨#[]⟩), (.int .i64 0)] [⟨0, 1, (.c (.int .i64 3))⟩, ⟨1, 1, (.c (.str ⟨#[107]⟩))⟩]), (some 4), none, [5], []⟩, ⟨(.callv (.c (.clo 23 [] [])) [(.t 4)]), (some 5), none, [], []⟩, ⟨(.mv (.t 5)), (some 3), none, [], []⟩, ⟨(.ext 0 (.t 3)), (some 6), none, [], []⟩, ⟨(.ext 1 (.t 3)), (some 7), none, [], []⟩, ⟨(.mv (.t 6)), (some 1), none, [], []⟩, ⟨(.mv (.t 7)), (some 2), none, [], []⟩] (σ.kills [5]) K := rfl
theorem e_awake7_2 (C : FuncId → List AV → AV → Prop) (σ : St) (K : St → Prop) : runReg C r_awake7_2 σ K = runOps C [⟨(.mv (.t 2)), (some 8), none, [15, 20], []⟩, ⟨(.mv (.t 8)), (some 9), none, [15, 20], []⟩, ⟨(.mv (.t 1)), (some 10), (some (9, true)), [15, 20], []⟩, ⟨(.bin .eql (.t 10) (.c (.str ⟨#[3, 1, 107]⟩))), (some 11), (some (9, true)), [15, 20], []⟩, ⟨(.pick (.t 9) (.t 11) (.c (.bool false))), (some 12), none, [15, 20], []⟩, ⟨(.mv (.t 12)), (some 13), none, [15, 20], []⟩, ⟨(.bld [(.int .i64 0), (.str ⟨#[]⟩), (.str ⟨#[]⟩), (.bool false), (.str ⟨#[]⟩), (.int .i64 0)] [⟨0, 1, (.c (.int .i64 6))⟩, ⟨1, 1, (.c (.str ⟨#[97]⟩))⟩, ⟨3, 1, (.c (.bool true))⟩, ⟨5, 1, (.c (.int .i64 3))⟩]), (some 14), (some (13, true)), [15, 20], []⟩, ⟨(.callv (.c (.clo 31 [] [])) [(.t 14)]), (some 15), (some (13, true)), [20], []⟩, ⟨(.bin .eql (.t 15) (.c (.str ⟨#[115, 99, 97, 110, 32, 97, 32, 42, 32, 51]⟩))), (some 16), (some (13, true)), [20], []⟩, ⟨(.pick (.t 13) (.t 16) (.c (.bool false))), (some 17), none, [20], []⟩, ⟨(.mv (.t 17)), (some 18), none, [20], []⟩, ⟨(.bld [(.int .i64 0), (.str ⟨#[]⟩), (.str ⟨#[]⟩), (.bool false), (.str ⟨#[]⟩), (.int .i64 0)] []), (some 19), (some (18, true)), [20], []⟩, ⟨(.callv (.c (.clo 42 [] [])) [(.t 19)]), (some 20), (some (18, true)), [], []⟩, ⟨(.bin .eql (.t 20) (.c (.int .i64 3))), (some 21), (some (18, true)), [], []⟩, ⟨(.pick (.t 18) (.t 21) (.c (.bool false))), (some 22), none, [], []⟩, ⟨(.mv (.t 22)), (some 0), none, [], []⟩] (σ.kills [15, 20]) K := rfl
theorem fn_awake7 {args : List AV} {r : AV} (ha : args.length.ble Tryd.f22.ntmps = true) (h : run (AFn Tryd.prog) ir_awake7 (endQ res_awake7 r) (initSt args)) : AFn Tryd.prog 22 args r :=
  AFn.of_code (hint := fun _ => []) (c := Tryd.f22.body.getD .skip) (by kernel_rfl) (by kernel_rfl) Tryd.func22 (by kernel_rfl) (by kernel_rfl) (by kernel_rfl) (of_decide_eq_true (by kernel_rfl)) (Nat.le_of_ble_eq_true ha) (Nat.le_of_ble_eq_true (by kernel_rfl)) (run_ok h)

/-! ### percolate/percolatelaw07.OpLines -/
def r_linesL_0 : Reg := ⟨[], [⟨(.box 6 34 (.t 0)), (some 2), none, [], []⟩, ⟨(.mv (.c (.bool false))), (some 4), none, [], []⟩], [2], [], false⟩
def r_linesL_1 : Reg := ⟨[], [⟨(.load 6 true (.t 2)), (some 10), none, [11], []⟩, ⟨(.callv (.c (.clo 21 [] [])) [(.t 10), (.c (.int .i64 300))]), (some 11), none, [], []⟩, ⟨(.un .not (.t 11)), (some 12), none, [], []⟩, ⟨(.mv (.t 12)), (some 13), none, [], []⟩, ⟨(.mv (.t 1)), (some 14), (some (13, false)), [], []⟩, ⟨(.len true (.t 14)), (some 15), (some (13, false)), [], []⟩, ⟨(.bin .gtr (.t 15) (.c (.int .i64 300))), (some 16), (some (13, false)), [], []⟩, ⟨(.pick (.t 13) (.c (.bool true)) (.t 16)), (some 17), none, [], []⟩], [11], [], false⟩
def r_linesL_2 : Reg := ⟨[], [⟨(.callv (.c (.clo 22 [] [])) []), (some 18), none, [], []⟩, ⟨(.mv (.t 18)), (some 4), none, [], []⟩], [18], [], false⟩
def r_linesL_3 : Reg := ⟨[], [⟨(.load 6 true (.t 2)), (some 19), none, [20], []⟩, ⟨(.callv (.c (.clo 31 [] [])) [(.t 19)]), (some 20), none, [], []⟩, ⟨(.mv (.t 20)), (some 5), none, [], []⟩], [20], [], false⟩
def r_linesL_4 : Reg := ⟨[], [⟨(.mv (.t 5)), (some 22), none, [23, 6], []⟩, ⟨(.callv (.c (.clo 32 [] [])) [(.t 22)]), (some 23), none, [6], []⟩, ⟨(.mv (.t 23)), (some 21), none, [6], []⟩, ⟨(.ext 0 (.t 21)), (some 24), none, [6], []⟩, ⟨(.ext 1 (.t 21)), (some 25), none, [6], []⟩, ⟨(.alloc 6 34 (.agg [(.int .i64 0), (.str ⟨#[]⟩), (.str ⟨#[]⟩), (.bool false), (.str ⟨#[]⟩), (.int .i64 0)])), (some 6), none, [], []⟩, ⟨(.store 6 (.t 6) (.t 24)), none, none, [], []⟩, ⟨(.mv (.t 25)), (some 7), none, [], []⟩], [23, 6], [], false⟩
def r_linesL_5 : Reg := ⟨[], [⟨(.mv (.t 5)), (some 26), none, [28, 33], []⟩, ⟨(.load 6 true (.t 2)), (some 27), none, [28, 33], []⟩, ⟨(.callv (.c (.clo 33 [] [])) [(.t 27)]), (some 28), none, [33], []⟩, ⟨(.bin .neq (.t 26) (.t 28)), (some 29), none, [33], []⟩, ⟨(.mv (.t 29)), (some 30), none, [33], []⟩, ⟨(.mv (.t 7)), (some 31), (some (30, false)), [33], []⟩, ⟨(.load 6 true (.t 2)), (some 32), (some (30, false)), [33], []⟩, ⟨(.callv (.c (.clo 24 [] [])) [(.t 32)]), (some 33), (some (30, false)), [], []⟩, ⟨(.beq true (.t 31) (.t 33)), (some 34), (some (30, false)), [], []⟩, ⟨(.pick (.t 30) (.c (.bool true)) (.t 34)), (some 35), none, [], []⟩, ⟨(.mv (.t 35)), (some 36), none, [], []⟩, ⟨(.mv (.t 7)), (some 37), (some (36, false)), [], []⟩, ⟨(.mv (.t 37)), (some 38), (some (36, false)), [], []⟩, ⟨(.load 6 true (.t 6)), (some 39), (some (38, true)), [], []⟩, ⟨(.load 6 true (.t 2)), (some 40), (some (38, true)), [], []⟩, ⟨(.feq true [(0, 0), (1, 1), (2, 1), (3, 2), (4, 1), (5, 0)] (.t 39) (.t 40)), (some 41), (some (38, true)), [], []⟩, ⟨(.pick (.t 38) (.t 41) (.c (.bool false))), (some 42), (some (36, false)), [], []⟩, ⟨(.pick (.t 36) (.c (.bool true)) (.t 42)), (some 43), none, [], []⟩], [28, 33], [], false⟩
def r_linesL_6 : Reg := ⟨[], [⟨(.mv (.c (.bool false))), (some 4), none, [], []⟩], [], [], false⟩
def r_linesL_7 : Reg := ⟨[], [⟨(.mv (.t 1)), (some 45), none, [46, 8], []⟩, ⟨(.callv (.c (.clo 32 [] [])) [(.t 45)]), (some 46), none, [8], []⟩, ⟨(.mv (.t 46)), (some 44), none, [8], []⟩, ⟨(.ext 0 (.t 44)), (some 47), none, [8], []⟩, ⟨(.ext 1 (.t 44)), (some 48), none, [8], []⟩, ⟨(.alloc 6 34 (.agg [(.int .i64 0), (.str ⟨#[]⟩), (.str ⟨#[]⟩), (.bool false), (.str ⟨#[]⟩), (.int .i64 0)])), (some 8), none, [], []⟩, ⟨(.store 6 (.t 8) (.t 47)), none, none, [], []⟩, ⟨(.mv (.t 48)), (some 9), none, [], []⟩], [46, 8], [], false⟩
def r_linesL_8 : Reg := ⟨[], [⟨(.mv (.t 9)), (some 49), none, [], []⟩, ⟨(.un .not (.t 49)), (some 50), none, [], []⟩], [], [], false⟩
def r_linesL_9 : Reg := ⟨[], [⟨(.load 6 true (.t 8)), (some 51), none, [55], []⟩, ⟨(.bld [(.int .i64 0), (.str ⟨#[]⟩), (.str ⟨#[]⟩), (.bool false), (.str ⟨#[]⟩), (.int .i64 0)] []), (some 52), none, [55], []⟩, ⟨(.feq false [(0, 0), (1, 1), (2, 1), (3, 2), (4, 1), (5, 0)] (.t 51) (.t 52)), (some 53), none, [55], []⟩, ⟨(.mv (.t 53)), (some 54), none, [55], []⟩, ⟨(.callv (.c (.clo 22 [] [])) []), (some 55), (some (54, true)), [], []⟩, ⟨(.pick (.t 54) (.t 55) (.c (.bool false))), (some 56), none, [], []⟩, ⟨(.mv (.t 56)), (some 4), none, [], []⟩], [55], [], false⟩
def r_linesL_10 : Reg := ⟨[], [⟨(.load 6 true (.t 8)), (some 57), none, [58, 61, 66], []⟩, ⟨(.callv (.c (.clo 24 [] [])) [(.t 57)]), (some 58), none, [61, 66], []⟩, ⟨(.mv (.t 58)), (some 59), none, [61, 66], []⟩, ⟨(.load 6 true (.t 8)), (some 60), (some (59, true)), [61, 66], []⟩, ⟨(.callv (.c (.clo 33 [] [])) [(.t 60)]), (some 61), (some (59, true)), [66], []⟩, ⟨(.mv (.t 1)), (some 62), (some (59, true)), [66], []⟩, ⟨(.bin .eql (.t 61) (.t 62)), (some 63), (some (59, true)), [66], []⟩, ⟨(.pick (.t 59) (.t 63) (.c (.bool false))), (some 64), none, [66], []⟩, ⟨(.mv (.t 64)), (some 65), none, [66], []⟩, ⟨(.callv (.c (.clo 22 [] [])) []), (some 66), (some (65, true)), [], []⟩, ⟨(.pick (.t 65) (.t 66) (.c (.bool false))), (some 67), none, [], []⟩, ⟨(.mv (.t 67)), (some 4), none, [], []⟩], [58, 61, 66], [], false⟩
def ir_linesL : IR := (.seq (.reg r_linesL_0)
  (.seq (.seq (.reg r_linesL_1)
  (.cond (.t 17) (.seq (.reg r_linesL_2)
  .ret)
  .skip))
  (.seq (.reg r_linesL_3)
  (.seq (.reg r_linesL_4)
  (.seq (.seq (.reg r_linesL_5)
  (.cond (.t 43) (.seq (.reg r_linesL_6)
  .ret)
  .skip))
  (.seq (.reg r_linesL_7)
  (.seq (.seq (.reg r_linesL_8)
  (.cond (.t 50) (.seq (.reg r_linesL_9)
  .ret)
  .skip))
  (.seq (.reg r_linesL_10)
  .ret))))))))
def res_linesL : List RDesc := [(.tmp 4)]
theorem e_linesL_0 (C : FuncId → List AV → AV → Prop) (σ : St) (K : St → Prop) : runReg C r_linesL_0 σ K = runOps C [⟨(.box 6 34 (.t 0)), (some 2), none, [], []⟩, ⟨(.mv (.c (.bool false))), (some 4), none, [], []⟩] (σ.kills [2]) K := rfl
theorem e_linesL_1 (C : FuncId → List AV → AV → Prop) (σ : St) (K : St → Prop) : runReg C r_linesL_1 σ K = runOps C [⟨(.load 6 true (.t 2)), (some 10), none, [11], []⟩, ⟨(.callv (.c (.clo 21 [] [])) [(.t 10), (.c (.int .i64 300))]), (some 11), none, [], []⟩, ⟨(.un .not (.t 11)), (some 12), none, [], []⟩, ⟨(.mv (.t 12)), (some 13), none, [], []⟩, ⟨(.mv (.t 1)), (some 14), (some (13, false)), [], []⟩, ⟨(.len true (.t 14)), (some 15), (some (13, false)), [], []⟩, ⟨(.bin .gtr (.t 15) (.c (.int .i64 300))), (some 16), (some (13, false)), [], []⟩, ⟨(.pick (.t 13) (.c (.bool true)) (.t 16)), (some 17), none, [], []⟩] (σ.kills [11]) K := rfl
theorem e_linesL_2 (C : FuncId → List AV → AV → Prop) (σ : St) (K : St → Prop) : runReg C r_linesL_2 σ K = runOps C [⟨(.callv (.c (.clo 22 [] [])) []), (some 18), none, [], []⟩, ⟨(.mv (.t 18)), (some 4), none, [], []⟩] (σ.kills [18]) K := rfl
theorem e_linesL_3 (C : FuncId → List AV → AV → Prop) (σ : St) (K : St → Prop) : runReg C r_linesL_3 σ K = runOps C [⟨(.load 6 true (.t 2)), (some 19), none, [20], []⟩, ⟨(.callv (.c (.clo 31 [] [])) [(.t 19)]), (some 20), none, [], []⟩, ⟨(.mv (.t 20)), (some 5), none, [], []⟩] (σ.kills [20]) K := rfl
theorem e_linesL_4 (C : FuncId → List AV → AV → Prop) (σ : St) (K : St → Prop) : runReg C r_linesL_4 σ K = runOps C [⟨(.mv (.t 5)), (some 22), none, [23, 6], []⟩, ⟨(.callv (.c (.clo 32 [] [])) [(.t 22)]), (some 23), none, [6], []⟩, ⟨(.mv (.t 23)), (some 21), none, [6], []⟩, ⟨(.ext 0 (.t 21)), (some 24), none, [6], []⟩, ⟨(.ext 1 (.t 21)), (some 25), none, [6], []⟩, ⟨(.alloc 6 34 (.agg [(.int .i64 0), (.str ⟨#[]⟩), (.str ⟨#[]⟩), (.bool false), (.str ⟨#[]⟩), (.int .i64 0)])), (some 6), none, [], []⟩, ⟨(.store 6 (.t 6) (.t 24)), none, none, [], []⟩, ⟨(.mv (.t 25)), (some 7), none, [], []⟩] (σ.kills [23, 6]) K := rfl
theorem e_linesL_5 (C : FuncId → List AV → AV → Prop) (σ : St) (K : St → Prop) : runReg C r_linesL_5 σ K = runOps C [⟨(.mv (.t 5)), (some 26), none, [28, 33], []⟩, ⟨(.load 6 true (.t 2)), (some 27), none, [28, 33], []⟩, ⟨(.callv (.c (.clo 33 [] [])) [(.t 27)]), (some 28), none, [33], []⟩, ⟨(.bin .neq (.t 26) (.t 28)), (some 29), none, [33], []⟩, ⟨(.mv (.t 29)), (some 30), none, [33], []⟩, ⟨(.mv (.t 7)), (some 31), (some (30, false)), [33], []⟩, ⟨(.load 6 true (.t 2)), (some 32), (some (30, false)), [33], []⟩, ⟨(.callv (.c (.clo 24 [] [])) [(.t 32)]), (some 33), (some (30, false)), [], []⟩, ⟨(.beq true (.t 31) (.t 33)), (some 34), (some (30, false)), [], []⟩, ⟨(.pick (.t 30) (.c (.bool true)) (.t 34)), (some 35), none, [], []⟩, ⟨(.mv (.t 35)), (some 36), none, [], []⟩, ⟨(.mv (.t 7)), (some 37), (some (36, false)), [], []⟩, ⟨(.mv (.t 37)), (some 38), (some (36, false)), [], []⟩, ⟨(.load 6 true (.t 6)), (some 39), (some (38, true)), [], []⟩, ⟨(.load 6 true (.t 2)), (some 40), (some (38, true)), [], []⟩, ⟨(.feq true [(0, 0), (1, 1), (2, 1), (3, 2), (4, 1), (5, 0)] (.t 39) (.t 40)), (some 41), (some (38, true)), [], []⟩, ⟨(.pick (.t 38) (.t 41) (.c (.bool false))), (some 42), (some (36, false)), [], []⟩, ⟨(.pick (.t 36) (.c (.bool true)) (.t 42)), (some 43), none, [], []⟩] (σ.kills [28, 33]) K := rfl
theorem e_linesL_6 (C : FuncId → List AV → AV → Prop) (σ : St) (K : St → Prop) : runReg C r_linesL_6 σ K = runOps C [⟨(.mv (.c (.bool false))), (some 4), none, [], []⟩] (σ.kills []) K := rfl
theorem e_linesL_7 (C : FuncId → List AV → AV → Prop) (σ : St) (K : St → Prop) : runReg C r_linesL_7 σ K = runOps C [⟨(.mv (.t 1)), (some 45), none, [46, 8], []⟩, ⟨(.callv (.c (.clo 32 [] [])) [(.t 45)]), (some 46), none, [8], []⟩, ⟨(.mv (.t 46)), (some 44), none, [8], []⟩, ⟨(.ext 0 (.t 44)), (some 47), none, [8], []⟩, ⟨(.ext 1 (.t 44)), (some 48), none, [8], []⟩, ⟨(.alloc 6 34 (.agg [(.int .i64 0), (.str ⟨#[]⟩), (.str ⟨#[]⟩), (.bool false), (.str ⟨#[]⟩), (.int .i64 0)])), (some 8), none, [], []⟩, ⟨(.store 6 (.t 8) (.t 47)), none, none, [], []⟩, ⟨(.mv (.t 48)), (some 9), none, [], []⟩] (σ.kills [46, 8]) K := rfl
theorem e_linesL_8 (C : FuncId → List AV → AV → Prop) (σ : St) (K : St → Prop) : runReg C r_linesL_8 σ K = runOps C [⟨(.mv (.t 9)), (some 49), none, [], []⟩, ⟨(.un .not (.t 49)), (some 50), none, [], []⟩] (σ.kills []) K := rfl
theorem e_linesL_9 (C : FuncId → List AV → AV → Prop) (σ : St) (K : St → Prop) : runReg C r_linesL_9 σ K = runOps C [⟨(.load 6 true (.t 8)), (some 51), none, [55], []⟩, ⟨(.bld [(.int .i64 0), (.str ⟨#[]⟩), (.str ⟨#[]⟩), (.bool false), (.str ⟨#[]⟩), (.int .i64 0)] []), (some 52), none, [55], []⟩, ⟨(.feq false [(0, 0), (1, 1), (2, 1), (3, 2), (4, 1), (5, 0)] (.t 51) (.t 52)), (some 53), none, [55], []⟩, ⟨(.mv (.t 53)), (some 54), none, [55], []⟩, ⟨(.callv (.c (.clo 22 [] [])) []), (some 55), (some (54, true)), [], []⟩, ⟨(.pick (.t 54) (.t 55) (.c (.bool false))), (some 56), none, [], []⟩, ⟨(.mv (.t 56)), (some 4), none, [], []⟩] (σ.kills [55]) K := rfl
theorem e_linesL_10 (C : FuncId → List AV → AV → Prop) (σ : St) (K : St → Prop) : runReg C r_linesL_10 σ K = runOps C [⟨(.load 6 true (.t 8)), (some 57), none, [58, 61, 66], []⟩, ⟨(.callv (.c (.clo 24 [] [])) [(.t 57)]), (some 58), none, [61, 66], []⟩, ⟨(.mv (.t 58)), (some 59), none, [61, 66], []⟩, ⟨(.load 6 true (.t 8)), (some 60), (some (59, true)), [61, 66], []⟩, ⟨(.callv (.c (.clo 33 [] [])) [(.t 60)]), (some 61), (some (59, true)), [66], []⟩, ⟨(.mv (.t 1)), (some 62), (some (59, true)), [66], []⟩, ⟨(.bin .eql (.t 61) (.t 62)), (some 63), (some (59, true)), [66], []⟩, ⟨(.pick (.t 59) (.t 63) (.c (.bool false))), (some 64), none, [66], []⟩, ⟨(.mv (.t 64)), (some 65), none, [66], []⟩, ⟨(.callv (.c (.clo 22 [] [])) []), (some 66), (some (65, true)), [], []⟩, ⟨(.pick (.t 65) (.t 66) (.c (.bool false))), (some 67), none, [], []⟩, ⟨(.mv (.t 67)), (some 4), none, [], []⟩] (σ.kills [58, 61, 66]) K := rfl
theorem fn_linesL {args : List AV} {r : AV} (ha : args.length.ble Tryd.f9.ntmps = true) (h : run (AFn Tryd.prog) ir_linesL (endQ res_linesL r) (initSt args)) : AFn Tryd.prog 9 args r :=
  AFn.of_code (hint := fun _ => []) (c := Tryd.f9.body.getD .skip) (by kernel_rfl) (by kernel_rfl) Tryd.func9 (by kernel_rfl) (by kernel_rfl) (by kernel_rfl) (of_decide_eq_true (by kernel_rfl)) (Nat.le_of_ble_eq_true ha) (Nat.le_of_ble_eq_true (by kernel_rfl)) (run_ok h)

attribute [local go_sem ↓] ir_awake7
attribute [local go_sem] res_awake7 e_awake7_0 e_awake7_1 e_awake7_2
attribute [local go_sem ↓] ir_linesL
attribute [local go_sem] res_linesL e_linesL_0 e_linesL_1 e_linesL_2 e_linesL_3 e_linesL_4 e_linesL_5 e_linesL_6 e_linesL_7 e_linesL_8 e_linesL_9 e_linesL_10

theorem lineX_size (o : Opr) : (lineX o).size ≤ 100000 := by
  unfold lineX
  cases hr : o.right with
  | false => show (⟨#[98, 97, 100]⟩ : ByteArray).size ≤ _; decide
  | true =>
    rw [if_pos rfl]
    obtain ⟨hk1, hk6, hkey, hhi, hval, p1, p2, p3, p4⟩ := right_parts hr
    have q1 := quoteF_size o.key
    have q2 := quoteF_size o.hi
    have q3 := quoteF_size o.val
    have hl : (lineW o).length ≤ 4 := by
      unfold lineW
      simp only [List.length_append, List.length_cons, List.length_nil]
      split <;> (repeat' split) <;> simp <;> (try split <;> simp)
    have hs : ∀ x, x ∈ lineW o → x.size ≤ 1000 := by
      intro x hx
      unfold lineW at hx
      rcases List.mem_append.1 hx with h | h
      · rcases List.mem_append.1 h with h | h
        · rcases List.mem_cons.1 h with rfl | h
          · unfold kindW
            repeat' split
            all_goals decide
          · rw [List.mem_singleton.1 h]; omega
        · split at h
          · rw [List.mem_singleton.1 h]; omega
          · split at h
            · split at h
              · rw [List.mem_singleton.1 h]; decide
              · rw [List.mem_singleton.1 h]; omega
            · simp at h
      · split at h
        · rename_i h6
          rw [h6] at p4
          have l12 : 1 ≤ o.lim ∧ o.lim ≤ 64 := by simpa using p4
          rw [List.mem_singleton.1 h, decS_size]
          have := Lib.itoa_length_le o.lim (by omega) (by omega)
          omega
        · simp at h
    unfold lineO
    generalize lineW o = l at hl hs
    have h1 := join_len (⟨#[32]⟩ : ByteArray).data.toList (l.map (·.data.toList))
    have h2 : ∀ l : List ByteArray, (∀ x, x ∈ l → x.size ≤ 1000) → ((l.map (·.data.toList)).map fun x => x.length + 1).sum ≤ l.length * 1001 := by
      intro l
      induction l with
      | nil => intro _; simp
      | cons y r ih =>
        intro hx
        have a := ih (fun x hxm => hx x (List.mem_cons_of_mem _ hxm))
        have b := hx y (List.mem_cons_self ..)
        have c : y.data.toList.length = y.size := by rw [Array.length_toList]; rfl
        simp only [List.map_cons, List.sum_cons, List.length_cons]
        rw [c]
        omega
    have h3 := h2 l hs
    have e1 : (fun x : List UInt8 => x.length + (⟨#[32]⟩ : ByteArray).data.toList.length) = fun x => x.length + 1 := rfl
    rw [e1] at h1
    show (Lib.join _ _).length ≤ _
    have : l.length * 1001 ≤ 4 * 1001 := Nat.mul_le_mul_right _ hl
    omega
theorem aw_r3 : Opr.right ⟨3, ⟨#[107]⟩, ⟨#[]⟩, false, ⟨#[]⟩, 0⟩ = true := by decide +kernel
theorem aw_r6 : Opr.right ⟨6, ⟨#[97]⟩, ⟨#[]⟩, true, ⟨#[]⟩, 3⟩ = true := by decide +kernel
theorem aw_b3 : bytesO ⟨3, ⟨#[107]⟩, ⟨#[]⟩, false, ⟨#[]⟩, 0⟩ = ⟨#[3, 1, 107]⟩ := by decide +kernel
theorem aw_l6 : lineO ⟨6, ⟨#[97]⟩, ⟨#[]⟩, true, ⟨#[]⟩, 3⟩ = ⟨#[115, 99, 97, 110, 32, 97, 32, 42, 32, 51]⟩ := by
  have e3 : decS 3 = ⟨#[51]⟩ := by
    unfold decS
    rw [itoa_nn (by omega), show Int.toNat 3 = 3 from rfl, dd_small 3 (by omega)]
    rfl
  have e : lineW ⟨6, ⟨#[97]⟩, ⟨#[]⟩, true, ⟨#[]⟩, 3⟩ = [⟨#[115, 99, 97, 110]⟩, quoteF ⟨#[97]⟩, ⟨#[42]⟩, decS 3] := rfl
  unfold lineO
  rw [e, e3, show quoteF ⟨#[97]⟩ = ⟨#[97]⟩ by decide +kernel]
  decide +kernel
theorem awake7_ok : AFn Tryd.prog 22 [] (.bool true) := by
  refine fn_awake7 rfl ?_
  have h1 := bytes_ok ⟨3, ⟨#[107]⟩, ⟨#[]⟩, false, ⟨#[]⟩, 0⟩ aw_r3
  rw [aw_b3] at h1
  have h2 := oLine_ok ⟨6, ⟨#[97]⟩, ⟨#[]⟩, true, ⟨#[]⟩, 3⟩ aw_r6
  rw [aw_l6] at h2
  have h3 := oRight_ok Opr.zero (by decide)
  rw [show Opr.zero.right = false by decide +kernel] at h3
  (simp (maxSteps := 4000000) only [go_sem, ↓reduceIte, reduceCtorEq, Nat.reduceEqDiff, Nat.reduceBEq, Nat.reduceAdd, Nat.reduceSub, Nat.reduceMul, Nat.reduceLT, Nat.reduceLeDiff, Nat.reduceBNe, Int.reduceBEq, Int.reduceBNe, Int.reduceLT, Int.reduceLE, Opr.a, Spn.a, nul, beq_self_eq_true]; (repeat (first | refine And.intro (by omega) ?_ | refine And.intro (fun d hd => by rcases hd with rfl | hd; exact ⟨rfl, rfl⟩; cases hd) ?_)); repeat ((first | refine calling (h1) ?_ | refine callingH (h1) ?_ | refine calling (h2) ?_ | refine callingH (h2) ?_ | refine calling (h3) ?_ | refine callingH (h3) ?_); try (simp (maxSteps := 4000000) only [go_sem, ↓reduceIte, reduceCtorEq, Nat.reduceEqDiff, Nat.reduceBEq, Nat.reduceAdd, Nat.reduceSub, Nat.reduceMul, Nat.reduceLT, Nat.reduceLeDiff, Nat.reduceBNe, Int.reduceBEq, Int.reduceBNe, Int.reduceLT, Int.reduceLE, Opr.a, Spn.a, nul, beq_self_eq_true]); (repeat (first | refine And.intro (by omega) ?_ | refine And.intro (fun d hd => by rcases hd with rfl | hd; exact ⟨rfl, rfl⟩; cases hd) ?_))))
theorem opEq (o : Opr) : valF (Opr.a o).av (Opr.a o).av [(0, 0), (1, 1), (2, 1), (3, 2), (4, 1), (5, 0)] = true := by
  simp [Opr.a, AV.av, valF, cellEq]
theorem parse_no {s : ByteArray} (h : (parseF s).2 = false) : (parseF s).1 = Opr.zero := by
  unfold parseF at h ⊢
  simp only at h ⊢
  split at h
  · cases h
  · rename_i hc; rw [if_neg hc]
theorem parse_bad : (parseF ⟨#[98, 97, 100]⟩).2 = false := by
  have h : (parseO (wordsP ⟨#[98, 97, 100]⟩)).right = false := by decide +kernel
  unfold parseF
  simp only
  rw [h]; rfl
theorem linesL_law (o : Opr) (s : ByteArray) (hs : s.size ≤ 281474976710656) : AFn Tryd.prog 9 [o.a, .str s] (.bool true) := by
  refine fn_linesL rfl ?_
  have hl := rLong_ok o 300
  cases h3 : o.long 300 with
  | false =>
    rw [h3] at hl
    (simp (maxSteps := 4000000) only [go_sem, ↓reduceIte, reduceCtorEq, Nat.reduceEqDiff, Nat.reduceBEq, Nat.reduceAdd, Nat.reduceSub, Nat.reduceMul, Nat.reduceLT, Nat.reduceLeDiff, Nat.reduceBNe, Int.reduceBEq, Int.reduceBNe, Int.reduceLT, Int.reduceLE, Opr.a, Spn.a, nul]; (repeat (first | refine And.intro (by omega) ?_ | refine And.intro (fun d hd => by rcases hd with rfl | hd; exact ⟨rfl, rfl⟩; cases hd) ?_)); repeat ((first | refine calling (hl) ?_ | refine callingH (hl) ?_ | refine calling (awake7_ok) ?_ | refine callingH (awake7_ok) ?_); try (simp (maxSteps := 4000000) only [go_sem, ↓reduceIte, reduceCtorEq, Nat.reduceEqDiff, Nat.reduceBEq, Nat.reduceAdd, Nat.reduceSub, Nat.reduceMul, Nat.reduceLT, Nat.reduceLeDiff, Nat.reduceBNe, Int.reduceBEq, Int.reduceBNe, Int.reduceLT, Int.reduceLE, Opr.a, Spn.a, nul]); (repeat (first | refine And.intro (by omega) ?_ | refine And.intro (fun d hd => by rcases hd with rfl | hd; exact ⟨rfl, rfl⟩; cases hd) ?_))))
  | true =>
    rw [h3] at hl
    by_cases hb : (300 : Int) < s.size
    · (simp (maxSteps := 4000000) only [go_sem, ↓reduceIte, reduceCtorEq, Nat.reduceEqDiff, Nat.reduceBEq, Nat.reduceAdd, Nat.reduceSub, Nat.reduceMul, Nat.reduceLT, Nat.reduceLeDiff, Nat.reduceBNe, Int.reduceBEq, Int.reduceBNe, Int.reduceLT, Int.reduceLE, Opr.a, Spn.a, nul, hb]; (repeat (first | refine And.intro (by omega) ?_ | refine And.intro (fun d hd => by rcases hd with rfl | hd; exact ⟨rfl, rfl⟩; cases hd) ?_)); repeat ((first | refine calling (hl) ?_ | refine callingH (hl) ?_ | refine calling (awake7_ok) ?_ | refine callingH (awake7_ok) ?_); try (simp (maxSteps := 4000000) only [go_sem, ↓reduceIte, reduceCtorEq, Nat.reduceEqDiff, Nat.reduceBEq, Nat.reduceAdd, Nat.reduceSub, Nat.reduceMul, Nat.reduceLT, Nat.reduceLeDiff, Nat.reduceBNe, Int.reduceBEq, Int.reduceBNe, Int.reduceLT, Int.reduceLE, Opr.a, Spn.a, nul, hb]); (repeat (first | refine And.intro (by omega) ?_ | refine And.intro (fun d hd => by rcases hd with rfl | hd; exact ⟨rfl, rfl⟩; cases hd) ?_))))
    have hk : o.key.size ≤ 300 ∧ o.hi.size ≤ 300 ∧ o.val.size ≤ 300 := by
      unfold Opr.long at h3
      simp only [Bool.and_eq_true, decide_eq_true_eq] at h3
      omega
    have hR := rRight_ok o (by omega) (by omega)
    have hX := oLineX o (by omega)
    have hx := rLineX o (by omega) (by omega)
    have hP := oParse_ok (lineX o) (Nat.le_trans (lineX_size o) (by omega))
    have hS := oParse_ok s (by omega)
    have hQ := rRight_ok (parseF s).1
    have hY := rLineX (parseF s).1
    -- the second half
    cases hr : o.right with
    | false =>
      have e : lineX o = ⟨#[98, 97, 100]⟩ := by unfold lineX; rw [hr]; rfl
      have e2 : (parseF (lineX o)).2 = false := by rw [e]; exact parse_bad
      rw [parse_no e2, e2] at hP
      rw [hr] at hR
      cases h2 : (parseF s).2 with
      | false =>
        rw [parse_no h2, h2] at hS
        (simp (maxSteps := 4000000) only [go_sem, ↓reduceIte, reduceCtorEq, Nat.reduceEqDiff, Nat.reduceBEq, Nat.reduceAdd, Nat.reduceSub, Nat.reduceMul, Nat.reduceLT, Nat.reduceLeDiff, Nat.reduceBNe, Int.reduceBEq, Int.reduceBNe, Int.reduceLT, Int.reduceLE, Opr.a, Spn.a, nul, hb, bne_self_eq_false, beq_self_eq_true, Opr.zero]; (repeat (first | refine And.intro (by omega) ?_ | refine And.intro (fun d hd => by rcases hd with rfl | hd; exact ⟨rfl, rfl⟩; cases hd) ?_)); repeat ((first | refine calling (hl) ?_ | refine callingH (hl) ?_ | refine calling (hX) ?_ | refine callingH (hX) ?_ | refine calling (hP) ?_ | refine callingH (hP) ?_ | refine calling (hx) ?_ | refine callingH (hx) ?_ | refine calling (hR) ?_ | refine callingH (hR) ?_ | refine calling (hS) ?_ | refine callingH (hS) ?_ | refine calling (awake7_ok) ?_ | refine callingH (awake7_ok) ?_); try (simp (maxSteps := 4000000) only [go_sem, ↓reduceIte, reduceCtorEq, Nat.reduceEqDiff, Nat.reduceBEq, Nat.reduceAdd, Nat.reduceSub, Nat.reduceMul, Nat.reduceLT, Nat.reduceLeDiff, Nat.reduceBNe, Int.reduceBEq, Int.reduceBNe, Int.reduceLT, Int.reduceLE, Opr.a, Spn.a, nul, hb, bne_self_eq_false, beq_self_eq_true, Opr.zero]); (repeat (first | refine And.intro (by omega) ?_ | refine And.intro (fun d hd => by rcases hd with rfl | hd; exact ⟨rfl, rfl⟩; cases hd) ?_))))
      | true =>
        obtain ⟨r1, r2⟩ := parse_of h2
        obtain ⟨_, _, z1, z2, z3, _⟩ := right_parts r1
        have hQ := hQ (by omega) (by omega)
        have hY := hY (by omega) (by omega)
        rw [h2] at hS
        rw [r1] at hQ
        rw [r2] at hY
        generalize (parseF s).1 = q at *
        obtain ⟨kind, key, hi, op, val, lim⟩ := q
        (simp (maxSteps := 4000000) only [go_sem, ↓reduceIte, reduceCtorEq, Nat.reduceEqDiff, Nat.reduceBEq, Nat.reduceAdd, Nat.reduceSub, Nat.reduceMul, Nat.reduceLT, Nat.reduceLeDiff, Nat.reduceBNe, Int.reduceBEq, Int.reduceBNe, Int.reduceLT, Int.reduceLE, Opr.a, Spn.a, nul, hb, bne_self_eq_false, beq_self_eq_true, Opr.zero]; (repeat (first | refine And.intro (by omega) ?_ | refine And.intro (fun d hd => by rcases hd with rfl | hd; exact ⟨rfl, rfl⟩; cases hd) ?_)); repeat ((first | refine calling (hl) ?_ | refine callingH (hl) ?_ | refine calling (hX) ?_ | refine callingH (hX) ?_ | refine calling (hP) ?_ | refine callingH (hP) ?_ | refine calling (hx) ?_ | refine callingH (hx) ?_ | refine calling (hR) ?_ | refine callingH (hR) ?_ | refine calling (hS) ?_ | refine callingH (hS) ?_ | refine calling (hQ) ?_ | refine callingH (hQ) ?_ | refine calling (hY) ?_ | refine callingH (hY) ?_ | refine calling (awake7_ok) ?_ | refine callingH (awake7_ok) ?_); try (simp (maxSteps := 4000000) only [go_sem, ↓reduceIte, reduceCtorEq, Nat.reduceEqDiff, Nat.reduceBEq, Nat.reduceAdd, Nat.reduceSub, Nat.reduceMul, Nat.reduceLT, Nat.reduceLeDiff, Nat.reduceBNe, Int.reduceBEq, Int.reduceBNe, Int.reduceLT, Int.reduceLE, Opr.a, Spn.a, nul, hb, bne_self_eq_false, beq_self_eq_true, Opr.zero]); (repeat (first | refine And.intro (by omega) ?_ | refine And.intro (fun d hd => by rcases hd with rfl | hd; exact ⟨rfl, rfl⟩; cases hd) ?_))))
    | true =>
      rw [parse_line o hr] at hP
      rw [hr] at hR
      have he := opEq o
      cases h2 : (parseF s).2 with
      | false =>
        rw [parse_no h2, h2] at hS
        generalize lineX o = lx at *
        obtain ⟨kind, key, hi, op, val, lim⟩ := o
        (simp (maxSteps := 4000000) only [go_sem, ↓reduceIte, reduceCtorEq, Nat.reduceEqDiff, Nat.reduceBEq, Nat.reduceAdd, Nat.reduceSub, Nat.reduceMul, Nat.reduceLT, Nat.reduceLeDiff, Nat.reduceBNe, Int.reduceBEq, Int.reduceBNe, Int.reduceLT, Int.reduceLE, Opr.a, Spn.a, nul, hb, bne_self_eq_false, beq_self_eq_true, Opr.zero]; (repeat (first | refine And.intro (by omega) ?_ | refine And.intro (fun d hd => by rcases hd with rfl | hd; exact ⟨rfl, rfl⟩; cases hd) ?_)); repeat ((first | refine calling (hl) ?_ | refine callingH (hl) ?_ | refine calling (hX) ?_ | refine callingH (hX) ?_ | refine calling (hP) ?_ | refine callingH (hP) ?_ | refine calling (hx) ?_ | refine callingH (hx) ?_ | refine calling (hR) ?_ | refine callingH (hR) ?_ | refine calling (hS) ?_ | refine callingH (hS) ?_ | refine calling (awake7_ok) ?_ | refine callingH (awake7_ok) ?_); try (simp (maxSteps := 4000000) only [go_sem, ↓reduceIte, reduceCtorEq, Nat.reduceEqDiff, Nat.reduceBEq, Nat.reduceAdd, Nat.reduceSub, Nat.reduceMul, Nat.reduceLT, Nat.reduceLeDiff, Nat.reduceBNe, Int.reduceBEq, Int.reduceBNe, Int.reduceLT, Int.reduceLE, Opr.a, Spn.a, nul, hb, bne_self_eq_false, beq_self_eq_true, Opr.zero]); (repeat (first | refine And.intro (by omega) ?_ | refine And.intro (fun d hd => by rcases hd with rfl | hd; exact ⟨rfl, rfl⟩; cases hd) ?_))))
      | true =>
        obtain ⟨r1, r2⟩ := parse_of h2
        obtain ⟨_, _, z1, z2, z3, _⟩ := right_parts r1
        have hQ := hQ (by omega) (by omega)
        have hY := hY (by omega) (by omega)
        rw [h2] at hS
        rw [r1] at hQ
        rw [r2] at hY
        generalize (parseF s).1 = q at *
        generalize lineX o = lx at *
        obtain ⟨kind, key, hi, op, val, lim⟩ := o
        obtain ⟨kind2, key2, hi2, op2, val2, lim2⟩ := q
        (simp (maxSteps := 4000000) only [go_sem, ↓reduceIte, reduceCtorEq, Nat.reduceEqDiff, Nat.reduceBEq, Nat.reduceAdd, Nat.reduceSub, Nat.reduceMul, Nat.reduceLT, Nat.reduceLeDiff, Nat.reduceBNe, Int.reduceBEq, Int.reduceBNe, Int.reduceLT, Int.reduceLE, Opr.a, Spn.a, nul, hb, bne_self_eq_false, beq_self_eq_true, Opr.zero]; (repeat (first | refine And.intro (by omega) ?_ | refine And.intro (fun d hd => by rcases hd with rfl | hd; exact ⟨rfl, rfl⟩; cases hd) ?_)); repeat ((first | refine calling (hl) ?_ | refine callingH (hl) ?_ | refine calling (hX) ?_ | refine callingH (hX) ?_ | refine calling (hP) ?_ | refine callingH (hP) ?_ | refine calling (hx) ?_ | refine callingH (hx) ?_ | refine calling (hR) ?_ | refine callingH (hR) ?_ | refine calling (hS) ?_ | refine callingH (hS) ?_ | refine calling (hQ) ?_ | refine callingH (hQ) ?_ | refine calling (hY) ?_ | refine callingH (hY) ?_ | refine calling (awake7_ok) ?_ | refine callingH (awake7_ok) ?_); try (simp (maxSteps := 4000000) only [go_sem, ↓reduceIte, reduceCtorEq, Nat.reduceEqDiff, Nat.reduceBEq, Nat.reduceAdd, Nat.reduceSub, Nat.reduceMul, Nat.reduceLT, Nat.reduceLeDiff, Nat.reduceBNe, Int.reduceBEq, Int.reduceBNe, Int.reduceLT, Int.reduceLE, Opr.a, Spn.a, nul, hb, bne_self_eq_false, beq_self_eq_true, Opr.zero]); (repeat (first | refine And.intro (by omega) ?_ | refine And.intro (fun d hd => by rcases hd with rfl | hd; exact ⟨rfl, rfl⟩; cases hd) ?_))))

def Opr.vals (o : Opr) : List Value := [.int .i64 o.kind, .string o.key, .string o.hi, .bool o.op, .string o.val, .int .i64 o.lim]
def Opr.inR (o : Opr) : Prop := inI o.kind ∧ inI o.lim ∧ o.key.size ≤ 281474976710656 ∧ o.hi.size ≤ 281474976710656 ∧ o.val.size ≤ 281474976710656
section
open Go.ChangeShapes Go.WideShapes Go.ChangeAt
theorem Opr.of_trod {H : Type} {enc : TypeId × Value → H} {w : World} {sp : Nat → Bool} {held : Bool} {fuel : Nat} {cs : Array Value} {x : DataW H × List MemPlace} (hl : cs.size = Tryd.prog.cellsOf 34) (hw : (x.1.weights Tryd.prog 34).all (· ≤ reachBytes) = true)
    (h : DataW.trod enc Tryd.prog w 0 sp held fuel 34 cs.toList = some x) : ∃ o : Opr, cs = o.vals.toArray ∧ o.inR := by
  have c3 : Tryd.prog.cellsOf 3 = 1 := by kernel_rfl
  have c9 : Tryd.prog.cellsOf 9 = 1 := by kernel_rfl
  have c4 : Tryd.prog.cellsOf 4 = 1 := by kernel_rfl
  have c6 : Tryd.prog.cellsOf 34 = 6 := by kernel_rfl
  rw [c6] at hl
  obtain ⟨xs, n', _, rfl, hl2, hxs, hf⟩ := DataW.trod_struct Tryd.underlying34 h
  obtain ⟨l, rfl⟩ : ∃ l : List Value, cs = l.toArray := ⟨cs.toList, by simp⟩
  have hl : l.length = 6 := by simpa using hl
  match l, hl, xs, hxs with
  | [v0, v1, v2, v3, v4, v5], _, [y0, y1, y2, y3, y4, y5], _ =>
    have h0 := hf 0 _ rfl
    have h1 := hf 1 _ rfl
    have h2 := hf 2 _ rfl
    have h3 := hf 3 _ rfl
    have h4 := hf 4 _ rfl
    have h5 := hf 5 _ rfl
    simp only [c3, c9, c4, List.drop_zero, List.drop_succ_cons, List.take_succ_cons, List.take_zero, List.getElem?_cons_zero, List.getElem?_cons_succ] at h0 h1 h2 h3 h4 h5
    obtain ⟨n0, e0, r0, b0⟩ := DataW.trod_int Tryd.underlying3 h0
    obtain ⟨s1, e1, r1, b1⟩ := DataW.trod_string Tryd.underlying9 h1
    obtain ⟨s2, e2, r2, b2⟩ := DataW.trod_string Tryd.underlying9 h2
    obtain ⟨o3, e3, r3⟩ := DataW.trod_bool Tryd.underlying4 h3
    obtain ⟨s4, e4, r4, b4⟩ := DataW.trod_string Tryd.underlying9 h4
    obtain ⟨n5, e5, r5, b5⟩ := DataW.trod_int Tryd.underlying3 h5
    cases e0; cases e1; cases e2; cases e3; cases e4; cases e5
    subst r0; subst r1; subst r2; subst r3; subst r4; subst r5
    simp only [DataW.weights, Tryd.underlying34, List.map_cons, List.map_nil] at hw
    refine ⟨⟨n0, s1, s2, o3, s4, n5⟩, rfl, bounds_i64 b0, bounds_i64 b5, str_reach (weightsEach_mem hw 1 _ _ rfl rfl), str_reach (weightsEach_mem hw 2 _ _ rfl rfl), str_reach (weightsEach_mem hw 4 _ _ rfl rfl)⟩
end
theorem Opr.vr (o : Opr) (Q : Nat → Nat → Prop) (w : World) : VR Q w o.a (.agg o.vals.toArray) := by
  refine .agg _ _ rfl fun j c v hc hv => ?_
  match j with
  | 0 => cases hc; cases hv; exact .int _ _
  | 1 => cases hc; cases hv; exact .str _
  | 2 => cases hc; cases hv; exact .str _
  | 3 => cases hc; cases hv; exact .bool _
  | 4 => cases hc; cases hv; exact .str _
  | 5 => cases hc; cases hv; exact .int _ _
  | n + 6 => simp at hc

theorem linesL_walk (o : Opr) (a : ByteArray) (w : World) (hG : Glob w) (h : o.inR) (h1 : a.size ≤ 281474976710656) : Calls Tryd.prog 9 #[.agg o.vals.toArray, .string a] w fun e w' => e = .returned (.bool true) ∧ Below w.heap.size w w' := by
  refine run_args (vs := [.agg o.vals.toArray, .string a]) hG rfl (fun j d u hj hu => ?_) (linesL_law o a h1)
  match j with
  | 0 => cases hj; cases hu; exact o.vr _ _
  | 1 => cases hj; cases hu; exact .str _
  | j + 2 => simp at hj
end Go.Proofs.YtgpoglaojklfbaaDoor
