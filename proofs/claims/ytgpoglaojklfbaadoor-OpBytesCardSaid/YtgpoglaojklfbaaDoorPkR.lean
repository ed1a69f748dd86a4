/-
  Layer 7: the laws OpBytes and OpOf.
-/
import Derived.Test.YtgpoglaojklfbaaDoorPkN
import Derived.Test.YtgpoglaojklfbaaDoorPkO2
import Derived.Test.YtgpoglaojklfbaaDoorPkQ
import Derived.SizedLaws
namespace Go.Proofs.YtgpoglaojklfbaaDoor
open Go.RowKit
set_option linter.unusedVariables false
set_option linter.unusedSimpArgs false
set_option maxRecDepth 100000
attribute [local go_sem ↓] runOp headOp
attribute [local go_sem] ev0 ev1 ev2 ev3 ev4 evA stHOk.eq_1 stHOk.eq_2 stHSt.eq_1 stHSt.eq_2 okV valV fzV okF valF okBld valBld mxOk.eq_1 mxOk.eq_2 mxVal.eq_1 mxVal.eq_2 cellFit.eq_1 cellFit.eq_2 cellFit.eq_3 cellEq.eq_1 cellEq.eq_2 cellEq.eq_3 upd_at AV.flatB AV.flatBs binIok binIV binSok binSV cellsOk.eq_1 cellsOk.eq_2 cellsVal.eq_1 cellsVal.eq_2 objCells.eq_1 objCells.eq_2 objZ.eq_1 objZ.eq_2 objProt.eq_1 objProt.eq_2 oneObj ptrOk.eq_1 ptrOk.eq_2 ptrOk.eq_3 ptrCells.eq_1 ptrCells.eq_2 ptrCells.eq_3 lenOk.eq_1 lenOk.eq_2 lenOk.eq_3 lenOk.eq_4 lenVal.eq_1 lenVal.eq_2 lenVal.eq_3 lenVal.eq_4 faOk.eq_1 faOk.eq_2 faOk.eq_3 faVal.eq_1 faVal.eq_2 faVal.eq_3 iaOk.eq_1 iaOk.eq_2 iaOk.eq_3 iaVal.eq_1 iaVal.eq_2 iaVal.eq_3 slcLen.eq_1 slcLen.eq_2 slcLen.eq_3 slcLen.eq_4 bdOk.eq_1 bdOk.eq_2 bdVal.eq_1 bdVal.eq_2 slcOk.eq_1 slcOk.eq_2 slcOk.eq_3 slcOk.eq_4 slcVal.eq_1 slcVal.eq_2 slcVal.eq_3 slcVal.eq_4 slcFz.eq_1 slcFz.eq_2 byOk.eq_1 byOk.eq_2 byOk.eq_3 byOk.eq_4 byOk.eq_5 byOk.eq_6 byVal.eq_1 byVal.eq_2 byVal.eq_3 byFz.eq_1 byFz.eq_2 byFz.eq_3 byOks byVals byFzs allOne resSt.eq_1 resSt.eq_2 resName.eq_1 resName.eq_2 stOk.eq_1 stOk.eq_2 stArr.eq_1 stArr.eq_2 stSt.eq_1 stSt.eq_2 AV.patch nameOk_none gB.eq_1 gB.eq_2 gB.eq_3 gIs.eq_1 gIs.eq_2 gIs.eq_3 retV resV resVs evalV cellsV St.byval List.getD_cons_zero List.getD_cons_succ List.getD_nil List.map_cons List.map_nil List.length_cons List.length_nil List.take_succ_cons List.take_zero List.drop_succ_cons List.drop_zero List.headD_cons List.set_cons_zero List.append_nil List.nil_append List.cons_append List.contains_cons List.contains_nil List.elem_cons List.elem_nil List.all_cons List.all_nil List.getElem?_cons_zero List.getElem?_cons_succ List.filterMap_cons List.filterMap_nil Option.isSome_some Option.isSome_none Option.map_some Option.map_none Option.some.injEq AV.int.injEq AV.bool.injEq AV.str.injEq AV.tup.injEq AV.agg.injEq AV.sl.injEq List.cons.injEq Bool.false_eq_true Bool.true_eq_false Bool.not_true Bool.not_false Bool.and_true Bool.true_and Bool.or_false Bool.or_true Bool.false_or Bool.true_or Bool.or_self Bool.and_self Bool.not_eq_true' Bool.not_eq_false' Bool.not_not beq_self_eq_true true_and and_true false_and and_false and_self not_true_eq_false not_false_eq_true forall_const true_implies false_implies implies_true imp_self Nat.lt_add_one Nat.le_refl Nat.zero_le Nat.add_zero Nat.zero_add decide_true decide_false decide_eq_true_eq decide_eq_false_iff_not exists_eq_left exists_eq_left' ge_iff_le gt_iff_lt ite_branch ite_branch' nilOk.eq_1 nilOk.eq_2 nilMay.eq_1 nilMay.eq_2 AV.isSl.eq_1 objTy'.eq_1 objTy'.eq_2 apSt.eq_1 apArr.eq_1 apArr.eq_2 slOf.eq_1 fitsV List.mem_cons List.not_mem_nil Bool.false_and Bool.and_false primOk.eq_1 primOk.eq_2 primOk.eq_3 primOk.eq_4 primOk.eq_5 primVal.eq_1 primVal.eq_2 primVal.eq_3 primVal.eq_4 primVal.eq_5 mOk.eq_1 mOk.eq_2 mVal.eq_1 mVal.eq_2 mFz.eq_1 mFz.eq_2 mOks mVals mFzs mCalOk.eq_1 mCalOk.eq_2 mFn.eq_1 mFn.eq_2 mArgs.eq_1 mArgs.eq_2 ckOk.eq_1 ckOk.eq_2 cloOk.eq_1 ptrAt.eq_1 sh.eq_1 sh.eq_2 sh.eq_3 sh.eq_4 retM shH_small
/-! ### percolate/percolatelaw07.awake -/
def r_awake7_0 : Reg := ⟨[], [⟨(.mv (.c (.bool false))), (some 0), none, [], []⟩], [], [], false⟩
def r_awake7_1 : Reg := ⟨[], [⟨(.bld [(.int .i64 0), (.str ⟨#[]⟩), (.str ⟨#[]⟩), (.bool false), (.str ⟨#[]⟩), (.int .i64 0)] [⟨0, 1, (.c (.int .i64 3))⟩, ⟨1, 1, (.c (.str ⟨#[107]⟩))⟩]), (some 4), none, [5], []⟩, ⟨(.callv (.c (.clo 23 [] [])) [(.t 4)]), (some 5), none, [], []⟩, ⟨(.mv (.t 5)), (some 3), none, [], []⟩, ⟨(.ext 0 (.t 3)), (some 6), none, [], []⟩, ⟨(.ext 1 (.t 3)), (some 7), none, [], []⟩, ⟨(.mv (.t 6)), (some 1), none, [], []⟩, ⟨(.mv (.t 7)), (some 2), none, [], []⟩], [5], [], false⟩
def r_awake7_2 : Reg := ⟨[], [⟨(.mv (.t 2)), (some 8), none, [15, 20], []⟩, ⟨(.mv (.t 8)), (some 9), none, [15, 20], []⟩, ⟨(.mv (.t 1)), (some 10), (some (9, true)), [15, 20], []⟩, ⟨(.bin .eql (.t 10) (.c (.str ⟨#[3, 1, 107]⟩))), (some 11), (some (9, true)), [15, 20], []⟩, ⟨(.pick (.t 9) (.t 11) (.c (.bool false))), (some 12), none, [15, 20], []⟩, ⟨(.mv (.t 12)), (some 13), none, [15, 20], []⟩, ⟨(.bld [(.int .i64 0), (.str ⟨#[]⟩), (.str ⟨#[]⟩), (.bool false), (.str ⟨#[]⟩), (.int .i64 0)] [⟨0, 1, (.c (.int .i64 6))⟩, ⟨1, 1, (.c (.str ⟨#[97]⟩))⟩, ⟨3, 1, (.c (.bool true))⟩, ⟨5, 1, (.c (.int .i64 3))⟩]), (some 14), (some (13, true)), [15, 20], []⟩, ⟨(.callv (.c (.clo 31 [] [])) [(.t 14)]), (some 15), (some (13, true)), [20], []⟩, ⟨(.bin .eql (.t 15) (.c (.str ⟨#[115, 99, 97, 110, 32, 97, 32, 42, 32, 51]⟩))), (some 16), (some (13, true)), [20], []⟩, ⟨(.pick (.t 13) (.t 16) (.c (.bool false))), (some 17), none, [20], []⟩, ⟨(.mv (.t 17)), (some 18), none, [20], []⟩, ⟨(.bld [(.int .i64 0), (.str ⟨#[]⟩), (.str ⟨#[]⟩), (.bool false), (.str ⟨#[]⟩), (.int .i64 0)] []), (some 19), (some (18, true)), [20], []⟩, ⟨(.callv (.c (.clo 42 [] [])) [(.t 19)]), (some 20), (some (18, true)), [], []⟩, ⟨(.bin .eql (.t 20) (.c (.int .i64 3))), (some 21), (some (18, true)), [], []⟩, ⟨(.pick (.t 18) (.t 21) (.c (.bool false))), (some 22), none, [], []⟩, ⟨(.mv (.t 22)), (some 0), none, [], []⟩], [15, 20], [], false⟩
def ir_awake7 : IR := (.seq (.reg r_awake7_0)
  (.seq (.reg r_awake7_1)
  (.seq (.reg r_awake7_2)
  .ret)))
def res_awake7 : List RDesc := [(.tmp 0)]
theorem e_awake7_0 (C : FuncId → List AV → AV → Prop) (σ : St) (K : St → Prop) : runReg C r_awake7_0 σ K = runOps C [⟨(.mv (.c (.bool false))), (some 0), none, [], []⟩] (σ.kills []) K := rfl
theorem e_awake7_1 (C : FuncId → List AV → AV → Prop) (σ : St) (K : St → Prop) : runReg C r_awake7_1 σ K = runOps C [⟨(.bld [(.int .i64 0), (.str ⟨#[]⟩), (.str ⟨#[]⟩), (.bool false), (.str ⟨#[]⟩), (.int .i64 0)] [⟨0, 1, (.c (.int .i64 3))⟩, ⟨1, 1, (.c (.str ⟨#[107]⟩))⟩]), (some 4), none, [5], []⟩, ⟨(.callv (.c (.clo 23 [] [])) [(.t 4)]), (some 5), none, [], []⟩, ⟨(.mv (.t 5)), (some 3), none, [], []⟩, ⟨(.ext 0 (.t 3)), (some 6), none, [], []⟩, ⟨(.ext 1 (.t 3)), (some 7), none, [], []⟩, ⟨(.mv (.t 6)), (some 1), none, [], []⟩, ⟨(.mv (.t 7)), (some 2), none, [], []⟩] (σ.kills [5]) K := rfl
theorem e_awake7_2 (C : FuncId → List AV → AV → Prop) (σ : St) (K : St → Prop) : runReg C r_awake7_2 σ K = runOps C [⟨(.mv (.t 2)), (some 8), none, [15, 20], []⟩, ⟨(.mv (.t 8)), (some 9), none, [15, 20], []⟩, ⟨(.mv (.t 1)), (some 10), (some (9, true)), [15, 20], []⟩, ⟨(.bin .eql (.t 10) (.c (.str ⟨#[3, 1, 107]⟩))), (some 11), (some (9, true)), [15, 20], []⟩, ⟨(.pick (.t 9) (.t 11) (.c (.bool false))), (some 12), none, [15, 20], []⟩, ⟨(.mv (.t 12)), (some 13), none, [15, 20], []⟩, ⟨(.bld [(.int .i64 0), (.str ⟨#[]⟩), (.str ⟨#[]⟩), (.bool false), (.str ⟨#[]⟩), (.int .i64 0)] [⟨0, 1, (.c (.int .i64 6))⟩, ⟨1, 1, (.c (.str ⟨#[97]⟩))⟩, ⟨3, 1, (.c (.bool true))⟩, ⟨5, 1, (.c (.int .i64 3))⟩]), (some 14), (some (13, true)), [15, 20], []⟩, ⟨(.callv (.c (.clo 31 [] [])) [(.t 14)]), (some 15), (some (13, true)), [20], []⟩, ⟨(.bin .eql (.t 15) (.c (.str ⟨#[115, 99, 97, 110, 32, 97, 32, 42, 32, 51]⟩))), (some 16), (some (13, true)), [20], []⟩, ⟨(.pick (.t 13) (.t 16) (.c (.bool false))), (some 17), none, [20], []⟩, ⟨(.mv (.t 17)), (some 18), none, [20], []⟩, ⟨(.bld [(.int .i64 0), (.str ⟨#[]⟩), (.str ⟨#[]⟩), (.bool false), (.str ⟨#[]⟩), (.int .i64 0)] []), (some 19), (some (18, true)), [20], []⟩, ⟨(.callv (.c (.clo 42 [] [])) [(.t 19)]), (some 20), (some (18, true)), [], []⟩, ⟨(.bin .eql (.t 20) (.c (.int .i64 3))), (some 21), (some (18, true)), [], []⟩, ⟨(.pick (.t 18) (.t 21) (.c (.bool false))), (some 22), none, [], []⟩, ⟨(.mv (.t 22)), (some 0), none, [], []⟩] (σ.kills [15, 20]) K := rfl
theorem fn_awake7 {args : List AV} {r : AV} (ha : args.length.ble Tryd.f22.ntmps = true) (h : run (AFn Tryd.prog) ir_awake7 (endQ res_awake7 r) (initSt args)) : AFn Tryd.prog 22 args r :=
  AFn.of_code (hint := fun _ => []) (c := Tryd.f22.body.getD .skip) (by kernel_rfl) (by kernel_rfl) Tryd.func22 (by kernel_rfl) (by kernel_rfl) (by kernel_rfl) (of_decide_eq_true (by kernel_rfl)) (Nat.le_of_ble_eq_true ha) (Nat.le_of_ble_eq_true (by kernel_rfl)) (run_ok h)

/-! ### percolate/percolatelaw07.OpBytes -/
def r_bytesL_0 : Reg := ⟨[], [⟨(.box 6 34 (.t 0)), (some 1), none, [], []⟩, ⟨(.mv (.c (.bool false))), (some 2), none, [], []⟩], [1], [], false⟩
def r_bytesL_1 : Reg := ⟨[], [⟨(.load 6 true (.t 1)), (some 7), none, [8], []⟩, ⟨(.callv (.c (.clo 21 [] [])) [(.t 7), (.c (.int .i64 300))]), (some 8), none, [], []⟩, ⟨(.un .not (.t 8)), (some 9), none, [], []⟩], [8], [], false⟩
def r_bytesL_2 : Reg := ⟨[], [⟨(.callv (.c (.clo 22 [] [])) []), (some 10), none, [], []⟩, ⟨(.mv (.t 10)), (some 2), none, [], []⟩], [10], [], false⟩
def r_bytesL_3 : Reg := ⟨[], [⟨(.load 6 true (.t 1)), (some 12), none, [13], []⟩, ⟨(.callv (.c (.clo 23 [] [])) [(.t 12)]), (some 13), none, [], []⟩, ⟨(.mv (.t 13)), (some 11), none, [], []⟩, ⟨(.ext 0 (.t 11)), (some 14), none, [], []⟩, ⟨(.ext 1 (.t 11)), (some 15), none, [], []⟩, ⟨(.mv (.t 14)), (some 3), none, [], []⟩, ⟨(.mv (.t 15)), (some 4), none, [], []⟩], [13], [], false⟩
def r_bytesL_4 : Reg := ⟨[], [⟨(.load 6 true (.t 1)), (some 16), none, [17], []⟩, ⟨(.callv (.c (.clo 24 [] [])) [(.t 16)]), (some 17), none, [], []⟩, ⟨(.un .not (.t 17)), (some 18), none, [], []⟩], [17], [], false⟩
def r_bytesL_5 : Reg := ⟨[], [⟨(.mv (.t 3)), (some 19), none, [26], []⟩, ⟨(.bin .eql (.t 19) (.c (.str ⟨#[]⟩))), (some 20), none, [26], []⟩, ⟨(.mv (.t 20)), (some 21), none, [26], []⟩, ⟨(.mv (.t 4)), (some 22), (some (21, true)), [26], []⟩, ⟨(.un .not (.t 22)), (some 23), (some (21, true)), [26], []⟩, ⟨(.pick (.t 21) (.t 23) (.c (.bool false))), (some 24), none, [26], []⟩, ⟨(.mv (.t 24)), (some 25), none, [26], []⟩, ⟨(.callv (.c (.clo 22 [] [])) []), (some 26), (some (25, true)), [], []⟩, ⟨(.pick (.t 25) (.t 26) (.c (.bool false))), (some 27), none, [], []⟩, ⟨(.mv (.t 27)), (some 2), none, [], []⟩], [26], [], false⟩
def r_bytesL_6 : Reg := ⟨[], [⟨(.mv (.t 3)), (some 29), none, [30, 5], []⟩, ⟨(.callv (.c (.clo 25 [] [])) [(.t 29)]), (some 30), none, [5], []⟩, ⟨(.mv (.t 30)), (some 28), none, [5], []⟩, ⟨(.ext 0 (.t 28)), (some 31), none, [5], []⟩, ⟨(.ext 1 (.t 28)), (some 32), none, [5], []⟩, ⟨(.alloc 6 34 (.agg [(.int .i64 0), (.str ⟨#[]⟩), (.str ⟨#[]⟩), (.bool false), (.str ⟨#[]⟩), (.int .i64 0)])), (some 5), none, [], []⟩, ⟨(.store 6 (.t 5) (.t 31)), none, none, [], []⟩, ⟨(.mv (.t 32)), (some 6), none, [], []⟩], [30, 5], [], false⟩
def r_bytesL_7 : Reg := ⟨[], [⟨(.mv (.t 4)), (some 33), none, [37, 49], []⟩, ⟨(.mv (.t 33)), (some 34), none, [37, 49], []⟩, ⟨(.mv (.t 3)), (some 35), (some (34, true)), [37, 49], []⟩, ⟨(.load 6 true (.t 1)), (some 36), (some (34, true)), [37, 49], []⟩, ⟨(.callv (.c (.clo 26 [] [])) [(.t 36)]), (some 37), (some (34, true)), [49], []⟩, ⟨(.bin .eql (.t 35) (.t 37)), (some 38), (some (34, true)), [49], []⟩, ⟨(.pick (.t 34) (.t 38) (.c (.bool false))), (some 39), none, [49], []⟩, ⟨(.mv (.t 39)), (some 40), none, [49], []⟩, ⟨(.mv (.t 6)), (some 41), (some (40, true)), [49], []⟩, ⟨(.pick (.t 40) (.t 41) (.c (.bool false))), (some 42), none, [49], []⟩, ⟨(.mv (.t 42)), (some 43), none, [49], []⟩, ⟨(.load 6 true (.t 5)), (some 44), (some (43, true)), [49], []⟩, ⟨(.load 6 true (.t 1)), (some 45), (some (43, true)), [49], []⟩, ⟨(.feq false [(0, 0), (1, 1), (2, 1), (3, 2), (4, 1), (5, 0)] (.t 44) (.t 45)), (some 46), (some (43, true)), [49], []⟩, ⟨(.pick (.t 43) (.t 46) (.c (.bool false))), (some 47), none, [49], []⟩, ⟨(.mv (.t 47)), (some 48), none, [49], []⟩, ⟨(.callv (.c (.clo 22 [] [])) []), (some 49), (some (48, true)), [], []⟩, ⟨(.pick (.t 48) (.t 49) (.c (.bool false))), (some 50), none, [], []⟩, ⟨(.mv (.t 50)), (some 2), none, [], []⟩], [37, 49], [], false⟩
def ir_bytesL : IR := (.seq (.reg r_bytesL_0)
  (.seq (.seq (.reg r_bytesL_1)
  (.cond (.t 9) (.seq (.reg r_bytesL_2)
  .ret)
  .skip))
  (.seq (.reg r_bytesL_3)
  (.seq (.seq (.reg r_bytesL_4)
  (.cond (.t 18) (.seq (.reg r_bytesL_5)
  .ret)
  .skip))
  (.seq (.reg r_bytesL_6)
  (.seq (.reg r_bytesL_7)
  .ret))))))
def res_bytesL : List RDesc := [(.tmp 2)]
theorem e_bytesL_0 (C : FuncId → List AV → AV → Prop) (σ : St) (K : St → Prop) : runReg C r_bytesL_0 σ K = runOps C [⟨(.box 6 34 (.t 0)), (some 1), none, [], []⟩, ⟨(.mv (.c (.bool false))), (some 2), none, [], []⟩] (σ.kills [1]) K := rfl
theorem e_bytesL_1 (C : FuncId → List AV → AV → Prop) (σ : St) (K : St → Prop) : runReg C r_bytesL_1 σ K = runOps C [⟨(.load 6 true (.t 1)), (some 7), none, [8], []⟩, ⟨(.callv (.c (.clo 21 [] [])) [(.t 7), (.c (.int .i64 300))]), (some 8), none, [], []⟩, ⟨(.un .not (.t 8)), (some 9), none, [], []⟩] (σ.kills [8]) K := rfl
theorem e_bytesL_2 (C : FuncId → List AV → AV → Prop) (σ : St) (K : St → Prop) : runReg C r_bytesL_2 σ K = runOps C [⟨(.callv (.c (.clo 22 [] [])) []), (some 10), none, [], []⟩, ⟨(.mv (.t 10)), (some 2), none, [], []⟩] (σ.kills [10]) K := rfl
theorem e_bytesL_3 (C : FuncId → List AV → AV → Prop) (σ : St) (K : St → Prop) : runReg C r_bytesL_3 σ K = runOps C [⟨(.load 6 true (.t 1)), (some 12), none, [13], []⟩, ⟨(.callv (.c (.clo 23 [] [])) [(.t 12)]), (some 13), none, [], []⟩, ⟨(.mv (.t 13)), (some 11), none, [], []⟩, ⟨(.ext 0 (.t 11)), (some 14), none, [], []⟩, ⟨(.ext 1 (.t 11)), (some 15), none, [], []⟩, ⟨(.mv (.t 14)), (some 3), none, [], []⟩, ⟨(.mv (.t 15)), (some 4), none, [], []⟩] (σ.kills [13]) K := rfl
theorem e_bytesL_4 (C : FuncId → List AV → AV → Prop) (σ : St) (K : St → Prop) : runReg C r_bytesL_4 σ K = runOps C [⟨(.load 6 true (.t 1)), (some 16), none, [17], []⟩, ⟨(.callv (.c (.clo 24 [] [])) [(.t 16)]), (some 17), none, [], []⟩, ⟨(.un .not (.t 17)), (some 18), none, [], []⟩] (σ.kills [17]) K := rfl
theorem e_bytesL_5 (C : FuncId → List AV → AV → Prop) (σ : St) (K : St → Prop) : runReg C r_bytesL_5 σ K = runOps C [⟨(.mv (.t 3)), (some 19), none, [26], []⟩, ⟨(.bin .eql (.t 19) (.c (.str ⟨#[]⟩))), (some 20), none, [26], []⟩, ⟨(.mv (.t 20)), (some 21), none, [26], []⟩, ⟨(.mv (.t 4)), (some 22), (some (21, true)), [26], []⟩, ⟨(.un .not (.t 22)), (some 23), (some (21, true)), [26], []⟩, ⟨(.pick (.t 21) (.t 23) (.c (.bool false))), (some 24), none, [26], []⟩, ⟨(.mv (.t 24)), (some 25), none, [26], []⟩, ⟨(.callv (.c (.clo 22 [] [])) []), (some 26), (some (25, true)), [], []⟩, ⟨(.pick (.t 25) (.t 26) (.c (.bool false))), (some 27), none, [], []⟩, ⟨(.mv (.t 27)), (some 2), none, [], []⟩] (σ.kills [26]) K := rfl
theorem e_bytesL_6 (C : FuncId → List AV → AV → Prop) (σ : St) (K : St → Prop) : runReg C r_bytesL_6 σ K = runOps C [⟨(.mv (.t 3)), (some 29), none, [30, 5], []⟩, ⟨(.callv (.c (.clo 25 [] [])) [(.t 29)]), (some 30), none, [5], []⟩, ⟨(.mv (.t 30)), (some 28), none, [5], []⟩, ⟨(.ext 0 (.t 28)), (some 31), none, [5], []⟩, ⟨(.ext 1 (.t 28)), (some 32), none, [5], []⟩, ⟨(.alloc 6 34 (.agg [(.int .i64 0), (.str ⟨#[]⟩), (.str ⟨#[]⟩), (.bool false), (.str ⟨#[]⟩), (.int .i64 0)])), (some 5), none, [], []⟩, ⟨(.store 6 (.t 5) (.t 31)), none, none, [], []⟩, ⟨(.mv (.t 32)), (some 6), none, [], []⟩] (σ.kills [30, 5]) K := rfl
theorem e_bytesL_7 (C : FuncId → List AV → AV → Prop) (σ : St) (K : St → Prop) : runReg C r_bytesL_7 σ K = runOps C [⟨(.mv (.t 4)), (some 33), none, [37, 49], []⟩, ⟨(.mv (.t 33)), (some 34), none, [37, 49], []⟩, ⟨(.mv (.t 3)), (some 35), (some (34, true)), [37, 49], []⟩, ⟨(.load 6 true (.t 1)), (some 36), (some (34, true)), [37, 49], []⟩, ⟨(.callv (.c (.clo 26 [] [])) [(.t 36)]), (some 37), (some (34, true)), [49], []⟩, ⟨(.bin .eql (.t 35) (.t 37)), (some 38), (some (34, true)), [49], []⟩, ⟨(.pick (.t 34) (.t 38) (.c (.bool false))), (some 39), none, [49], []⟩, ⟨(.mv (.t 39)), (some 40), none, [49], []⟩, ⟨(.mv (.t 6)), (some 41), (some (40, true)), [49], []⟩, ⟨(.pick (.t 40) (.t 41) (.c (.bool false))), (some 42), none, [49], []⟩, ⟨(.mv (.t 42)), (some 43), none, [49], []⟩, ⟨(.load 6 true (.t 5)), (some 44), (some (43, true)), [49], []⟩, ⟨(.load 6 true (.t 1)), (some 45), (some (43, true)), [49], []⟩, ⟨(.feq false [(0, 0), (1, 1), (2, 1), (3, 2), (4, 1), (5, 0)] (.t 44) (.t 45)), (some 46), (some (43, true)), [49], []⟩, ⟨(.pick (.t 43) (.t 46) (.c (.bool false))), (some 47), none, [49], []⟩, ⟨(.mv (.t 47)), (some 48), none, [49], []⟩, ⟨(.callv (.c (.clo 22 [] [])) []), (some 49), (some (48, true)), [], []⟩, ⟨(.pick (.t 48) (.t 49) (.c (.bool false))), (some 50), none, [], []⟩, ⟨(.mv (.t 50)), (some 2), none, [], []⟩] (σ.kills [37, 49]) K := rfl
theorem fn_bytesL {args : List AV} {r : AV} (ha : args.length.ble Tryd.f6.ntmps = true) (h : run (AFn Tryd.prog) ir_bytesL (endQ res_bytesL r) (initSt args)) : AFn Tryd.prog 6 args r :=
  AFn.of_code (hint := fun _ => []) (c := Tryd.f6.body.getD .skip) (by kernel_rfl) (by kernel_rfl) Tryd.func6 (by kernel_rfl) (by kernel_rfl) (by kernel_rfl) (of_decide_eq_true (by kernel_rfl)) (Nat.le_of_ble_eq_true ha) (Nat.le_of_ble_eq_true (by kernel_rfl)) (run_ok h)

/-! ### percolate/percolatelaw07.OpOf -/
def r_ofL_0 : Reg := ⟨[], [⟨(.mv (.c (.bool false))), (some 2), none, [], []⟩], [], [], false⟩
def r_ofL_1 : Reg := ⟨[], [⟨(.mv (.t 0)), (some 5), none, [], []⟩, ⟨(.len true (.t 5)), (some 6), none, [], []⟩, ⟨(.bin .gtr (.t 6) (.c (.int .i64 1000))), (some 7), none, [], []⟩], [], [], false⟩
def r_ofL_2 : Reg := ⟨[], [⟨(.callv (.c (.clo 22 [] [])) []), (some 8), none, [], []⟩, ⟨(.mv (.t 8)), (some 2), none, [], []⟩], [8], [], false⟩
def r_ofL_3 : Reg := ⟨[], [⟨(.mv (.t 0)), (some 10), none, [11, 3], []⟩, ⟨(.callv (.c (.clo 25 [] [])) [(.t 10)]), (some 11), none, [3], []⟩, ⟨(.mv (.t 11)), (some 9), none, [3], []⟩, ⟨(.ext 0 (.t 9)), (some 12), none, [3], []⟩, ⟨(.ext 1 (.t 9)), (some 13), none, [3], []⟩, ⟨(.alloc 6 34 (.agg [(.int .i64 0), (.str ⟨#[]⟩), (.str ⟨#[]⟩), (.bool false), (.str ⟨#[]⟩), (.int .i64 0)])), (some 3), none, [], []⟩, ⟨(.store 6 (.t 3) (.t 12)), none, none, [], []⟩, ⟨(.mv (.t 13)), (some 4), none, [], []⟩], [11, 3], [], false⟩
def r_ofL_4 : Reg := ⟨[], [⟨(.mv (.t 4)), (some 14), none, [], []⟩, ⟨(.un .not (.t 14)), (some 15), none, [], []⟩], [], [], false⟩
def r_ofL_5 : Reg := ⟨[], [⟨(.load 6 true (.t 3)), (some 16), none, [20], []⟩, ⟨(.bld [(.int .i64 0), (.str ⟨#[]⟩), (.str ⟨#[]⟩), (.bool false), (.str ⟨#[]⟩), (.int .i64 0)] []), (some 17), none, [20], []⟩, ⟨(.feq false [(0, 0), (1, 1), (2, 1), (3, 2), (4, 1), (5, 0)] (.t 16) (.t 17)), (some 18), none, [20], []⟩, ⟨(.mv (.t 18)), (some 19), none, [20], []⟩, ⟨(.callv (.c (.clo 22 [] [])) []), (some 20), (some (19, true)), [], []⟩, ⟨(.pick (.t 19) (.t 20) (.c (.bool false))), (some 21), none, [], []⟩, ⟨(.mv (.t 21)), (some 2), none, [], []⟩], [20], [], false⟩
def r_ofL_6 : Reg := ⟨[], [⟨(.load 6 true (.t 3)), (some 22), none, [23, 26, 31], []⟩, ⟨(.callv (.c (.clo 24 [] [])) [(.t 22)]), (some 23), none, [26, 31], []⟩, ⟨(.mv (.t 23)), (some 24), none, [26, 31], []⟩, ⟨(.load 6 true (.t 3)), (some 25), (some (24, true)), [26, 31], []⟩, ⟨(.callv (.c (.clo 26 [] [])) [(.t 25)]), (some 26), (some (24, true)), [31], []⟩, ⟨(.mv (.t 0)), (some 27), (some (24, true)), [31], []⟩, ⟨(.bin .eql (.t 26) (.t 27)), (some 28), (some (24, true)), [31], []⟩, ⟨(.pick (.t 24) (.t 28) (.c (.bool false))), (some 29), none, [31], []⟩, ⟨(.mv (.t 29)), (some 30), none, [31], []⟩, ⟨(.callv (.c (.clo 22 [] [])) []), (some 31), (some (30, true)), [], []⟩, ⟨(.pick (.t 30) (.t 31) (.c (.bool false))), (some 32), none, [], []⟩, ⟨(.mv (.t 32)), (some 2), none, [], []⟩], [23, 26, 31], [], false⟩
def ir_ofL : IR := (.seq (.reg r_ofL_0)
  (.seq (.seq (.reg r_ofL_1)
  (.cond (.t 7) (.seq (.reg r_ofL_2)
  .ret)
  .skip))
  (.seq (.reg r_ofL_3)
  (.seq (.seq (.reg r_ofL_4)
  (.cond (.t 15) (.seq (.reg r_ofL_5)
  .ret)
  .skip))
  (.seq (.reg r_ofL_6)
  .ret)))))
def res_ofL : List RDesc := [(.tmp 2)]
theorem e_ofL_0 (C : FuncId → List AV → AV → Prop) (σ : St) (K : St → Prop) : runReg C r_ofL_0 σ K = runOps C [⟨(.mv (.c (.bool false))), (some 2), none, [], []⟩] (σ.kills []) K := rfl
theorem e_ofL_1 (C : FuncId → List AV → AV → Prop) (σ : St) (K : St → Prop) : runReg C r_ofL_1 σ K = runOps C [⟨(.mv (.t 0)), (some 5), none, [], []⟩, ⟨(.len true (.t 5)), (some 6), none, [], []⟩, ⟨(.bin .gtr (.t 6) (.c (.int .i64 1000))), (some 7), none, [], []⟩] (σ.kills []) K := rfl
theorem e_ofL_2 (C : FuncId → List AV → AV → Prop) (σ : St) (K : St → Prop) : runReg C r_ofL_2 σ K = runOps C [⟨(.callv (.c (.clo 22 [] [])) []), (some 8), none, [], []⟩, ⟨(.mv (.t 8)), (some 2), none, [], []⟩] (σ.kills [8]) K := rfl
theorem e_ofL_3 (C : FuncId → List AV → AV → Prop) (σ : St) (K : St → Prop) : runReg C r_ofL_3 σ K = runOps C [⟨(.mv (.t 0)), (some 10), none, [11, 3], []⟩, ⟨(.callv (.c (.clo 25 [] [])) [(.t 10)]), (some 11), none, [3], []⟩, ⟨(.mv (.t 11)), (some 9), none, [3], []⟩, ⟨(.ext 0 (.t 9)), (some 12), none, [3], []⟩, ⟨(.ext 1 (.t 9)), (some 13), none, [3], []⟩, ⟨(.alloc 6 34 (.agg [(.int .i64 0), (.str ⟨#[]⟩), (.str ⟨#[]⟩), (.bool false), (.str ⟨#[]⟩), (.int .i64 0)])), (some 3), none, [], []⟩, ⟨(.store 6 (.t 3) (.t 12)), none, none, [], []⟩, ⟨(.mv (.t 13)), (some 4), none, [], []⟩] (σ.kills [11, 3]) K := rfl
theorem e_ofL_4 (C : FuncId → List AV → AV → Prop) (σ : St) (K : St → Prop) : runReg C r_ofL_4 σ K = runOps C [⟨(.mv (.t 4)), (some 14), none, [], []⟩, ⟨(.un .not (.t 14)), (some 15), none, [], []⟩] (σ.kills []) K := rfl
theorem e_ofL_5 (C : FuncId → List AV → AV → Prop) (σ : St) (K : St → Prop) : runReg C r_ofL_5 σ K = runOps C [⟨(.load 6 true (.t 3)), (some 16), none, [20], []⟩, ⟨(.bld [(.int .i64 0), (.str ⟨#[]⟩), (.str ⟨#[]⟩), (.bool false), (.str ⟨#[]⟩), (.int .i64 0)] []), (some 17), none, [20], []⟩, ⟨(.feq false [(0, 0), (1, 1), (2, 1), (3, 2), (4, 1), (5, 0)] (.t 16) (.t 17)), (some 18), none, [20], []⟩, ⟨(.mv (.t 18)), (some 19), none, [20], []⟩, ⟨(.callv (.c (.clo 22 [] [])) []), (some 20), (some (19, true)), [], []⟩, ⟨(.pick (.t 19) (.t 20) (.c (.bool false))), (some 21), none, [], []⟩, ⟨(.mv (.t 21)), (some 2), none, [], []⟩] (σ.kills [20]) K := rfl
theorem e_ofL_6 (C : FuncId → List AV → AV → Prop) (σ : St) (K : St → Prop) : runReg C r_ofL_6 σ K = runOps C [⟨(.load 6 true (.t 3)), (some 22), none, [23, 26, 31], []⟩, ⟨(.callv (.c (.clo 24 [] [])) [(.t 22)]), (some 23), none, [26, 31], []⟩, ⟨(.mv (.t 23)), (some 24), none, [26, 31], []⟩, ⟨(.load 6 true (.t 3)), (some 25), (some (24, true)), [26, 31], []⟩, ⟨(.callv (.c (.clo 26 [] [])) [(.t 25)]), (some 26), (some (24, true)), [31], []⟩, ⟨(.mv (.t 0)), (some 27), (some (24, true)), [31], []⟩, ⟨(.bin .eql (.t 26) (.t 27)), (some 28), (some (24, true)), [31], []⟩, ⟨(.pick (.t 24) (.t 28) (.c (.bool false))), (some 29), none, [31], []⟩, ⟨(.mv (.t 29)), (some 30), none, [31], []⟩, ⟨(.callv (.c (.clo 22 [] [])) []), (some 31), (some (30, true)), [], []⟩, ⟨(.pick (.t 30) (.t 31) (.c (.bool false))), (some 32), none, [], []⟩, ⟨(.mv (.t 32)), (some 2), none, [], []⟩] (σ.kills [23, 26, 31]) K := rfl
theorem fn_ofL {args : List AV} {r : AV} (ha : args.length.ble Tryd.f7.ntmps = true) (h : run (AFn Tryd.prog) ir_ofL (endQ res_ofL r) (initSt args)) : AFn Tryd.prog 7 args r :=
  AFn.of_code (hint := fun _ => []) (c := Tryd.f7.body.getD .skip) (by kernel_rfl) (by kernel_rfl) Tryd.func7 (by kernel_rfl) (by kernel_rfl) (by kernel_rfl) (of_decide_eq_true (by kernel_rfl)) (Nat.le_of_ble_eq_true ha) (Nat.le_of_ble_eq_true (by kernel_rfl)) (run_ok h)

attribute [local go_sem ↓] ir_awake7
attribute [local go_sem] res_awake7 e_awake7_0 e_awake7_1 e_awake7_2
attribute [local go_sem ↓] ir_bytesL
attribute [local go_sem] res_bytesL e_bytesL_0 e_bytesL_1 e_bytesL_2 e_bytesL_3 e_bytesL_4 e_bytesL_5 e_bytesL_6 e_bytesL_7
attribute [local go_sem ↓] ir_ofL
attribute [local go_sem] res_ofL e_ofL_0 e_ofL_1 e_ofL_2 e_ofL_3 e_ofL_4 e_ofL_5 e_ofL_6

attribute [local go_sem ↓] ir_rBytes
attribute [local go_sem] res_rBytes e_rBytes_0 e_rBytes_1 e_rBytes_2 e_rBytes_3 e_rBytes_4 e_rBytes_5 e_rBytes_6 e_rBytes_7 e_rBytes_8 e_rBytes_9 e_rBytes_10

set_option maxHeartbeats 4000000 in
theorem rBytes_ok (o : Opr) (hr : o.right = true) : AFn Tryd.prog 26 [o.a] (.str (bytesO o)) := by
  refine fn_rBytes rfl ?_
  obtain ⟨hk1, hk6, hkey, hhi, hval, p1, p2, p3, p4⟩ := right_parts hr
  obtain ⟨kind, key, hi, op, val, lim⟩ := o
  simp only at hk1 hk6 hkey hhi hval p1 p2 p3 p4
  have s1 : ∀ x : UInt8, #[x].size = 1 := fun _ => rfl
  have tk := textF_size key
  have tv := textF_size val
  have th := textF_size hi
  have hk : kind = 1 ∨ kind = 2 ∨ kind = 3 ∨ kind = 4 ∨ kind = 5 ∨ kind = 6 := by omega
  rcases hk with rfl | rfl | rfl | rfl | rfl | rfl
  · -- kind 1
    have hw : IntKind.u8.wrap 1 = 1 := by decide
    have hb : (AV.int .u8 1).byteB = true := by decide
    have ht : (AV.int .u8 1).toB = 1 := by decide
    rw [show bytesO ⟨1, key, hi, op, val, lim⟩ = (⟨#[1]⟩ : ByteArray) ++ textF key ++ textF val from rfl]
    (simp (maxSteps := 4000000) only [go_sem, ↓reduceIte, reduceCtorEq, Nat.reduceEqDiff, Nat.reduceBEq, Nat.reduceAdd, Nat.reduceSub, Nat.reduceMul, Nat.reduceLT, Nat.reduceLeDiff, Nat.reduceBNe, Int.reduceBEq, Int.reduceBNe, Int.reduceLT, Int.reduceLE, Opr.a, Spn.a, nul, hw, hb, ht, s1, tk, tv, th]; (repeat (first | refine And.intro (by omega) ?_ | refine And.intro (fun d hd => by rcases hd with rfl | hd; exact ⟨rfl, rfl⟩; cases hd) ?_)); repeat ((first | refine calling (rText_ok key (by omega)) ?_ | refine callingH (rText_ok key (by omega)) ?_ | refine calling (rText_ok val (by omega)) ?_ | refine callingH (rText_ok val (by omega)) ?_ | refine calling (rText_ok hi (by omega)) ?_ | refine callingH (rText_ok hi (by omega)) ?_); try (simp (maxSteps := 4000000) only [go_sem, ↓reduceIte, reduceCtorEq, Nat.reduceEqDiff, Nat.reduceBEq, Nat.reduceAdd, Nat.reduceSub, Nat.reduceMul, Nat.reduceLT, Nat.reduceLeDiff, Nat.reduceBNe, Int.reduceBEq, Int.reduceBNe, Int.reduceLT, Int.reduceLE, Opr.a, Spn.a, nul, hw, hb, ht, s1, tk, tv, th]); (repeat (first | refine And.intro (by omega) ?_ | refine And.intro (fun d hd => by rcases hd with rfl | hd; exact ⟨rfl, rfl⟩; cases hd) ?_))))
    all_goals omega
  · -- kind 2
    have hw : IntKind.u8.wrap 2 = 2 := by decide
    have hb : (AV.int .u8 2).byteB = true := by decide
    have ht : (AV.int .u8 2).toB = 2 := by decide
    rw [show bytesO ⟨2, key, hi, op, val, lim⟩ = (⟨#[2]⟩ : ByteArray) ++ textF key ++ textF val from rfl]
    (simp (maxSteps := 4000000) only [go_sem, ↓reduceIte, reduceCtorEq, Nat.reduceEqDiff, Nat.reduceBEq, Nat.reduceAdd, Nat.reduceSub, Nat.reduceMul, Nat.reduceLT, Nat.reduceLeDiff, Nat.reduceBNe, Int.reduceBEq, Int.reduceBNe, Int.reduceLT, Int.reduceLE, Opr.a, Spn.a, nul, hw, hb, ht, s1, tk, tv, th]; (repeat (first | refine And.intro (by omega) ?_ | refine And.intro (fun d hd => by rcases hd with rfl | hd; exact ⟨rfl, rfl⟩; cases hd) ?_)); repeat ((first | refine calling (rText_ok key (by omega)) ?_ | refine callingH (rText_ok key (by omega)) ?_ | refine calling (rText_ok val (by omega)) ?_ | refine callingH (rText_ok val (by omega)) ?_ | refine calling (rText_ok hi (by omega)) ?_ | refine callingH (rText_ok hi (by omega)) ?_); try (simp (maxSteps := 4000000) only [go_sem, ↓reduceIte, reduceCtorEq, Nat.reduceEqDiff, Nat.reduceBEq, Nat.reduceAdd, Nat.reduceSub, Nat.reduceMul, Nat.reduceLT, Nat.reduceLeDiff, Nat.reduceBNe, Int.reduceBEq, Int.reduceBNe, Int.reduceLT, Int.reduceLE, Opr.a, Spn.a, nul, hw, hb, ht, s1, tk, tv, th]); (repeat (first | refine And.intro (by omega) ?_ | refine And.intro (fun d hd => by rcases hd with rfl | hd; exact ⟨rfl, rfl⟩; cases hd) ?_))))
    all_goals omega
  · -- kind 3
    have hw : IntKind.u8.wrap 3 = 3 := by decide
    have hb : (AV.int .u8 3).byteB = true := by decide
    have ht : (AV.int .u8 3).toB = 3 := by decide
    rw [show bytesO ⟨3, key, hi, op, val, lim⟩ = (⟨#[3]⟩ : ByteArray) ++ textF key from rfl]
    (simp (maxSteps := 4000000) only [go_sem, ↓reduceIte, reduceCtorEq, Nat.reduceEqDiff, Nat.reduceBEq, Nat.reduceAdd, Nat.reduceSub, Nat.reduceMul, Nat.reduceLT, Nat.reduceLeDiff, Nat.reduceBNe, Int.reduceBEq, Int.reduceBNe, Int.reduceLT, Int.reduceLE, Opr.a, Spn.a, nul, hw, hb, ht, s1, tk, tv, th]; (repeat (first | refine And.intro (by omega) ?_ | refine And.intro (fun d hd => by rcases hd with rfl | hd; exact ⟨rfl, rfl⟩; cases hd) ?_)); repeat ((first | refine calling (rText_ok key (by omega)) ?_ | refine callingH (rText_ok key (by omega)) ?_ | refine calling (rText_ok val (by omega)) ?_ | refine callingH (rText_ok val (by omega)) ?_ | refine calling (rText_ok hi (by omega)) ?_ | refine callingH (rText_ok hi (by omega)) ?_); try (simp (maxSteps := 4000000) only [go_sem, ↓reduceIte, reduceCtorEq, Nat.reduceEqDiff, Nat.reduceBEq, Nat.reduceAdd, Nat.reduceSub, Nat.reduceMul, Nat.reduceLT, Nat.reduceLeDiff, Nat.reduceBNe, Int.reduceBEq, Int.reduceBNe, Int.reduceLT, Int.reduceLE, Opr.a, Spn.a, nul, hw, hb, ht, s1, tk, tv, th]); (repeat (first | refine And.intro (by omega) ?_ | refine And.intro (fun d hd => by rcases hd with rfl | hd; exact ⟨rfl, rfl⟩; cases hd) ?_))))
    all_goals omega
  · -- kind 4
    have hw : IntKind.u8.wrap 4 = 4 := by decide
    have hb : (AV.int .u8 4).byteB = true := by decide
    have ht : (AV.int .u8 4).toB = 4 := by decide
    cases op with
    | true =>
      rw [show bytesO ⟨4, key, hi, true, val, lim⟩ = (⟨#[4]⟩ : ByteArray) ++ textF key ++ (⟨#[1]⟩ : ByteArray) from rfl]
      (simp (maxSteps := 4000000) only [go_sem, ↓reduceIte, reduceCtorEq, Nat.reduceEqDiff, Nat.reduceBEq, Nat.reduceAdd, Nat.reduceSub, Nat.reduceMul, Nat.reduceLT, Nat.reduceLeDiff, Nat.reduceBNe, Int.reduceBEq, Int.reduceBNe, Int.reduceLT, Int.reduceLE, Opr.a, Spn.a, nul, hw, hb, ht, s1, tk, tv, th]; (repeat (first | refine And.intro (by omega) ?_ | refine And.intro (fun d hd => by rcases hd with rfl | hd; exact ⟨rfl, rfl⟩; cases hd) ?_)); repeat ((first | refine calling (rText_ok key (by omega)) ?_ | refine callingH (rText_ok key (by omega)) ?_ | refine calling (rText_ok val (by omega)) ?_ | refine callingH (rText_ok val (by omega)) ?_ | refine calling (rText_ok hi (by omega)) ?_ | refine callingH (rText_ok hi (by omega)) ?_); try (simp (maxSteps := 4000000) only [go_sem, ↓reduceIte, reduceCtorEq, Nat.reduceEqDiff, Nat.reduceBEq, Nat.reduceAdd, Nat.reduceSub, Nat.reduceMul, Nat.reduceLT, Nat.reduceLeDiff, Nat.reduceBNe, Int.reduceBEq, Int.reduceBNe, Int.reduceLT, Int.reduceLE, Opr.a, Spn.a, nul, hw, hb, ht, s1, tk, tv, th]); (repeat (first | refine And.intro (by omega) ?_ | refine And.intro (fun d hd => by rcases hd with rfl | hd; exact ⟨rfl, rfl⟩; cases hd) ?_))))
      all_goals omega
    | false =>
      rw [show bytesO ⟨4, key, hi, false, val, lim⟩ = (⟨#[4]⟩ : ByteArray) ++ textF key ++ ((⟨#[0]⟩ : ByteArray) ++ textF hi) from rfl]
      (simp (maxSteps := 4000000) only [go_sem, ↓reduceIte, reduceCtorEq, Nat.reduceEqDiff, Nat.reduceBEq, Nat.reduceAdd, Nat.reduceSub, Nat.reduceMul, Nat.reduceLT, Nat.reduceLeDiff, Nat.reduceBNe, Int.reduceBEq, Int.reduceBNe, Int.reduceLT, Int.reduceLE, Opr.a, Spn.a, nul, hw, hb, ht, s1, tk, tv, th]; (repeat (first | refine And.intro (by omega) ?_ | refine And.intro (fun d hd => by rcases hd with rfl | hd; exact ⟨rfl, rfl⟩; cases hd) ?_)); repeat ((first | refine calling (rText_ok key (by omega)) ?_ | refine callingH (rText_ok key (by omega)) ?_ | refine calling (rText_ok val (by omega)) ?_ | refine callingH (rText_ok val (by omega)) ?_ | refine calling (rText_ok hi (by omega)) ?_ | refine callingH (rText_ok hi (by omega)) ?_); try (simp (maxSteps := 4000000) only [go_sem, ↓reduceIte, reduceCtorEq, Nat.reduceEqDiff, Nat.reduceBEq, Nat.reduceAdd, Nat.reduceSub, Nat.reduceMul, Nat.reduceLT, Nat.reduceLeDiff, Nat.reduceBNe, Int.reduceBEq, Int.reduceBNe, Int.reduceLT, Int.reduceLE, Opr.a, Spn.a, nul, hw, hb, ht, s1, tk, tv, th]); (repeat (first | refine And.intro (by omega) ?_ | refine And.intro (fun d hd => by rcases hd with rfl | hd; exact ⟨rfl, rfl⟩; cases hd) ?_))))
      all_goals omega
  · -- kind 5
    have hw : IntKind.u8.wrap 5 = 5 := by decide
    have hb : (AV.int .u8 5).byteB = true := by decide
    have ht : (AV.int .u8 5).toB = 5 := by decide
    rw [show bytesO ⟨5, key, hi, op, val, lim⟩ = (⟨#[5]⟩ : ByteArray) ++ textF key from rfl]
    (simp (maxSteps := 4000000) only [go_sem, ↓reduceIte, reduceCtorEq, Nat.reduceEqDiff, Nat.reduceBEq, Nat.reduceAdd, Nat.reduceSub, Nat.reduceMul, Nat.reduceLT, Nat.reduceLeDiff, Nat.reduceBNe, Int.reduceBEq, Int.reduceBNe, Int.reduceLT, Int.reduceLE, Opr.a, Spn.a, nul, hw, hb, ht, s1, tk, tv, th]; (repeat (first | refine And.intro (by omega) ?_ | refine And.intro (fun d hd => by rcases hd with rfl | hd; exact ⟨rfl, rfl⟩; cases hd) ?_)); repeat ((first | refine calling (rText_ok key (by omega)) ?_ | refine callingH (rText_ok key (by omega)) ?_ | refine calling (rText_ok val (by omega)) ?_ | refine callingH (rText_ok val (by omega)) ?_ | refine calling (rText_ok hi (by omega)) ?_ | refine callingH (rText_ok hi (by omega)) ?_); try (simp (maxSteps := 4000000) only [go_sem, ↓reduceIte, reduceCtorEq, Nat.reduceEqDiff, Nat.reduceBEq, Nat.reduceAdd, Nat.reduceSub, Nat.reduceMul, Nat.reduceLT, Nat.reduceLeDiff, Nat.reduceBNe, Int.reduceBEq, Int.reduceBNe, Int.reduceLT, Int.reduceLE, Opr.a, Spn.a, nul, hw, hb, ht, s1, tk, tv, th]); (repeat (first | refine And.intro (by omega) ?_ | refine And.intro (fun d hd => by rcases hd with rfl | hd; exact ⟨rfl, rfl⟩; cases hd) ?_))))
    all_goals omega
  · -- kind 6
    have hw : IntKind.u8.wrap 6 = 6 := by decide
    have hb : (AV.int .u8 6).byteB = true := by decide
    have ht : (AV.int .u8 6).toB = 6 := by decide
    have l12 : 1 ≤ lim ∧ lim ≤ 64 := by simpa using p4
    have w6 : IntKind.u8.wrap lim = lim := wrap_lim lim (by omega) (by omega)
    have b6 : (AV.int .u8 lim).byteB = true := byteB_lim lim (by omega) (by omega)
    have t6 : (AV.int .u8 lim).toB = UInt8.ofNat lim.toNat := rfl
    cases op with
    | true =>
      rw [show bytesO ⟨6, key, hi, true, val, lim⟩ = (⟨#[6]⟩ : ByteArray) ++ textF key ++ (⟨#[1]⟩ : ByteArray) ++ (⟨#[UInt8.ofNat lim.toNat]⟩ : ByteArray) from rfl]
      (simp (maxSteps := 4000000) only [go_sem, ↓reduceIte, reduceCtorEq, Nat.reduceEqDiff, Nat.reduceBEq, Nat.reduceAdd, Nat.reduceSub, Nat.reduceMul, Nat.reduceLT, Nat.reduceLeDiff, Nat.reduceBNe, Int.reduceBEq, Int.reduceBNe, Int.reduceLT, Int.reduceLE, Opr.a, Spn.a, nul, hw, hb, ht, s1, tk, tv, th, w6, b6, t6]; (repeat (first | refine And.intro (by omega) ?_ | refine And.intro (fun d hd => by rcases hd with rfl | hd; exact ⟨rfl, rfl⟩; cases hd) ?_)); repeat ((first | refine calling (rText_ok key (by omega)) ?_ | refine callingH (rText_ok key (by omega)) ?_ | refine calling (rText_ok val (by omega)) ?_ | refine callingH (rText_ok val (by omega)) ?_ | refine calling (rText_ok hi (by omega)) ?_ | refine callingH (rText_ok hi (by omega)) ?_); try (simp (maxSteps := 4000000) only [go_sem, ↓reduceIte, reduceCtorEq, Nat.reduceEqDiff, Nat.reduceBEq, Nat.reduceAdd, Nat.reduceSub, Nat.reduceMul, Nat.reduceLT, Nat.reduceLeDiff, Nat.reduceBNe, Int.reduceBEq, Int.reduceBNe, Int.reduceLT, Int.reduceLE, Opr.a, Spn.a, nul, hw, hb, ht, s1, tk, tv, th, w6, b6, t6]); (repeat (first | refine And.intro (by omega) ?_ | refine And.intro (fun d hd => by rcases hd with rfl | hd; exact ⟨rfl, rfl⟩; cases hd) ?_))))
      all_goals omega
    | false =>
      rw [show bytesO ⟨6, key, hi, false, val, lim⟩ = (⟨#[6]⟩ : ByteArray) ++ textF key ++ ((⟨#[0]⟩ : ByteArray) ++ textF hi) ++ (⟨#[UInt8.ofNat lim.toNat]⟩ : ByteArray) from rfl]
      (simp (maxSteps := 4000000) only [go_sem, ↓reduceIte, reduceCtorEq, Nat.reduceEqDiff, Nat.reduceBEq, Nat.reduceAdd, Nat.reduceSub, Nat.reduceMul, Nat.reduceLT, Nat.reduceLeDiff, Nat.reduceBNe, Int.reduceBEq, Int.reduceBNe, Int.reduceLT, Int.reduceLE, Opr.a, Spn.a, nul, hw, hb, ht, s1, tk, tv, th, w6, b6, t6]; (repeat (first | refine And.intro (by omega) ?_ | refine And.intro (fun d hd => by rcases hd with rfl | hd; exact ⟨rfl, rfl⟩; cases hd) ?_)); repeat ((first | refine calling (rText_ok key (by omega)) ?_ | refine callingH (rText_ok key (by omega)) ?_ | refine calling (rText_ok val (by omega)) ?_ | refine callingH (rText_ok val (by omega)) ?_ | refine calling (rText_ok hi (by omega)) ?_ | refine callingH (rText_ok hi (by omega)) ?_); try (simp (maxSteps := 4000000) only [go_sem, ↓reduceIte, reduceCtorEq, Nat.reduceEqDiff, Nat.reduceBEq, Nat.reduceAdd, Nat.reduceSub, Nat.reduceMul, Nat.reduceLT, Nat.reduceLeDiff, Nat.reduceBNe, Int.reduceBEq, Int.reduceBNe, Int.reduceLT, Int.reduceLE, Opr.a, Spn.a, nul, hw, hb, ht, s1, tk, tv, th, w6, b6, t6]); (repeat (first | refine And.intro (by omega) ?_ | refine And.intro (fun d hd => by rcases hd with rfl | hd; exact ⟨rfl, rfl⟩; cases hd) ?_))))
      all_goals omega
theorem aw_r3 : Opr.right ⟨3, ⟨#[107]⟩, ⟨#[]⟩, false, ⟨#[]⟩, 0⟩ = true := by decide +kernel
theorem aw_r6 : Opr.right ⟨6, ⟨#[97]⟩, ⟨#[]⟩, true, ⟨#[]⟩, 3⟩ = true := by decide +kernel
theorem aw_b3 : bytesO ⟨3, ⟨#[107]⟩, ⟨#[]⟩, false, ⟨#[]⟩, 0⟩ = ⟨#[3, 1, 107]⟩ := by decide +kernel
theorem aw_l6 : lineO ⟨6, ⟨#[97]⟩, ⟨#[]⟩, true, ⟨#[]⟩, 3⟩ = ⟨#[115, 99, 97, 110, 32, 97, 32, 42, 32, 51]⟩ := by
  have e3 : decS 3 = ⟨#[51]⟩ := by
    unfold decS
    rw [itoa_nn (by omega), show Int.toNat 3 = 3 from rfl, dd_small 3 (by omega)]
    rfl
  have e : lineW ⟨6, ⟨#[97]⟩, ⟨#[]⟩, true, ⟨#[]⟩, 3⟩ = [⟨#[115, 99, 97, 110]⟩, quoteF ⟨#[97]⟩, ⟨#[42]⟩, decS 3] := rfl
  unfold lineO
  rw [e, e3, show quoteF ⟨#[97]⟩ = ⟨#[97]⟩ by decide +kernel]
  decide +kernel
theorem awake7_ok : AFn Tryd.prog 22 [] (.bool true) := by
  refine fn_awake7 rfl ?_
  have h1 := bytes_ok ⟨3, ⟨#[107]⟩, ⟨#[]⟩, false, ⟨#[]⟩, 0⟩ aw_r3
  rw [aw_b3] at h1
  have h2 := oLine_ok ⟨6, ⟨#[97]⟩, ⟨#[]⟩, true, ⟨#[]⟩, 3⟩ aw_r6
  rw [aw_l6] at h2
  have h3 := oRight_ok Opr.zero (by decide)
  rw [show Opr.zero.right = false by decide +kernel] at h3
  (simp (maxSteps := 4000000) only [go_sem, ↓reduceIte, reduceCtorEq, Nat.reduceEqDiff, Nat.reduceBEq, Nat.reduceAdd, Nat.reduceSub, Nat.reduceMul, Nat.reduceLT, Nat.reduceLeDiff, Nat.reduceBNe, Int.reduceBEq, Int.reduceBNe, Int.reduceLT, Int.reduceLE, Opr.a, Spn.a, nul, beq_self_eq_true]; (repeat (first | refine And.intro (by omega) ?_ | refine And.intro (fun d hd => by rcases hd with rfl | hd; exact ⟨rfl, rfl⟩; cases hd) ?_)); repeat ((first | refine calling (h1) ?_ | refine callingH (h1) ?_ | refine calling (h2) ?_ | refine callingH (h2) ?_ | refine calling (h3) ?_ | refine callingH (h3) ?_); try (simp (maxSteps := 4000000) only [go_sem, ↓reduceIte, reduceCtorEq, Nat.reduceEqDiff, Nat.reduceBEq, Nat.reduceAdd, Nat.reduceSub, Nat.reduceMul, Nat.reduceLT, Nat.reduceLeDiff, Nat.reduceBNe, Int.reduceBEq, Int.reduceBNe, Int.reduceLT, Int.reduceLE, Opr.a, Spn.a, nul, beq_self_eq_true]); (repeat (first | refine And.intro (by omega) ?_ | refine And.intro (fun d hd => by rcases hd with rfl | hd; exact ⟨rfl, rfl⟩; cases hd) ?_))))
theorem opEq (o : Opr) : valF (Opr.a o).av (Opr.a o).av [(0, 0), (1, 1), (2, 1), (3, 2), (4, 1), (5, 0)] = true := by
  simp [Opr.a, AV.av, valF, cellEq]
theorem bytesL_law (o : Opr) : AFn Tryd.prog 6 [o.a] (.bool true) := by
  refine fn_bytesL rfl ?_
  have hl := rLong_ok o 300
  cases h3 : o.long 300 with
  | false =>
    rw [h3] at hl
    (simp (maxSteps := 4000000) only [go_sem, ↓reduceIte, reduceCtorEq, Nat.reduceEqDiff, Nat.reduceBEq, Nat.reduceAdd, Nat.reduceSub, Nat.reduceMul, Nat.reduceLT, Nat.reduceLeDiff, Nat.reduceBNe, Int.reduceBEq, Int.reduceBNe, Int.reduceLT, Int.reduceLE, Opr.a, Spn.a, nul]; (repeat (first | refine And.intro (by omega) ?_ | refine And.intro (fun d hd => by rcases hd with rfl | hd; exact ⟨rfl, rfl⟩; cases hd) ?_)); repeat ((first | refine calling (hl) ?_ | refine callingH (hl) ?_ | refine calling (awake7_ok) ?_ | refine callingH (awake7_ok) ?_); try (simp (maxSteps := 4000000) only [go_sem, ↓reduceIte, reduceCtorEq, Nat.reduceEqDiff, Nat.reduceBEq, Nat.reduceAdd, Nat.reduceSub, Nat.reduceMul, Nat.reduceLT, Nat.reduceLeDiff, Nat.reduceBNe, Int.reduceBEq, Int.reduceBNe, Int.reduceLT, Int.reduceLE, Opr.a, Spn.a, nul]); (repeat (first | refine And.intro (by omega) ?_ | refine And.intro (fun d hd => by rcases hd with rfl | hd; exact ⟨rfl, rfl⟩; cases hd) ?_))))
  | true =>
    rw [h3] at hl
    have hk : o.key.size ≤ 300 ∧ o.hi.size ≤ 300 ∧ o.val.size ≤ 300 := by
      unfold Opr.long at h3
      simp only [Bool.and_eq_true, decide_eq_true_eq] at h3
      omega
    have hR := rRight_ok o (by omega) (by omega)
    cases hr : o.right with
    | false =>
      rw [hr] at hR
      have hb := bytes_no o (by omega) hr
      (simp (maxSteps := 4000000) only [go_sem, ↓reduceIte, reduceCtorEq, Nat.reduceEqDiff, Nat.reduceBEq, Nat.reduceAdd, Nat.reduceSub, Nat.reduceMul, Nat.reduceLT, Nat.reduceLeDiff, Nat.reduceBNe, Int.reduceBEq, Int.reduceBNe, Int.reduceLT, Int.reduceLE, Opr.a, Spn.a, nul, beq_self_eq_true]; (repeat (first | refine And.intro (by omega) ?_ | refine And.intro (fun d hd => by rcases hd with rfl | hd; exact ⟨rfl, rfl⟩; cases hd) ?_)); repeat ((first | refine calling (hl) ?_ | refine callingH (hl) ?_ | refine calling (hR) ?_ | refine callingH (hR) ?_ | refine calling (hb) ?_ | refine callingH (hb) ?_ | refine calling (awake7_ok) ?_ | refine callingH (awake7_ok) ?_); try (simp (maxSteps := 4000000) only [go_sem, ↓reduceIte, reduceCtorEq, Nat.reduceEqDiff, Nat.reduceBEq, Nat.reduceAdd, Nat.reduceSub, Nat.reduceMul, Nat.reduceLT, Nat.reduceLeDiff, Nat.reduceBNe, Int.reduceBEq, Int.reduceBNe, Int.reduceLT, Int.reduceLE, Opr.a, Spn.a, nul, beq_self_eq_true]); (repeat (first | refine And.intro (by omega) ?_ | refine And.intro (fun d hd => by rcases hd with rfl | hd; exact ⟨rfl, rfl⟩; cases hd) ?_))))
    | true =>
      rw [hr] at hR
      have hb := bytes_ok o hr
      obtain ⟨_, _, z1, z2, z3, _⟩ := right_parts hr
      have hz : (bytesO o).size ≤ 1000000 := by
        unfold bytesO
        have s1 : ∀ x : UInt8, (⟨#[x]⟩ : ByteArray).size = 1 := fun _ => rfl
        simp only
        repeat' split
        all_goals (simp only [ByteArray.size_append, textF_size, s1]; omega)
      have ho := of_ok (bytesO o) hz
      rw [of_bytes o hr] at ho
      have hB := rBytes_ok o hr
      have he := opEq o
      obtain ⟨kind, key, hi, op, val, lim⟩ := o
      (simp (maxSteps := 4000000) only [go_sem, ↓reduceIte, reduceCtorEq, Nat.reduceEqDiff, Nat.reduceBEq, Nat.reduceAdd, Nat.reduceSub, Nat.reduceMul, Nat.reduceLT, Nat.reduceLeDiff, Nat.reduceBNe, Int.reduceBEq, Int.reduceBNe, Int.reduceLT, Int.reduceLE, Opr.a, Spn.a, nul, beq_self_eq_true]; (repeat (first | refine And.intro (by omega) ?_ | refine And.intro (fun d hd => by rcases hd with rfl | hd; exact ⟨rfl, rfl⟩; cases hd) ?_)); repeat ((first | refine calling (hl) ?_ | refine callingH (hl) ?_ | refine calling (hR) ?_ | refine callingH (hR) ?_ | refine calling (hb) ?_ | refine callingH (hb) ?_ | refine calling (ho) ?_ | refine callingH (ho) ?_ | refine calling (hB) ?_ | refine callingH (hB) ?_ | refine calling (awake7_ok) ?_ | refine callingH (awake7_ok) ?_); try (simp (maxSteps := 4000000) only [go_sem, ↓reduceIte, reduceCtorEq, Nat.reduceEqDiff, Nat.reduceBEq, Nat.reduceAdd, Nat.reduceSub, Nat.reduceMul, Nat.reduceLT, Nat.reduceLeDiff, Nat.reduceBNe, Int.reduceBEq, Int.reduceBNe, Int.reduceLT, Int.reduceLE, Opr.a, Spn.a, nul, beq_self_eq_true]); (repeat (first | refine And.intro (by omega) ?_ | refine And.intro (fun d hd => by rcases hd with rfl | hd; exact ⟨rfl, rfl⟩; cases hd) ?_))))
theorem ofL_law (s : ByteArray) (hs : s.size ≤ 281474976710656) : AFn Tryd.prog 7 [.str s] (.bool true) := by
  refine fn_ofL rfl ?_
  by_cases h1 : (1000 : Int) < s.size
  · (simp (maxSteps := 4000000) only [go_sem, ↓reduceIte, reduceCtorEq, Nat.reduceEqDiff, Nat.reduceBEq, Nat.reduceAdd, Nat.reduceSub, Nat.reduceMul, Nat.reduceLT, Nat.reduceLeDiff, Nat.reduceBNe, Int.reduceBEq, Int.reduceBNe, Int.reduceLT, Int.reduceLE, Opr.a, Spn.a, nul, h1]; (repeat (first | refine And.intro (by omega) ?_ | refine And.intro (fun d hd => by rcases hd with rfl | hd; exact ⟨rfl, rfl⟩; cases hd) ?_)); repeat ((first | refine calling (awake7_ok) ?_ | refine callingH (awake7_ok) ?_); try (simp (maxSteps := 4000000) only [go_sem, ↓reduceIte, reduceCtorEq, Nat.reduceEqDiff, Nat.reduceBEq, Nat.reduceAdd, Nat.reduceSub, Nat.reduceMul, Nat.reduceLT, Nat.reduceLeDiff, Nat.reduceBNe, Int.reduceBEq, Int.reduceBNe, Int.reduceLT, Int.reduceLE, Opr.a, Spn.a, nul, h1]); (repeat (first | refine And.intro (by omega) ?_ | refine And.intro (fun d hd => by rcases hd with rfl | hd; exact ⟨rfl, rfl⟩; cases hd) ?_))))
  · have ho := of_ok s (by omega)
    cases h2 : (ofF s).2 with
    | false =>
      have e : (ofF s).1 = Opr.zero := by
        unfold ofF at h2 ⊢
        simp only at h2 ⊢
        split at h2
        · rename_i hc; rw [if_pos hc]
        · cases h2
      rw [h2, e] at ho
      (simp (maxSteps := 4000000) only [go_sem, ↓reduceIte, reduceCtorEq, Nat.reduceEqDiff, Nat.reduceBEq, Nat.reduceAdd, Nat.reduceSub, Nat.reduceMul, Nat.reduceLT, Nat.reduceLeDiff, Nat.reduceBNe, Int.reduceBEq, Int.reduceBNe, Int.reduceLT, Int.reduceLE, Opr.a, Spn.a, nul, h1, Opr.zero, beq_self_eq_true]; (repeat (first | refine And.intro (by omega) ?_ | refine And.intro (fun d hd => by rcases hd with rfl | hd; exact ⟨rfl, rfl⟩; cases hd) ?_)); repeat ((first | refine calling (ho) ?_ | refine callingH (ho) ?_ | refine calling (awake7_ok) ?_ | refine callingH (awake7_ok) ?_); try (simp (maxSteps := 4000000) only [go_sem, ↓reduceIte, reduceCtorEq, Nat.reduceEqDiff, Nat.reduceBEq, Nat.reduceAdd, Nat.reduceSub, Nat.reduceMul, Nat.reduceLT, Nat.reduceLeDiff, Nat.reduceBNe, Int.reduceBEq, Int.reduceBNe, Int.reduceLT, Int.reduceLE, Opr.a, Spn.a, nul, h1, Opr.zero, beq_self_eq_true]); (repeat (first | refine And.intro (by omega) ?_ | refine And.intro (fun d hd => by rcases hd with rfl | hd; exact ⟨rfl, rfl⟩; cases hd) ?_))))
    | true =>
      obtain ⟨hr, hb⟩ := bytes_of h2
      rw [h2] at ho
      obtain ⟨_, _, z1, z2, z3, _⟩ := right_parts hr
      have hR := rRight_ok (ofF s).1 (by omega) (by omega)
      rw [hr] at hR
      have hB := rBytes_ok (ofF s).1 hr
      rw [hb] at hB
      generalize (ofF s).1 = o at *
      obtain ⟨kind, key, hi, op, val, lim⟩ := o
      (simp (maxSteps := 4000000) only [go_sem, ↓reduceIte, reduceCtorEq, Nat.reduceEqDiff, Nat.reduceBEq, Nat.reduceAdd, Nat.reduceSub, Nat.reduceMul, Nat.reduceLT, Nat.reduceLeDiff, Nat.reduceBNe, Int.reduceBEq, Int.reduceBNe, Int.reduceLT, Int.reduceLE, Opr.a, Spn.a, nul, h1, beq_self_eq_true]; (repeat (first | refine And.intro (by omega) ?_ | refine And.intro (fun d hd => by rcases hd with rfl | hd; exact ⟨rfl, rfl⟩; cases hd) ?_)); repeat ((first | refine calling (ho) ?_ | refine callingH (ho) ?_ | refine calling (hR) ?_ | refine callingH (hR) ?_ | refine calling (hB) ?_ | refine callingH (hB) ?_ | refine calling (awake7_ok) ?_ | refine callingH (awake7_ok) ?_); try (simp (maxSteps := 4000000) only [go_sem, ↓reduceIte, reduceCtorEq, Nat.reduceEqDiff, Nat.reduceBEq, Nat.reduceAdd, Nat.reduceSub, Nat.reduceMul, Nat.reduceLT, Nat.reduceLeDiff, Nat.reduceBNe, Int.reduceBEq, Int.reduceBNe, Int.reduceLT, Int.reduceLE, Opr.a, Spn.a, nul, h1, beq_self_eq_true]); (repeat (first | refine And.intro (by omega) ?_ | refine And.intro (fun d hd => by rcases hd with rfl | hd; exact ⟨rfl, rfl⟩; cases hd) ?_))))
def Opr.vals (o : Opr) : List Value := [.int .i64 o.kind, .string o.key, .string o.hi, .bool o.op, .string o.val, .int .i64 o.lim]
def Opr.inR (o : Opr) : Prop := inI o.kind ∧ inI o.lim ∧ o.key.size ≤ 281474976710656 ∧ o.hi.size ≤ 281474976710656 ∧ o.val.size ≤ 281474976710656
section
open Go.ChangeShapes Go.WideShapes Go.ChangeAt
theorem Opr.of_trod {H : Type} {enc : TypeId × Value → H} {w : World} {sp : Nat → Bool} {held : Bool} {fuel : Nat} {cs : Array Value} {x : DataW H × List MemPlace} (hl : cs.size = Tryd.prog.cellsOf 34) (hw : (x.1.weights Tryd.prog 34).all (· ≤ reachBytes) = true)
    (h : DataW.trod enc Tryd.prog w 0 sp held fuel 34 cs.toList = some x) : ∃ o : Opr, cs = o.vals.toArray ∧ o.inR := by
  have c3 : Tryd.prog.cellsOf 3 = 1 := by kernel_rfl
  have c9 : Tryd.prog.cellsOf 9 = 1 := by kernel_rfl
  have c4 : Tryd.prog.cellsOf 4 = 1 := by kernel_rfl
  have c6 : Tryd.prog.cellsOf 34 = 6 := by kernel_rfl
  rw [c6] at hl
  obtain ⟨xs, n', _, rfl, hl2, hxs, hf⟩ := DataW.trod_struct Tryd.underlying34 h
  obtain ⟨l, rfl⟩ : ∃ l : List Value, cs = l.toArray := ⟨cs.toList, by simp⟩
  have hl : l.length = 6 := by simpa using hl
  match l, hl, xs, hxs with
  | [v0, v1, v2, v3, v4, v5], _, [y0, y1, y2, y3, y4, y5], _ =>
    have h0 := hf 0 _ rfl
    have h1 := hf 1 _ rfl
    have h2 := hf 2 _ rfl
    have h3 := hf 3 _ rfl
    have h4 := hf 4 _ rfl
    have h5 := hf 5 _ rfl
    simp only [c3, c9, c4, List.drop_zero, List.drop_succ_cons, List.take_succ_cons, List.take_zero, List.getElem?_cons_zero, List.getElem?_cons_succ] at h0 h1 h2 h3 h4 h5
    obtain ⟨n0, e0, r0, b0⟩ := DataW.trod_int Tryd.underlying3 h0
    obtain ⟨s1, e1, r1, b1⟩ := DataW.trod_string Tryd.underlying9 h1
    obtain ⟨s2, e2, r2, b2⟩ := DataW.trod_string Tryd.underlying9 h2
    obtain ⟨o3, e3, r3⟩ := DataW.trod_bool Tryd.underlying4 h3
    obtain ⟨s4, e4, r4, b4⟩ := DataW.trod_string Tryd.underlying9 h4
    obtain ⟨n5, e5, r5, b5⟩ := DataW.trod_int Tryd.underlying3 h5
    cases e0; cases e1; cases e2; cases e3; cases e4; cases e5
    subst r0; subst r1; subst r2; subst r3; subst r4; subst r5
    simp only [DataW.weights, Tryd.underlying34, List.map_cons, List.map_nil] at hw
    refine ⟨⟨n0, s1, s2, o3, s4, n5⟩, rfl, bounds_i64 b0, bounds_i64 b5, str_reach (weightsEach_mem hw 1 _ _ rfl rfl), str_reach (weightsEach_mem hw 2 _ _ rfl rfl), str_reach (weightsEach_mem hw 4 _ _ rfl rfl)⟩
end
theorem Opr.vr (o : Opr) (Q : Nat → Nat → Prop) (w : World) : VR Q w o.a (.agg o.vals.toArray) := by
  refine .agg _ _ rfl fun j c v hc hv => ?_
  match j with
  | 0 => cases hc; cases hv; exact .int _ _
  | 1 => cases hc; cases hv; exact .str _
  | 2 => cases hc; cases hv; exact .str _
  | 3 => cases hc; cases hv; exact .bool _
  | 4 => cases hc; cases hv; exact .str _
  | 5 => cases hc; cases hv; exact .int _ _
  | n + 6 => simp at hc
theorem bytesL_walk (o : Opr) (w : World) (hG : Glob w) (h : o.inR) : Calls Tryd.prog 6 #[.agg o.vals.toArray] w fun e w' => e = .returned (.bool true) ∧ Below w.heap.size w w' := by
  refine run_args (vs := [.agg o.vals.toArray]) hG rfl (fun j d u hj hu => ?_) (bytesL_law o)
  match j with
  | 0 => cases hj; cases hu; exact o.vr _ _
  | j + 1 => simp at hj
theorem ofL_walk (a : ByteArray) (w : World) (hG : Glob w) (h1 : a.size ≤ 281474976710656) : Calls Tryd.prog 7 #[.string a] w fun e w' => e = .returned (.bool true) ∧ Below w.heap.size w w' :=
  run_args (vs := [.string a]) hG rfl (vr_strs [a]) (ofL_law a h1)
end Go.Proofs.YtgpoglaojklfbaaDoor
