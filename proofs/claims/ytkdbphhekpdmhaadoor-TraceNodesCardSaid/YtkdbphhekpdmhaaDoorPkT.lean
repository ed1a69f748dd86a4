/-
  Layer 7 on the plain machine: the operation that a line is, and the law OpLines.
-/
import Derived.Test.YtkdbphhekpdmhaaDoorPkS

namespace Go.Proofs.YtkdbphhekpdmhaaDoor
open Go.RowKit
set_option linter.unusedVariables false
set_option linter.unusedSimpArgs false
set_option maxRecDepth 100000
attribute [local go_sem ↓] runOp headOp
attribute [local go_sem] ev0 ev1 ev2 ev3 ev4 evA stHOk.eq_1 stHOk.eq_2 stHSt.eq_1 stHSt.eq_2 okV valV fzV okF valF okBld valBld mxOk.eq_1 mxOk.eq_2 mxVal.eq_1 mxVal.eq_2 cellFit.eq_1 cellFit.eq_2 cellFit.eq_3 cellEq.eq_1 cellEq.eq_2 cellEq.eq_3 upd_at AV.flatB AV.flatBs binIok binIV binSok binSV cellsOk.eq_1 cellsOk.eq_2 cellsVal.eq_1 cellsVal.eq_2 objCells.eq_1 objCells.eq_2 objZ.eq_1 objZ.eq_2 objProt.eq_1 objProt.eq_2 oneObj ptrOk.eq_1 ptrOk.eq_2 ptrOk.eq_3 ptrCells.eq_1 ptrCells.eq_2 ptrCells.eq_3 lenOk.eq_1 lenOk.eq_2 lenOk.eq_3 lenOk.eq_4 lenVal.eq_1 lenVal.eq_2 lenVal.eq_3 lenVal.eq_4 faOk.eq_1 faOk.eq_2 faOk.eq_3 faVal.eq_1 faVal.eq_2 faVal.eq_3 iaOk.eq_1 iaOk.eq_2 iaOk.eq_3 iaVal.eq_1 iaVal.eq_2 iaVal.eq_3 slcLen.eq_1 slcLen.eq_2 slcLen.eq_3 slcLen.eq_4 bdOk.eq_1 bdOk.eq_2 bdVal.eq_1 bdVal.eq_2 slcOk.eq_1 slcOk.eq_2 slcOk.eq_3 slcOk.eq_4 slcVal.eq_1 slcVal.eq_2 slcVal.eq_3 slcVal.eq_4 slcFz.eq_1 slcFz.eq_2 byOk.eq_1 byOk.eq_2 byOk.eq_3 byOk.eq_4 byOk.eq_5 byOk.eq_6 byOk.eq_7 byVal.eq_1 byVal.eq_2 byVal.eq_3 byFz.eq_1 byFz.eq_2 byFz.eq_3 byOks byVals byFzs allOne resSt.eq_1 resSt.eq_2 resName.eq_1 resName.eq_2 stOk.eq_1 stOk.eq_2 stArr.eq_1 stArr.eq_2 stSt.eq_1 stSt.eq_2 AV.patch nameOk_none gB.eq_1 gB.eq_2 gB.eq_3 gIs.eq_1 gIs.eq_2 gIs.eq_3 retV resV resVs evalV cellsV St.byval List.getD_cons_zero List.getD_cons_succ List.getD_nil List.map_cons List.map_nil List.length_cons List.length_nil List.take_succ_cons List.take_zero List.drop_succ_cons List.drop_zero List.headD_cons List.set_cons_zero List.append_nil List.nil_append List.cons_append List.contains_cons List.contains_nil List.elem_cons List.elem_nil List.all_cons List.all_nil List.getElem?_cons_zero List.getElem?_cons_succ List.filterMap_cons List.filterMap_nil Option.isSome_some Option.isSome_none Option.map_some Option.map_none Option.some.injEq AV.int.injEq AV.bool.injEq AV.str.injEq AV.tup.injEq AV.agg.injEq AV.sl.injEq List.cons.injEq Bool.false_eq_true Bool.true_eq_false Bool.not_true Bool.not_false Bool.and_true Bool.true_and Bool.or_false Bool.or_true Bool.false_or Bool.true_or Bool.or_self Bool.and_self Bool.not_eq_true' Bool.not_eq_false' Bool.not_not beq_self_eq_true true_and and_true false_and and_false and_self not_true_eq_false not_false_eq_true forall_const true_implies false_implies implies_true imp_self Nat.lt_add_one Nat.le_refl Nat.zero_le Nat.add_zero Nat.zero_add decide_true decide_false decide_eq_true_eq decide_eq_false_iff_not exists_eq_left exists_eq_left' ge_iff_le gt_iff_lt ite_branch ite_branch' nilOk.eq_1 nilOk.eq_2 nilMay.eq_1 nilMay.eq_2 AV.isSl.eq_1 objTy'.eq_1 objTy'.eq_2 apSt.eq_1 apArr.eq_1 apArr.eq_2 slOf.eq_1 fitsV List.mem_cons List.not_mem_nil Bool.false_and Bool.and_false primOk.eq_1 primOk.eq_2 primOk.eq_3 primOk.eq_4 primOk.eq_5 primVal.eq_1 primVal.eq_2 primVal.eq_3 primVal.eq_4 primVal.eq_5 mOk.eq_1 mOk.eq_2 mVal.eq_1 mVal.eq_2 mFz.eq_1 mFz.eq_2 mOks mVals mFzs mCalOk.eq_1 mCalOk.eq_2 mFn.eq_1 mFn.eq_2 mArgs.eq_1 mArgs.eq_2 ckOk.eq_1 ckOk.eq_2 cloOk.eq_1 ptrAt.eq_1 sh.eq_1 sh.eq_2 sh.eq_3 sh.eq_4 sh.eq_5 retM shH_small
def idxInv (l : List ByteArray) (x : ByteArray) (r : Int) (k : Nat) (σ : St) : Prop :=
  ∃ j : Nat, j ≤ l.length ∧ k = l.length - j ∧ σ.T 0 = .sl (l.map .str) ∧ σ.T 1 = .str x ∧ σ.T 7 = .int .i64 l.length ∧ σ.T 8 = .int .i64 j ∧ idxS x (l.drop j) j = r
/-! ### slices.Index[[]string,string] -/
def r_idxOf_0 : Reg := ⟨[], [⟨(.mv (.c (.int .i64 0))), (some 4), none, [], []⟩], [], [], false⟩
def r_idxOf_1 : Reg := ⟨[], [⟨(.mv (.t 0)), (some 6), none, [], []⟩, ⟨(.len false (.t 6)), (some 7), none, [], []⟩, ⟨(.mv (.c (.int .i64 0))), (some 8), none, [], []⟩], [], [], false⟩
def r_idxOf_2 : Reg := ⟨[], [⟨(.bin .lss (.t 8) (.t 7)), (some 9), none, [], []⟩], [], [], false⟩
def r_idxOf_3 : Reg := ⟨[], [⟨(.mv (.t 8)), (some 10), none, [], []⟩, ⟨(.mv (.t 10)), (some 5), none, [], []⟩], [], [], false⟩
def r_idxOf_4 : Reg := ⟨[], [⟨(.mv (.t 1)), (some 11), none, [], []⟩, ⟨(.mv (.t 0)), (some 12), none, [], []⟩, ⟨(.mv (.t 5)), (some 13), none, [], []⟩, ⟨(.iaddr 1 (.t 12) (.t 13)), (some 14), none, [], []⟩, ⟨(.load 1 false (.t 14)), (some 15), none, [], []⟩, ⟨(.bin .eql (.t 11) (.t 15)), (some 16), none, [], []⟩], [], [], false⟩
def r_idxOf_5 : Reg := ⟨[], [⟨(.mv (.t 5)), (some 17), none, [], []⟩, ⟨(.mv (.t 17)), (some 4), none, [], []⟩], [], [], false⟩
def r_idxOf_6 : Reg := ⟨[], [⟨(.bin .add (.t 8) (.c (.int .i64 1))), (some 18), none, [], []⟩, ⟨(.mv (.t 18)), (some 8), none, [], []⟩], [], [], false⟩
def r_idxOf_l7 : IR := (.seq (.reg r_idxOf_2)
  (.seq (.cond (.t 9) .skip
  (.exit 0))
  (.seq (.block 1 (.seq (.reg r_idxOf_3)
  (.seq (.reg r_idxOf_4)
  (.cond (.t 16) (.seq (.reg r_idxOf_5)
  .ret)
  .skip))))
  (.reg r_idxOf_6))))
def r_idxOf_8 : Reg := ⟨[], [⟨(.mv (.c (.int .i64 (-1)))), (some 4), none, [], []⟩], [], [], false⟩
def ir_idxOf : IR := (.seq (.reg r_idxOf_0)
  (.seq (.seq (.reg r_idxOf_1)
  (.block 0 (.loop r_idxOf_l7)))
  (.seq (.reg r_idxOf_8)
  .ret)))
def res_idxOf : List RDesc := [(.tmp 4)]
theorem e_idxOf_0 (C : FuncId → List AV → AV → Prop) (σ : St) (K : St → Prop) : runReg C r_idxOf_0 σ K = runOps C [⟨(.mv (.c (.int .i64 0))), (some 4), none, [], []⟩] (σ.kills []) K := rfl
theorem e_idxOf_1 (C : FuncId → List AV → AV → Prop) (σ : St) (K : St → Prop) : runReg C r_idxOf_1 σ K = runOps C [⟨(.mv (.t 0)), (some 6), none, [], []⟩, ⟨(.len false (.t 6)), (some 7), none, [], []⟩, ⟨(.mv (.c (.int .i64 0))), (some 8), none, [], []⟩] (σ.kills []) K := rfl
theorem e_idxOf_2 (C : FuncId → List AV → AV → Prop) (σ : St) (K : St → Prop) : runReg C r_idxOf_2 σ K = runOps C [⟨(.bin .lss (.t 8) (.t 7)), (some 9), none, [], []⟩] (σ.kills []) K := rfl
theorem e_idxOf_3 (C : FuncId → List AV → AV → Prop) (σ : St) (K : St → Prop) : runReg C r_idxOf_3 σ K = runOps C [⟨(.mv (.t 8)), (some 10), none, [], []⟩, ⟨(.mv (.t 10)), (some 5), none, [], []⟩] (σ.kills []) K := rfl
theorem e_idxOf_4 (C : FuncId → List AV → AV → Prop) (σ : St) (K : St → Prop) : runReg C r_idxOf_4 σ K = runOps C [⟨(.mv (.t 1)), (some 11), none, [], []⟩, ⟨(.mv (.t 0)), (some 12), none, [], []⟩, ⟨(.mv (.t 5)), (some 13), none, [], []⟩, ⟨(.iaddr 1 (.t 12) (.t 13)), (some 14), none, [], []⟩, ⟨(.load 1 false (.t 14)), (some 15), none, [], []⟩, ⟨(.bin .eql (.t 11) (.t 15)), (some 16), none, [], []⟩] (σ.kills []) K := rfl
theorem e_idxOf_5 (C : FuncId → List AV → AV → Prop) (σ : St) (K : St → Prop) : runReg C r_idxOf_5 σ K = runOps C [⟨(.mv (.t 5)), (some 17), none, [], []⟩, ⟨(.mv (.t 17)), (some 4), none, [], []⟩] (σ.kills []) K := rfl
theorem e_idxOf_6 (C : FuncId → List AV → AV → Prop) (σ : St) (K : St → Prop) : runReg C r_idxOf_6 σ K = runOps C [⟨(.bin .add (.t 8) (.c (.int .i64 1))), (some 18), none, [], []⟩, ⟨(.mv (.t 18)), (some 8), none, [], []⟩] (σ.kills []) K := rfl
theorem e_idxOf_8 (C : FuncId → List AV → AV → Prop) (σ : St) (K : St → Prop) : runReg C r_idxOf_8 σ K = runOps C [⟨(.mv (.c (.int .i64 (-1)))), (some 4), none, [], []⟩] (σ.kills []) K := rfl
theorem fn_idxOf {args : List AV} {r : AV} (ha : args.length.ble Tryd.f110.ntmps = true) (h : run (AFn Tryd.prog) ir_idxOf (endQ res_idxOf r) (initSt args)) : AFn Tryd.prog 110 args r :=
  AFn.of_code (hint := fun _ => []) (c := Tryd.f110.body.getD .skip) (by kernel_rfl) (by kernel_rfl) Tryd.func110 (by kernel_rfl) (by kernel_rfl) (by kernel_rfl) (of_decide_eq_true (by kernel_rfl)) (Nat.le_of_ble_eq_true ha) (Nat.le_of_ble_eq_true (by kernel_rfl)) (run_ok h)

/-! ### percolate/op.Parse -/
def r_oParse_0 : Reg := ⟨[], [⟨(.alloc 6 48 (.agg [(.int .i64 0), (.str ⟨#[]⟩), (.str ⟨#[]⟩), (.bool false), (.str ⟨#[]⟩), (.int .i64 0)])), (some 2), none, [], []⟩, ⟨(.mv (.c (.bool false))), (some 3), none, [], []⟩], [2], [], false⟩
def r_oParse_1 : Reg := ⟨[], [⟨(.mv (.t 0)), (some 6), none, [7, 8], []⟩, ⟨(.callv (.c (.clo 68 [] [])) [(.t 6)]), (some 7), none, [8], []⟩, ⟨(.bsl 1 9 [(.c (.str ⟨#[]⟩)), (.c (.str ⟨#[]⟩)), (.c (.str ⟨#[]⟩))]), (some 8), none, [], []⟩, ⟨(.append 1 9 16 (.t 7) (.t 8)), (some 9), none, [], []⟩, ⟨(.mv (.t 9)), (some 4), none, [], []⟩], [7, 8], [], false⟩
def r_oParse_2 : Reg := ⟨[⟨(.callv (.c (.clo 106 [] [])) []), (some 10), none, [14, 5], []⟩, ⟨(.mv (.t 4)), (some 11), none, [10, 14, 5], []⟩, ⟨(.iaddr 1 (.t 11) (.c (.int .i64 0))), (some 12), none, [10, 14, 5], []⟩, ⟨(.load 1 false (.t 12)), (some 13), none, [10, 14, 5], []⟩, ⟨(.callv (.c (.clo 110 [] [])) [(.t 10), (.t 13)]), (some 14), none, [5], []⟩, ⟨(.bld [(.int .i64 0), (.str ⟨#[]⟩), (.str ⟨#[]⟩), (.bool false), (.str ⟨#[]⟩), (.int .i64 0)] [⟨0, 1, (.t 14)⟩]), (some 15), none, [5], []⟩, ⟨(.alloc 6 48 (.agg [(.int .i64 0), (.str ⟨#[]⟩), (.str ⟨#[]⟩), (.bool false), (.str ⟨#[]⟩), (.int .i64 0)])), (some 5), none, [10, 14], []⟩], [⟨(.store 6 (.t 5) (.t 15)), none, none, [], [5]⟩], [10, 14, 5], [], true⟩
def r_oParse_3 : Reg := ⟨[], [⟨(.mv (.t 4)), (some 17), none, [20], []⟩, ⟨(.iaddr 1 (.t 17) (.c (.int .i64 1))), (some 18), none, [20], []⟩, ⟨(.load 1 false (.t 18)), (some 19), none, [20], []⟩, ⟨(.callv (.c (.clo 111 [] [])) [(.t 19)]), (some 20), none, [], []⟩, ⟨(.mv (.t 20)), (some 16), none, [], []⟩, ⟨(.ext 0 (.t 16)), (some 21), none, [], []⟩, ⟨(.ext 1 (.t 16)), (some 22), none, [], []⟩, ⟨(.faddr 1 (.t 5)), (some 23), none, [], []⟩, ⟨(.store 1 (.t 23) (.t 21)), none, none, [], []⟩], [20], [], false⟩
def r_oParse_4 : Reg := ⟨[], [⟨(.load 6 true (.t 5)), (some 25), none, [26], []⟩, ⟨(.callv (.c (.clo 107 [] [])) [(.t 25)]), (some 26), none, [], []⟩, ⟨(.mv (.t 26)), (some 24), none, [], []⟩], [26], [], false⟩
def r_oParse_5 : Reg := ⟨[], [⟨(.mv (.t 4)), (some 28), none, [31], []⟩, ⟨(.iaddr 1 (.t 28) (.c (.int .i64 2))), (some 29), none, [31], []⟩, ⟨(.load 1 false (.t 29)), (some 30), none, [31], []⟩, ⟨(.callv (.c (.clo 111 [] [])) [(.t 30)]), (some 31), none, [], []⟩, ⟨(.mv (.t 31)), (some 27), none, [], []⟩, ⟨(.ext 0 (.t 27)), (some 32), none, [], []⟩, ⟨(.ext 1 (.t 27)), (some 33), none, [], []⟩, ⟨(.faddr 4 (.t 5)), (some 34), none, [], []⟩, ⟨(.store 1 (.t 34) (.t 32)), none, none, [], []⟩], [31], [], false⟩
def r_oParse_6 : Reg := ⟨[], [⟨(.load 6 true (.t 5)), (some 36), none, [37], []⟩, ⟨(.callv (.c (.clo 108 [] [])) [(.t 36)]), (some 37), none, [], []⟩, ⟨(.mv (.t 37)), (some 38), none, [], []⟩, ⟨(.mv (.t 4)), (some 39), (some (38, true)), [], []⟩, ⟨(.iaddr 1 (.t 39) (.c (.int .i64 2))), (some 40), (some (38, true)), [], []⟩, ⟨(.load 1 false (.t 40)), (some 41), (some (38, true)), [], []⟩, ⟨(.bin .eql (.t 41) (.c (.str ⟨#[42]⟩))), (some 42), (some (38, true)), [], []⟩, ⟨(.pick (.t 38) (.t 42) (.c (.bool false))), (some 43), none, [], []⟩, ⟨(.mv (.t 43)), (some 35), none, [], []⟩], [37], [], false⟩
def r_oParse_7 : Reg := ⟨[], [⟨(.faddr 3 (.t 5)), (some 44), none, [], []⟩, ⟨(.store 1 (.t 44) (.c (.bool true))), none, none, [], []⟩], [], [], false⟩
def r_oParse_8 : Reg := ⟨[], [⟨(.load 6 true (.t 5)), (some 46), none, [47], []⟩, ⟨(.callv (.c (.clo 108 [] [])) [(.t 46)]), (some 47), none, [], []⟩, ⟨(.mv (.t 47)), (some 45), none, [], []⟩], [47], [], false⟩
def r_oParse_9 : Reg := ⟨[], [⟨(.mv (.t 4)), (some 49), none, [52], []⟩, ⟨(.iaddr 1 (.t 49) (.c (.int .i64 2))), (some 50), none, [52], []⟩, ⟨(.load 1 false (.t 50)), (some 51), none, [52], []⟩, ⟨(.callv (.c (.clo 111 [] [])) [(.t 51)]), (some 52), none, [], []⟩, ⟨(.mv (.t 52)), (some 48), none, [], []⟩, ⟨(.ext 0 (.t 48)), (some 53), none, [], []⟩, ⟨(.ext 1 (.t 48)), (some 54), none, [], []⟩, ⟨(.faddr 2 (.t 5)), (some 55), none, [], []⟩, ⟨(.store 1 (.t 55) (.t 53)), none, none, [], []⟩], [52], [], false⟩
def r_oParse_10 : Reg := ⟨[], [⟨(.faddr 0 (.t 5)), (some 56), none, [], []⟩, ⟨(.load 1 false (.t 56)), (some 57), none, [], []⟩, ⟨(.bin .eql (.t 57) (.c (.int .i64 6))), (some 58), none, [], []⟩], [], [], false⟩
def r_oParse_11 : Reg := ⟨[], [⟨(.mv (.t 4)), (some 60), none, [63], []⟩, ⟨(.iaddr 1 (.t 60) (.c (.int .i64 3))), (some 61), none, [63], []⟩, ⟨(.load 1 false (.t 61)), (some 62), none, [63], []⟩, ⟨(.callv (.c (.clo 69 [] [])) [(.t 62)]), (some 63), none, [], []⟩, ⟨(.mv (.t 63)), (some 59), none, [], []⟩, ⟨(.ext 0 (.t 59)), (some 64), none, [], []⟩, ⟨(.ext 1 (.t 59)), (some 65), none, [], []⟩, ⟨(.faddr 5 (.t 5)), (some 66), none, [], []⟩, ⟨(.store 1 (.t 66) (.t 64)), none, none, [], []⟩], [63], [], false⟩
def r_oParse_12 : Reg := ⟨[], [⟨(.load 6 true (.t 5)), (some 67), none, [68, 72], []⟩, ⟨(.callv (.c (.clo 105 [] [])) [(.t 67)]), (some 68), none, [72], []⟩, ⟨(.bin .neq (.t 68) (.c (.int .i64 0))), (some 69), none, [72], []⟩, ⟨(.mv (.t 69)), (some 70), none, [72], []⟩, ⟨(.load 6 true (.t 5)), (some 71), (some (70, false)), [72], []⟩, ⟨(.callv (.c (.clo 66 [] [])) [(.t 71)]), (some 72), (some (70, false)), [], []⟩, ⟨(.mv (.t 0)), (some 73), (some (70, false)), [], []⟩, ⟨(.bin .neq (.t 72) (.t 73)), (some 74), (some (70, false)), [], []⟩, ⟨(.pick (.t 70) (.c (.bool true)) (.t 74)), (some 75), none, [], []⟩], [68, 72], [], false⟩
def r_oParse_13 : Reg := ⟨[], [⟨(.bld [(.int .i64 0), (.str ⟨#[]⟩), (.str ⟨#[]⟩), (.bool false), (.str ⟨#[]⟩), (.int .i64 0)] []), (some 76), none, [], []⟩, ⟨(.store 6 (.t 2) (.t 76)), none, none, [], []⟩, ⟨(.mv (.c (.bool false))), (some 3), none, [], []⟩], [], [], false⟩
def r_oParse_14 : Reg := ⟨[], [⟨(.load 6 true (.t 5)), (some 77), none, [], []⟩, ⟨(.store 6 (.t 2) (.t 77)), none, none, [], []⟩, ⟨(.mv (.c (.bool true))), (some 3), none, [], []⟩], [], [], false⟩
def ir_oParse : IR := (.seq (.reg r_oParse_0)
  (.seq (.reg r_oParse_1)
  (.seq (.reg r_oParse_2)
  (.seq (.reg r_oParse_3)
  (.seq (.block 0 (.seq (.reg r_oParse_4)
  (.cond (.t 24) (.reg r_oParse_5)
  (.seq (.reg r_oParse_6)
  (.cond (.t 35) (.reg r_oParse_7)
  (.seq (.reg r_oParse_8)
  (.cond (.t 45) (.reg r_oParse_9)
  .skip)))))))
  (.seq (.seq (.reg r_oParse_10)
  (.cond (.t 58) (.reg r_oParse_11)
  .skip))
  (.seq (.seq (.reg r_oParse_12)
  (.cond (.t 75) (.seq (.reg r_oParse_13)
  .ret)
  .skip))
  (.seq (.reg r_oParse_14)
  .ret))))))))
def res_oParse : List RDesc := [(.cell 2 6 true), (.tmp 3)]
theorem e_oParse_0 (C : FuncId → List AV → AV → Prop) (σ : St) (K : St → Prop) : runReg C r_oParse_0 σ K = runOps C [⟨(.alloc 6 48 (.agg [(.int .i64 0), (.str ⟨#[]⟩), (.str ⟨#[]⟩), (.bool false), (.str ⟨#[]⟩), (.int .i64 0)])), (some 2), none, [], []⟩, ⟨(.mv (.c (.bool false))), (some 3), none, [], []⟩] (σ.kills [2]) K := rfl
theorem e_oParse_1 (C : FuncId → List AV → AV → Prop) (σ : St) (K : St → Prop) : runReg C r_oParse_1 σ K = runOps C [⟨(.mv (.t 0)), (some 6), none, [7, 8], []⟩, ⟨(.callv (.c (.clo 68 [] [])) [(.t 6)]), (some 7), none, [8], []⟩, ⟨(.bsl 1 9 [(.c (.str ⟨#[]⟩)), (.c (.str ⟨#[]⟩)), (.c (.str ⟨#[]⟩))]), (some 8), none, [], []⟩, ⟨(.append 1 9 16 (.t 7) (.t 8)), (some 9), none, [], []⟩, ⟨(.mv (.t 9)), (some 4), none, [], []⟩] (σ.kills [7, 8]) K := rfl
theorem e_oParse_2 (C : FuncId → List AV → AV → Prop) (σ : St) (K : St → Prop) : runReg C r_oParse_2 σ K = runHead C [] [⟨(.store 6 (.t 5) (.t 15)), none, none, [], [5]⟩] [⟨(.callv (.c (.clo 106 [] [])) []), (some 10), none, [14, 5], []⟩, ⟨(.mv (.t 4)), (some 11), none, [10, 14, 5], []⟩, ⟨(.iaddr 1 (.t 11) (.c (.int .i64 0))), (some 12), none, [10, 14, 5], []⟩, ⟨(.load 1 false (.t 12)), (some 13), none, [10, 14, 5], []⟩, ⟨(.callv (.c (.clo 110 [] [])) [(.t 10), (.t 13)]), (some 14), none, [5], []⟩, ⟨(.bld [(.int .i64 0), (.str ⟨#[]⟩), (.str ⟨#[]⟩), (.bool false), (.str ⟨#[]⟩), (.int .i64 0)] [⟨0, 1, (.t 14)⟩]), (some 15), none, [5], []⟩, ⟨(.alloc 6 48 (.agg [(.int .i64 0), (.str ⟨#[]⟩), (.str ⟨#[]⟩), (.bool false), (.str ⟨#[]⟩), (.int .i64 0)])), (some 5), none, [10, 14], []⟩] (σ.kills [10, 14, 5]) K := rfl
theorem e_oParse_3 (C : FuncId → List AV → AV → Prop) (σ : St) (K : St → Prop) : runReg C r_oParse_3 σ K = runOps C [⟨(.mv (.t 4)), (some 17), none, [20], []⟩, ⟨(.iaddr 1 (.t 17) (.c (.int .i64 1))), (some 18), none, [20], []⟩, ⟨(.load 1 false (.t 18)), (some 19), none, [20], []⟩, ⟨(.callv (.c (.clo 111 [] [])) [(.t 19)]), (some 20), none, [], []⟩, ⟨(.mv (.t 20)), (some 16), none, [], []⟩, ⟨(.ext 0 (.t 16)), (some 21), none, [], []⟩, ⟨(.ext 1 (.t 16)), (some 22), none, [], []⟩, ⟨(.faddr 1 (.t 5)), (some 23), none, [], []⟩, ⟨(.store 1 (.t 23) (.t 21)), none, none, [], []⟩] (σ.kills [20]) K := rfl
theorem e_oParse_4 (C : FuncId → List AV → AV → Prop) (σ : St) (K : St → Prop) : runReg C r_oParse_4 σ K = runOps C [⟨(.load 6 true (.t 5)), (some 25), none, [26], []⟩, ⟨(.callv (.c (.clo 107 [] [])) [(.t 25)]), (some 26), none, [], []⟩, ⟨(.mv (.t 26)), (some 24), none, [], []⟩] (σ.kills [26]) K := rfl
theorem e_oParse_5 (C : FuncId → List AV → AV → Prop) (σ : St) (K : St → Prop) : runReg C r_oParse_5 σ K = runOps C [⟨(.mv (.t 4)), (some 28), none, [31], []⟩, ⟨(.iaddr 1 (.t 28) (.c (.int .i64 2))), (some 29), none, [31], []⟩, ⟨(.load 1 false (.t 29)), (some 30), none, [31], []⟩, ⟨(.callv (.c (.clo 111 [] [])) [(.t 30)]), (some 31), none, [], []⟩, ⟨(.mv (.t 31)), (some 27), none, [], []⟩, ⟨(.ext 0 (.t 27)), (some 32), none, [], []⟩, ⟨(.ext 1 (.t 27)), (some 33), none, [], []⟩, ⟨(.faddr 4 (.t 5)), (some 34), none, [], []⟩, ⟨(.store 1 (.t 34) (.t 32)), none, none, [], []⟩] (σ.kills [31]) K := rfl
theorem e_oParse_6 (C : FuncId → List AV → AV → Prop) (σ : St) (K : St → Prop) : runReg C r_oParse_6 σ K = runOps C [⟨(.load 6 true (.t 5)), (some 36), none, [37], []⟩, ⟨(.callv (.c (.clo 108 [] [])) [(.t 36)]), (some 37), none, [], []⟩, ⟨(.mv (.t 37)), (some 38), none, [], []⟩, ⟨(.mv (.t 4)), (some 39), (some (38, true)), [], []⟩, ⟨(.iaddr 1 (.t 39) (.c (.int .i64 2))), (some 40), (some (38, true)), [], []⟩, ⟨(.load 1 false (.t 40)), (some 41), (some (38, true)), [], []⟩, ⟨(.bin .eql (.t 41) (.c (.str ⟨#[42]⟩))), (some 42), (some (38, true)), [], []⟩, ⟨(.pick (.t 38) (.t 42) (.c (.bool false))), (some 43), none, [], []⟩, ⟨(.mv (.t 43)), (some 35), none, [], []⟩] (σ.kills [37]) K := rfl
theorem e_oParse_7 (C : FuncId → List AV → AV → Prop) (σ : St) (K : St → Prop) : runReg C r_oParse_7 σ K = runOps C [⟨(.faddr 3 (.t 5)), (some 44), none, [], []⟩, ⟨(.store 1 (.t 44) (.c (.bool true))), none, none, [], []⟩] (σ.kills []) K := rfl
theorem e_oParse_8 (C : FuncId → List AV → AV → Prop) (σ : St) (K : St → Prop) : runReg C r_oParse_8 σ K = runOps C [⟨(.load 6 true (.t 5)), (some 46), none, [47], []⟩, ⟨(.callv (.c (.clo 108 [] [])) [(.t 46)]), (some 47), none, [], []⟩, ⟨(.mv (.t 47)), (some 45), none, [], []⟩] (σ.kills [47]) K := rfl
theorem e_oParse_9 (C : FuncId → List AV → AV → Prop) (σ : St) (K : St → Prop) : runReg C r_oParse_9 σ K = runOps C [⟨(.mv (.t 4)), (some 49), none, [52], []⟩, ⟨(.iaddr 1 (.t 49) (.c (.int .i64 2))), (some 50), none, [52], []⟩, ⟨(.load 1 false (.t 50)), (some 51), none, [52], []⟩, ⟨(.callv (.c (.clo 111 [] [])) [(.t 51)]), (some 52), none, [], []⟩, ⟨(.mv (.t 52)), (some 48), none, [], []⟩, ⟨(.ext 0 (.t 48)), (some 53), none, [], []⟩, ⟨(.ext 1 (.t 48)), (some 54), none, [], []⟩, ⟨(.faddr 2 (.t 5)), (some 55), none, [], []⟩, ⟨(.store 1 (.t 55) (.t 53)), none, none, [], []⟩] (σ.kills [52]) K := rfl
theorem e_oParse_10 (C : FuncId → List AV → AV → Prop) (σ : St) (K : St → Prop) : runReg C r_oParse_10 σ K = runOps C [⟨(.faddr 0 (.t 5)), (some 56), none, [], []⟩, ⟨(.load 1 false (.t 56)), (some 57), none, [], []⟩, ⟨(.bin .eql (.t 57) (.c (.int .i64 6))), (some 58), none, [], []⟩] (σ.kills []) K := rfl
theorem e_oParse_11 (C : FuncId → List AV → AV → Prop) (σ : St) (K : St → Prop) : runReg C r_oParse_11 σ K = runOps C [⟨(.mv (.t 4)), (some 60), none, [63], []⟩, ⟨(.iaddr 1 (.t 60) (.c (.int .i64 3))), (some 61), none, [63], []⟩, ⟨(.load 1 false (.t 61)), (some 62), none, [63], []⟩, ⟨(.callv (.c (.clo 69 [] [])) [(.t 62)]), (some 63), none, [], []⟩, ⟨(.mv (.t 63)), (some 59), none, [], []⟩, ⟨(.ext 0 (.t 59)), (some 64), none, [], []⟩, ⟨(.ext 1 (.t 59)), (some 65), none, [], []⟩, ⟨(.faddr 5 (.t 5)), (some 66), none, [], []⟩, ⟨(.store 1 (.t 66) (.t 64)), none, none, [], []⟩] (σ.kills [63]) K := rfl
theorem e_oParse_12 (C : FuncId → List AV → AV → Prop) (σ : St) (K : St → Prop) : runReg C r_oParse_12 σ K = runOps C [⟨(.load 6 true (.t 5)), (some 67), none, [68, 72], []⟩, ⟨(.callv (.c (.clo 105 [] [])) [(.t 67)]), (some 68), none, [72], []⟩, ⟨(.bin .neq (.t 68) (.c (.int .i64 0))), (some 69), none, [72], []⟩, ⟨(.mv (.t 69)), (some 70), none, [72], []⟩, ⟨(.load 6 true (.t 5)), (some 71), (some (70, false)), [72], []⟩, ⟨(.callv (.c (.clo 66 [] [])) [(.t 71)]), (some 72), (some (70, false)), [], []⟩, ⟨(.mv (.t 0)), (some 73), (some (70, false)), [], []⟩, ⟨(.bin .neq (.t 72) (.t 73)), (some 74), (some (70, false)), [], []⟩, ⟨(.pick (.t 70) (.c (.bool true)) (.t 74)), (some 75), none, [], []⟩] (σ.kills [68, 72]) K := rfl
theorem e_oParse_13 (C : FuncId → List AV → AV → Prop) (σ : St) (K : St → Prop) : runReg C r_oParse_13 σ K = runOps C [⟨(.bld [(.int .i64 0), (.str ⟨#[]⟩), (.str ⟨#[]⟩), (.bool false), (.str ⟨#[]⟩), (.int .i64 0)] []), (some 76), none, [], []⟩, ⟨(.store 6 (.t 2) (.t 76)), none, none, [], []⟩, ⟨(.mv (.c (.bool false))), (some 3), none, [], []⟩] (σ.kills []) K := rfl
theorem e_oParse_14 (C : FuncId → List AV → AV → Prop) (σ : St) (K : St → Prop) : runReg C r_oParse_14 σ K = runOps C [⟨(.load 6 true (.t 5)), (some 77), none, [], []⟩, ⟨(.store 6 (.t 2) (.t 77)), none, none, [], []⟩, ⟨(.mv (.c (.bool true))), (some 3), none, [], []⟩] (σ.kills []) K := rfl
theorem fn_oParse {args : List AV} {r : AV} (ha : args.length.ble Tryd.f70.ntmps = true) (h : run (AFn Tryd.prog) ir_oParse (endQ res_oParse r) (initSt args)) : AFn Tryd.prog 70 args r :=
  AFn.of_code (hint := fun _ => []) (c := Tryd.f70.body.getD .skip) (by kernel_rfl) (by kernel_rfl) Tryd.func70 (by kernel_rfl) (by kernel_rfl) (by kernel_rfl) (of_decide_eq_true (by kernel_rfl)) (Nat.le_of_ble_eq_true ha) (Nat.le_of_ble_eq_true (by kernel_rfl)) (run_ok h)

attribute [local go_sem ↓] ir_idxOf
attribute [local go_sem] res_idxOf e_idxOf_0 e_idxOf_1 e_idxOf_2 e_idxOf_3 e_idxOf_4 e_idxOf_5 e_idxOf_6 e_idxOf_8
attribute [local go_sem ↓] ir_oParse
attribute [local go_sem] res_oParse e_oParse_0 e_oParse_1 e_oParse_2 e_oParse_3 e_oParse_4 e_oParse_5 e_oParse_6 e_oParse_7 e_oParse_8 e_oParse_9 e_oParse_10 e_oParse_11 e_oParse_12 e_oParse_13 e_oParse_14

theorem idxOf_ok (l : List ByteArray) (x : ByteArray) (hl : l.length ≤ 1000000) : AFn Tryd.prog 110 [.sl (l.map .str), .str x] (.int .i64 (idxS x l 0)) := by
  refine fn_idxOf rfl ?_
  simp (maxSteps := 4000000) only [go_sem, ↓reduceIte, reduceCtorEq, Nat.reduceEqDiff, Nat.reduceBEq, Nat.reduceAdd, Nat.reduceSub, Nat.reduceMul, Nat.reduceLT, Nat.reduceLeDiff, Nat.reduceBNe, Int.reduceBEq, Int.reduceBNe, Int.reduceLT, Int.reduceLE, Opr.a, nul, List.length_map]
  refine run_loop (idxInv l x (idxS x l 0)) (k := l.length) ⟨0, by omega, rfl, rfl, rfl, rfl, rfl, rfl⟩ ?_
  rintro k σ ⟨j, hj, rfl, t0, t1, t7, t8, hr⟩
  simp only [r_idxOf_l7]
  by_cases hlt : j < l.length
  · have hlt' : (j : Int) < (l.length : Int) := by omega
    obtain ⟨y, hy⟩ : ∃ y, l[j]? = some y := ⟨_, List.getElem?_eq_getElem hlt⟩
    have hg : (l.map AV.str).getD j .und = .str y := by rw [List.getD_eq_getElem?_getD, List.getElem?_map, hy]; rfl
    have hw : IntKind.i64.wrap ((j : Int) + 1) = ((j + 1 : Nat) : Int) := by rw [IntWalk.i64_in _ (by omega)]; rfl
    have hd : l.drop j = y :: l.drop (j + 1) := by
      rw [List.drop_eq_getElem_cons hlt]
      have := List.getElem?_eq_getElem hlt
      rw [hy] at this; cases this; rfl
    rw [hd, idxS] at hr
    cases he : (x.toList == y.toList) with
    | true =>
      rw [he, if_pos rfl] at hr
      have hr' := hr.symm
      simp (maxSteps := 4000000) only [go_sem, ↓reduceIte, reduceCtorEq, Nat.reduceEqDiff, Nat.reduceBEq, Nat.reduceAdd, Nat.reduceSub, Nat.reduceMul, Nat.reduceLT, Nat.reduceLeDiff, Nat.reduceBNe, Int.reduceBEq, Int.reduceBNe, Int.reduceLT, Int.reduceLE, Opr.a, nul, t0, t1, t7, t8, hlt', hg, he, hr', List.length_map, Int.toNat_natCast]
      omega
    | false =>
      rw [he, if_neg (by simp)] at hr
      simp (maxSteps := 4000000) only [go_sem, ↓reduceIte, reduceCtorEq, Nat.reduceEqDiff, Nat.reduceBEq, Nat.reduceAdd, Nat.reduceSub, Nat.reduceMul, Nat.reduceLT, Nat.reduceLeDiff, Nat.reduceBNe, Int.reduceBEq, Int.reduceBNe, Int.reduceLT, Int.reduceLE, Opr.a, nul, t0, t1, t7, t8, hlt', hg, he, hw, List.length_map, Int.toNat_natCast]
      (repeat refine And.intro (by omega) ?_)
      refine ⟨l.length - (j + 1), by omega, j + 1, by omega, rfl, ?_, ?_, ?_, ?_, hr⟩ <;> (simp (maxSteps := 4000000) only [go_sem, ↓reduceIte, reduceCtorEq, Nat.reduceEqDiff, Nat.reduceBEq, Nat.reduceAdd, Nat.reduceSub, Nat.reduceMul, Nat.reduceLT, Nat.reduceLeDiff, Nat.reduceBNe, Int.reduceBEq, Int.reduceBNe, Int.reduceLT, Int.reduceLE, Opr.a, nul, t0, t1, t7, t8, hw])
  · have hlt' : ¬ (j : Int) < (l.length : Int) := by omega
    have : j = l.length := by omega
    subst this
    rw [List.drop_length, idxS] at hr
    simp (maxSteps := 4000000) only [go_sem, ↓reduceIte, reduceCtorEq, Nat.reduceEqDiff, Nat.reduceBEq, Nat.reduceAdd, Nat.reduceSub, Nat.reduceMul, Nat.reduceLT, Nat.reduceLeDiff, Nat.reduceBNe, Int.reduceBEq, Int.reduceBNe, Int.reduceLT, Int.reduceLE, Opr.a, nul, t7, t8, hlt', hr]
theorem quoteL_ge : ∀ l : List UInt8, l.length ≤ (quoteL l).length
  | [] => Nat.zero_le _
  | c :: l => by
    have := quoteL_ge l
    rw [quoteL, List.length_append, List.length_cons]
    split
    · simp; omega
    · simp; omega
theorem uq1_size (s : ByteArray) : (uq1 s).size ≤ s.size := by
  have hL : s.data.toList.length = s.size := by rw [Array.length_toList]; rfl
  unfold uq1 uqF
  by_cases h0 : (s.toList == (ByteArray.mk #[45]).toList) = true
  · rw [if_pos h0]; exact Nat.zero_le _
  · rw [if_neg h0]
    have h := uqGo_top s.data.toList
    rw [hL] at h
    rw [h]
    cases hq : uqL s.data.toList with
    | none => exact Nat.zero_le _
    | some out =>
      have h1 := quote_uq _ _ hq
      have h2 := quoteL_ge out
      rw [h1, hL] at h2
      exact h2
theorem wordsP_size (s : ByteArray) : ∀ j, ((wordsP s).getD j nul).size ≤ s.size := by
  intro j
  have hL : s.data.toList.length = s.size := by rw [Array.length_toList]; rfl
  have h : ∀ x, x ∈ wordsP s → x.size ≤ s.size := by
    intro x hx
    unfold wordsP at hx
    rcases List.mem_append.1 hx with h | h
    · obtain ⟨y, hy, rfl⟩ := List.mem_map.1 h
      have := wl_small _ y hy
      rw [hL] at this
      exact this
    · simp at h; subst h; exact Nat.zero_le _
  rw [List.getD_eq_getElem?_getD]
  cases hj : (wordsP s)[j]? with
  | none => exact Nat.zero_le _
  | some x => exact h x (List.mem_of_getElem? hj)
theorem oLineX (o : Opr) (h : o.key.size ≤ 9000000000) : AFn Tryd.prog 66 [o.a] (.str (lineX o)) := by
  unfold lineX
  cases hr : o.right with
  | true => exact oLine_ok o hr
  | false => exact oLine_no o h hr
set_option maxHeartbeats 4000000 in
theorem oParse_ok (s : ByteArray) (hs : s.size ≤ 300000) : AFn Tryd.prog 70 [.str s] (.tup [(parseF s).1.a, .bool (parseF s).2]) := by
  refine fn_oParse rfl ?_
  have hL : s.data.toList.length = s.size := by rw [Array.length_toList]; rfl
  have hwl := wl_len s.data.toList
  have hsp : (splitL s ⟨#[32]⟩).length ≤ maxLen := by
    have := congrArg List.length (splitL_wl s)
    rw [List.length_map] at this
    rw [this]; unfold ws; rw [List.length_map]
    exact Nat.le_trans (by omega : _ ≤ 300001) (by decide)
  have hW := words_ok s (by omega) hsp
  rw [splitL_wl s] at hW
  have hwne : 1 ≤ (wl s.data.toList).length := List.length_pos_iff.2 (wl_ne _)
  have hwsl : (ws (wl s.data.toList)).length = (wl s.data.toList).length := by unfold ws; rw [List.length_map]
  have hA : ws (wl s.data.toList) ++ [AV.str ⟨#[]⟩, .str ⟨#[]⟩, .str ⟨#[]⟩] = (wordsP s).map AV.str := by
    unfold wordsP ws
    rw [List.map_append, List.map_map]; rfl
  have hZ : (ws (wl s.data.toList)).length + 3 = (wordsP s).length := by
    have := congrArg List.length hA
    rw [List.length_append, List.length_map] at this
    exact this
  have hsz := wordsP_size s
  simp (maxSteps := 4000000) only [go_sem, ↓reduceIte, reduceCtorEq, Nat.reduceEqDiff, Nat.reduceBEq, Nat.reduceAdd, Nat.reduceSub, Nat.reduceMul, Nat.reduceLT, Nat.reduceLeDiff, Nat.reduceBNe, Int.reduceBEq, Int.reduceBNe, Int.reduceLT, Int.reduceLE, Opr.a, nul]
  (first | refine calling hW ?_ | refine callingH hW ?_)
  simp (maxSteps := 4000000) only [go_sem, ↓reduceIte, reduceCtorEq, Nat.reduceEqDiff, Nat.reduceBEq, Nat.reduceAdd, Nat.reduceSub, Nat.reduceMul, Nat.reduceLT, Nat.reduceLeDiff, Nat.reduceBNe, Int.reduceBEq, Int.reduceBNe, Int.reduceLT, Int.reduceLE, Opr.a, nul]
  refine ⟨⟨⟨by omega, by omega⟩, fun d hd => by rcases hd with rfl | rfl | rfl | h <;> first | exact ⟨rfl, rfl⟩ | exact h.elim⟩, ?_⟩
  simp only [List.take_length, hA, hZ]
  have hq4 : 4 ≤ (wordsP s).length := by omega
  have hF : parseF s = if (parseO (wordsP s)).right && ((lineX (parseO (wordsP s))).toList == s.toList) then (parseO (wordsP s), true) else (Opr.zero, false) := rfl
  rw [hF]
  have hO : ∀ a0 a1 a2 a3, (wordsP s).getD 0 nul = a0 → (wordsP s).getD 1 nul = a1 → (wordsP s).getD 2 nul = a2 → (wordsP s).getD 3 nul = a3 → parseO (wordsP s) = parseO [a0, a1, a2, a3] := by
    rintro _ _ _ _ rfl rfl rfl rfl; rfl
  have hget : ∀ j, j < (wordsP s).length → ((wordsP s).map AV.str).getD j .und = .str ((wordsP s).getD j nul) := by
    intro j hj
    rw [List.getD_eq_getElem?_getD, List.getElem?_map, List.getD_eq_getElem?_getD, List.getElem?_eq_getElem hj]; rfl
  have g0 := hget 0 (by omega)
  have g1 := hget 1 (by omega)
  have g2 := hget 2 (by omega)
  have g3 := hget 3 (by omega)
  have s0 := hsz 0
  have s1 := hsz 1
  have s2 := hsz 2
  have s3 := hsz 3
  obtain ⟨a0, ea0⟩ : ∃ a, (wordsP s).getD 0 nul = a := ⟨_, rfl⟩
  obtain ⟨a1, ea1⟩ : ∃ a, (wordsP s).getD 1 nul = a := ⟨_, rfl⟩
  obtain ⟨a2, ea2⟩ : ∃ a, (wordsP s).getD 2 nul = a := ⟨_, rfl⟩
  obtain ⟨a3, ea3⟩ : ∃ a, (wordsP s).getD 3 nul = a := ⟨_, rfl⟩
  rw [hO a0 a1 a2 a3 ea0 ea1 ea2 ea3]
  rw [ea0] at g0 s0
  rw [ea1] at g1 s1
  rw [ea2] at g2 s2
  rw [ea3] at g3 s3
  have n0 : (0 : Int) < ((wordsP s).length : Int) := by omega
  have n1 : (1 : Int) < ((wordsP s).length : Int) := by omega
  have n2 : (2 : Int) < ((wordsP s).length : Int) := by omega
  have n3 : (3 : Int) < ((wordsP s).length : Int) := by omega
  have m0 : 0 < (wordsP s).length := by omega
  have m1 : 1 < (wordsP s).length := by omega
  have m2 : 2 < (wordsP s).length := by omega
  have m3 : 3 < (wordsP s).length := by omega
  clear hO hget hF ea0 ea1 ea2 ea3 hsz hq4 hZ hA hwsl hwne hW hsp hwl
  generalize wordsP s = W at *
  have z0 : Int.toNat 0 = 0 := rfl
  have z1 : Int.toNat 1 = 1 := rfl
  have z2 : Int.toNat 2 = 2 := rfl
  have z3 : Int.toNat 3 = 3 := rfl
  (first | refine calling oNames_ok ?_ | refine callingH oNames_ok ?_)
  simp (maxSteps := 4000000) only [go_sem, ↓reduceIte, reduceCtorEq, Nat.reduceEqDiff, Nat.reduceBEq, Nat.reduceAdd, Nat.reduceSub, Nat.reduceMul, Nat.reduceLT, Nat.reduceLeDiff, Nat.reduceBNe, Int.reduceBEq, Int.reduceBNe, Int.reduceLT, Int.reduceLE, Opr.a, nul, z0, g0, n0, m0, List.length_map]
  (first | refine calling (idxOf_ok namesL a0 (by decide)) ?_ | refine callingH (idxOf_ok namesL a0 (by decide)) ?_)
  have ep : parseO [a0, a1, a2, a3] = (if idxS a0 namesL 0 == 1 || idxS a0 namesL 0 == 2 then ⟨idxS a0 namesL 0, uq1 a1, nul, false, uq1 a2, if idxS a0 namesL 0 == 6 then ud1 a3 else 0⟩ else if idxS a0 namesL 0 == 4 || idxS a0 namesL 0 == 6 then (if a2.toList == (ByteArray.mk #[42]).toList then ⟨idxS a0 namesL 0, uq1 a1, nul, true, nul, if idxS a0 namesL 0 == 6 then ud1 a3 else 0⟩ else ⟨idxS a0 namesL 0, uq1 a1, uq1 a2, false, nul, if idxS a0 namesL 0 == 6 then ud1 a3 else 0⟩) else ⟨idxS a0 namesL 0, uq1 a1, nul, false, nul, if idxS a0 namesL 0 == 6 then ud1 a3 else 0⟩ : Opr) := rfl
  rw [ep]
  clear ep
  generalize idxS a0 namesL 0 = k
  have hU1 := unq_ok a1 (by omega)
  rw [uqF_shape] at hU1
  have hU2 := unq_ok a2 (by omega)
  rw [uqF_shape] at hU2
  have hD3 := undec_ok a3 (by omega)
  rw [udF_shape] at hD3
  have q1 := uq1_size a1
  have hV : ∀ hi op val lim, AFn Tryd.prog 107 [.agg [.int .i64 k, .str (uq1 a1), .str hi, .bool op, .str val, .int .i64 lim]] (.bool (k == 1 || k == 2)) := fun hi op val lim => valued_ok ⟨k, uq1 a1, hi, op, val, lim⟩
  have hG : ∀ hi op val lim, AFn Tryd.prog 108 [.agg [.int .i64 k, .str (uq1 a1), .str hi, .bool op, .str val, .int .i64 lim]] (.bool (k == 4 || k == 6)) := fun hi op val lim => ranged_ok ⟨k, uq1 a1, hi, op, val, lim⟩
  have hR : ∀ hi op val lim, AFn Tryd.prog 105 [.agg [.int .i64 k, .str (uq1 a1), .str hi, .bool op, .str val, .int .i64 lim]] (.int .i64 (if Opr.right ⟨k, uq1 a1, hi, op, val, lim⟩ then 0 else 3)) := fun hi op val lim => oRight_ok ⟨k, uq1 a1, hi, op, val, lim⟩ (by show (uq1 a1).size ≤ _; omega)
  have hX : ∀ hi op val lim, AFn Tryd.prog 66 [.agg [.int .i64 k, .str (uq1 a1), .str hi, .bool op, .str val, .int .i64 lim]] (.str (lineX ⟨k, uq1 a1, hi, op, val, lim⟩)) := fun hi op val lim => oLineX ⟨k, uq1 a1, hi, op, val, lim⟩ (by show (uq1 a1).size ≤ _; omega)
  cases hv : (k == 1 || k == 2) with
  | true =>
    have h6 : (k == 6) = false := by rw [beq_eq_false_iff_ne]; have : k = 1 ∨ k = 2 := by simpa using hv
                                     omega
    have hR1 := hR (⟨#[]⟩ : ByteArray) false (uq1 a2) 0
    have hX1 := hX (⟨#[]⟩ : ByteArray) false (uq1 a2) 0
    cases hr : Opr.right (⟨k, uq1 a1, ⟨#[]⟩, false, (uq1 a2), 0⟩ : Opr) with
    | false =>
      rw [hr] at hR1
      (repeat (first | simp (maxSteps := 4000000) only [go_sem, ↓reduceIte, reduceCtorEq, Nat.reduceEqDiff, Nat.reduceBEq, Nat.reduceAdd, Nat.reduceSub, Nat.reduceMul, Nat.reduceLT, Nat.reduceLeDiff, Nat.reduceBNe, Int.reduceBEq, Int.reduceBNe, Int.reduceLT, Int.reduceLE, Opr.a, nul, z0, z1, z2, z3, g0, g1, g2, g3, n0, n1, n2, n3, m0, m1, m2, m3, List.length_map, hr, Opr.zero, Bool.false_and, Bool.true_and, hv, h6] | refine calling (hU1) ?_ | refine callingH (hU1) ?_ | refine calling (hU2) ?_ | refine callingH (hU2) ?_ | refine calling (hD3) ?_ | refine callingH (hD3) ?_ | refine calling (hV _ _ _ _) ?_ | refine callingH (hV _ _ _ _) ?_ | refine calling (hG _ _ _ _) ?_ | refine callingH (hG _ _ _ _) ?_ | refine calling (hR1) ?_ | refine callingH (hR1) ?_ | refine And.intro (by omega) ?_ | refine And.intro (fun d hd => by (repeat (rcases hd with rfl | hd; · exact ⟨rfl, rfl⟩)); cases hd) ?_))
    | true =>
      rw [hr] at hR1
      cases he : ((lineX (⟨k, uq1 a1, ⟨#[]⟩, false, (uq1 a2), 0⟩ : Opr)).toList == s.toList) with
      | false =>
        have he' : ((lineX (⟨k, uq1 a1, ⟨#[]⟩, false, (uq1 a2), 0⟩ : Opr)).toList != s.toList) = true := by simp [bne, he]
        (repeat (first | simp (maxSteps := 4000000) only [go_sem, ↓reduceIte, reduceCtorEq, Nat.reduceEqDiff, Nat.reduceBEq, Nat.reduceAdd, Nat.reduceSub, Nat.reduceMul, Nat.reduceLT, Nat.reduceLeDiff, Nat.reduceBNe, Int.reduceBEq, Int.reduceBNe, Int.reduceLT, Int.reduceLE, Opr.a, nul, z0, z1, z2, z3, g0, g1, g2, g3, n0, n1, n2, n3, m0, m1, m2, m3, List.length_map, hr, he, he', Opr.zero, Bool.false_and, Bool.true_and, hv, h6] | refine calling (hU1) ?_ | refine callingH (hU1) ?_ | refine calling (hU2) ?_ | refine callingH (hU2) ?_ | refine calling (hD3) ?_ | refine callingH (hD3) ?_ | refine calling (hV _ _ _ _) ?_ | refine callingH (hV _ _ _ _) ?_ | refine calling (hG _ _ _ _) ?_ | refine callingH (hG _ _ _ _) ?_ | refine calling (hR1) ?_ | refine callingH (hR1) ?_ | refine calling (hX1) ?_ | refine callingH (hX1) ?_ | refine And.intro (by omega) ?_ | refine And.intro (fun d hd => by (repeat (rcases hd with rfl | hd; · exact ⟨rfl, rfl⟩)); cases hd) ?_))
      | true =>
        have he' : ((lineX (⟨k, uq1 a1, ⟨#[]⟩, false, (uq1 a2), 0⟩ : Opr)).toList != s.toList) = false := by simp [bne, he]
        (repeat (first | simp (maxSteps := 4000000) only [go_sem, ↓reduceIte, reduceCtorEq, Nat.reduceEqDiff, Nat.reduceBEq, Nat.reduceAdd, Nat.reduceSub, Nat.reduceMul, Nat.reduceLT, Nat.reduceLeDiff, Nat.reduceBNe, Int.reduceBEq, Int.reduceBNe, Int.reduceLT, Int.reduceLE, Opr.a, nul, z0, z1, z2, z3, g0, g1, g2, g3, n0, n1, n2, n3, m0, m1, m2, m3, List.length_map, hr, he, he', Opr.zero, Bool.false_and, Bool.true_and, hv, h6] | refine calling (hU1) ?_ | refine callingH (hU1) ?_ | refine calling (hU2) ?_ | refine callingH (hU2) ?_ | refine calling (hD3) ?_ | refine callingH (hD3) ?_ | refine calling (hV _ _ _ _) ?_ | refine callingH (hV _ _ _ _) ?_ | refine calling (hG _ _ _ _) ?_ | refine callingH (hG _ _ _ _) ?_ | refine calling (hR1) ?_ | refine callingH (hR1) ?_ | refine calling (hX1) ?_ | refine callingH (hX1) ?_ | refine And.intro (by omega) ?_ | refine And.intro (fun d hd => by (repeat (rcases hd with rfl | hd; · exact ⟨rfl, rfl⟩)); cases hd) ?_))
  | false =>
    cases hg : (k == 4 || k == 6) with
    | false =>
      have h6 : (k == 6) = false := by cases h : (k == 6) <;> simp_all
      have h4 : (k == 4) = false := by cases h : (k == 4) <;> simp_all
      have hR1 := hR (⟨#[]⟩ : ByteArray) false (⟨#[]⟩ : ByteArray) 0
      have hX1 := hX (⟨#[]⟩ : ByteArray) false (⟨#[]⟩ : ByteArray) 0
      cases hr : Opr.right (⟨k, uq1 a1, ⟨#[]⟩, false, ⟨#[]⟩, 0⟩ : Opr) with
      | false =>
        rw [hr] at hR1
        (repeat (first | simp (maxSteps := 4000000) only [go_sem, ↓reduceIte, reduceCtorEq, Nat.reduceEqDiff, Nat.reduceBEq, Nat.reduceAdd, Nat.reduceSub, Nat.reduceMul, Nat.reduceLT, Nat.reduceLeDiff, Nat.reduceBNe, Int.reduceBEq, Int.reduceBNe, Int.reduceLT, Int.reduceLE, Opr.a, nul, z0, z1, z2, z3, g0, g1, g2, g3, n0, n1, n2, n3, m0, m1, m2, m3, List.length_map, hr, Opr.zero, Bool.false_and, Bool.true_and, hv, hg, h6, h4] | refine calling (hU1) ?_ | refine callingH (hU1) ?_ | refine calling (hU2) ?_ | refine callingH (hU2) ?_ | refine calling (hD3) ?_ | refine callingH (hD3) ?_ | refine calling (hV _ _ _ _) ?_ | refine callingH (hV _ _ _ _) ?_ | refine calling (hG _ _ _ _) ?_ | refine callingH (hG _ _ _ _) ?_ | refine calling (hR1) ?_ | refine callingH (hR1) ?_ | refine And.intro (by omega) ?_ | refine And.intro (fun d hd => by (repeat (rcases hd with rfl | hd; · exact ⟨rfl, rfl⟩)); cases hd) ?_))
      | true =>
        rw [hr] at hR1
        cases he : ((lineX (⟨k, uq1 a1, ⟨#[]⟩, false, ⟨#[]⟩, 0⟩ : Opr)).toList == s.toList) with
        | false =>
          have he' : ((lineX (⟨k, uq1 a1, ⟨#[]⟩, false, ⟨#[]⟩, 0⟩ : Opr)).toList != s.toList) = true := by simp [bne, he]
          (repeat (first | simp (maxSteps := 4000000) only [go_sem, ↓reduceIte, reduceCtorEq, Nat.reduceEqDiff, Nat.reduceBEq, Nat.reduceAdd, Nat.reduceSub, Nat.reduceMul, Nat.reduceLT, Nat.reduceLeDiff, Nat.reduceBNe, Int.reduceBEq, Int.reduceBNe, Int.reduceLT, Int.reduceLE, Opr.a, nul, z0, z1, z2, z3, g0, g1, g2, g3, n0, n1, n2, n3, m0, m1, m2, m3, List.length_map, hr, he, he', Opr.zero, Bool.false_and, Bool.true_and, hv, hg, h6, h4] | refine calling (hU1) ?_ | refine callingH (hU1) ?_ | refine calling (hU2) ?_ | refine callingH (hU2) ?_ | refine calling (hD3) ?_ | refine callingH (hD3) ?_ | refine calling (hV _ _ _ _) ?_ | refine callingH (hV _ _ _ _) ?_ | refine calling (hG _ _ _ _) ?_ | refine callingH (hG _ _ _ _) ?_ | refine calling (hR1) ?_ | refine callingH (hR1) ?_ | refine calling (hX1) ?_ | refine callingH (hX1) ?_ | refine And.intro (by omega) ?_ | refine And.intro (fun d hd => by (repeat (rcases hd with rfl | hd; · exact ⟨rfl, rfl⟩)); cases hd) ?_))
        | true =>
          have he' : ((lineX (⟨k, uq1 a1, ⟨#[]⟩, false, ⟨#[]⟩, 0⟩ : Opr)).toList != s.toList) = false := by simp [bne, he]
          (repeat (first | simp (maxSteps := 4000000) only [go_sem, ↓reduceIte, reduceCtorEq, Nat.reduceEqDiff, Nat.reduceBEq, Nat.reduceAdd, Nat.reduceSub, Nat.reduceMul, Nat.reduceLT, Nat.reduceLeDiff, Nat.reduceBNe, Int.reduceBEq, Int.reduceBNe, Int.reduceLT, Int.reduceLE, Opr.a, nul, z0, z1, z2, z3, g0, g1, g2, g3, n0, n1, n2, n3, m0, m1, m2, m3, List.length_map, hr, he, he', Opr.zero, Bool.false_and, Bool.true_and, hv, hg, h6, h4] | refine calling (hU1) ?_ | refine callingH (hU1) ?_ | refine calling (hU2) ?_ | refine callingH (hU2) ?_ | refine calling (hD3) ?_ | refine callingH (hD3) ?_ | refine calling (hV _ _ _ _) ?_ | refine callingH (hV _ _ _ _) ?_ | refine calling (hG _ _ _ _) ?_ | refine callingH (hG _ _ _ _) ?_ | refine calling (hR1) ?_ | refine callingH (hR1) ?_ | refine calling (hX1) ?_ | refine callingH (hX1) ?_ | refine And.intro (by omega) ?_ | refine And.intro (fun d hd => by (repeat (rcases hd with rfl | hd; · exact ⟨rfl, rfl⟩)); cases hd) ?_))
    | true =>
      cases hs2 : (a2.toList == (ByteArray.mk #[42]).toList) with
      | true =>
        cases h6 : (k == 6) with
        | false =>
          have h4 : (k == 4) = true := by cases h : (k == 4) <;> simp_all
          have hR1 := hR (⟨#[]⟩ : ByteArray) true (⟨#[]⟩ : ByteArray) 0
          have hX1 := hX (⟨#[]⟩ : ByteArray) true (⟨#[]⟩ : ByteArray) 0
          cases hr : Opr.right (⟨k, uq1 a1, ⟨#[]⟩, true, ⟨#[]⟩, 0⟩ : Opr) with
          | false =>
            rw [hr] at hR1
            (repeat (first | simp (maxSteps := 4000000) only [go_sem, ↓reduceIte, reduceCtorEq, Nat.reduceEqDiff, Nat.reduceBEq, Nat.reduceAdd, Nat.reduceSub, Nat.reduceMul, Nat.reduceLT, Nat.reduceLeDiff, Nat.reduceBNe, Int.reduceBEq, Int.reduceBNe, Int.reduceLT, Int.reduceLE, Opr.a, nul, z0, z1, z2, z3, g0, g1, g2, g3, n0, n1, n2, n3, m0, m1, m2, m3, List.length_map, hr, Opr.zero, Bool.false_and, Bool.true_and, hv, hg, h6, h4, hs2] | refine calling (hU1) ?_ | refine callingH (hU1) ?_ | refine calling (hU2) ?_ | refine callingH (hU2) ?_ | refine calling (hD3) ?_ | refine callingH (hD3) ?_ | refine calling (hV _ _ _ _) ?_ | refine callingH (hV _ _ _ _) ?_ | refine calling (hG _ _ _ _) ?_ | refine callingH (hG _ _ _ _) ?_ | refine calling (hR1) ?_ | refine callingH (hR1) ?_ | refine And.intro (by omega) ?_ | refine And.intro (fun d hd => by (repeat (rcases hd with rfl | hd; · exact ⟨rfl, rfl⟩)); cases hd) ?_))
          | true =>
            rw [hr] at hR1
            cases he : ((lineX (⟨k, uq1 a1, ⟨#[]⟩, true, ⟨#[]⟩, 0⟩ : Opr)).toList == s.toList) with
            | false =>
              have he' : ((lineX (⟨k, uq1 a1, ⟨#[]⟩, true, ⟨#[]⟩, 0⟩ : Opr)).toList != s.toList) = true := by simp [bne, he]
              (repeat (first | simp (maxSteps := 4000000) only [go_sem, ↓reduceIte, reduceCtorEq, Nat.reduceEqDiff, Nat.reduceBEq, Nat.reduceAdd, Nat.reduceSub, Nat.reduceMul, Nat.reduceLT, Nat.reduceLeDiff, Nat.reduceBNe, Int.reduceBEq, Int.reduceBNe, Int.reduceLT, Int.reduceLE, Opr.a, nul, z0, z1, z2, z3, g0, g1, g2, g3, n0, n1, n2, n3, m0, m1, m2, m3, List.length_map, hr, he, he', Opr.zero, Bool.false_and, Bool.true_and, hv, hg, h6, h4, hs2] | refine calling (hU1) ?_ | refine callingH (hU1) ?_ | refine calling (hU2) ?_ | refine callingH (hU2) ?_ | refine calling (hD3) ?_ | refine callingH (hD3) ?_ | refine calling (hV _ _ _ _) ?_ | refine callingH (hV _ _ _ _) ?_ | refine calling (hG _ _ _ _) ?_ | refine callingH (hG _ _ _ _) ?_ | refine calling (hR1) ?_ | refine callingH (hR1) ?_ | refine calling (hX1) ?_ | refine callingH (hX1) ?_ | refine And.intro (by omega) ?_ | refine And.intro (fun d hd => by (repeat (rcases hd with rfl | hd; · exact ⟨rfl, rfl⟩)); cases hd) ?_))
            | true =>
              have he' : ((lineX (⟨k, uq1 a1, ⟨#[]⟩, true, ⟨#[]⟩, 0⟩ : Opr)).toList != s.toList) = false := by simp [bne, he]
              (repeat (first | simp (maxSteps := 4000000) only [go_sem, ↓reduceIte, reduceCtorEq, Nat.reduceEqDiff, Nat.reduceBEq, Nat.reduceAdd, Nat.reduceSub, Nat.reduceMul, Nat.reduceLT, Nat.reduceLeDiff, Nat.reduceBNe, Int.reduceBEq, Int.reduceBNe, Int.reduceLT, Int.reduceLE, Opr.a, nul, z0, z1, z2, z3, g0, g1, g2, g3, n0, n1, n2, n3, m0, m1, m2, m3, List.length_map, hr, he, he', Opr.zero, Bool.false_and, Bool.true_and, hv, hg, h6, h4, hs2] | refine calling (hU1) ?_ | refine callingH (hU1) ?_ | refine calling (hU2) ?_ | refine callingH (hU2) ?_ | refine calling (hD3) ?_ | refine callingH (hD3) ?_ | refine calling (hV _ _ _ _) ?_ | refine callingH (hV _ _ _ _) ?_ | refine calling (hG _ _ _ _) ?_ | refine callingH (hG _ _ _ _) ?_ | refine calling (hR1) ?_ | refine callingH (hR1) ?_ | refine calling (hX1) ?_ | refine callingH (hX1) ?_ | refine And.intro (by omega) ?_ | refine And.intro (fun d hd => by (repeat (rcases hd with rfl | hd; · exact ⟨rfl, rfl⟩)); cases hd) ?_))
        | true =>
          have h4 : (k == 4) = false := by rw [beq_eq_false_iff_ne]; have : k = 6 := by simpa using h6
                                           omega
          have hR1 := hR (⟨#[]⟩ : ByteArray) true (⟨#[]⟩ : ByteArray) (ud1 a3)
          have hX1 := hX (⟨#[]⟩ : ByteArray) true (⟨#[]⟩ : ByteArray) (ud1 a3)
          cases hr : Opr.right (⟨k, uq1 a1, ⟨#[]⟩, true, ⟨#[]⟩, (ud1 a3)⟩ : Opr) with
          | false =>
            rw [hr] at hR1
            (repeat (first | simp (maxSteps := 4000000) only [go_sem, ↓reduceIte, reduceCtorEq, Nat.reduceEqDiff, Nat.reduceBEq, Nat.reduceAdd, Nat.reduceSub, Nat.reduceMul, Nat.reduceLT, Nat.reduceLeDiff, Nat.reduceBNe, Int.reduceBEq, Int.reduceBNe, Int.reduceLT, Int.reduceLE, Opr.a, nul, z0, z1, z2, z3, g0, g1, g2, g3, n0, n1, n2, n3, m0, m1, m2, m3, List.length_map, hr, Opr.zero, Bool.false_and, Bool.true_and, hv, hg, h6, h4, hs2] | refine calling (hU1) ?_ | refine callingH (hU1) ?_ | refine calling (hU2) ?_ | refine callingH (hU2) ?_ | refine calling (hD3) ?_ | refine callingH (hD3) ?_ | refine calling (hV _ _ _ _) ?_ | refine callingH (hV _ _ _ _) ?_ | refine calling (hG _ _ _ _) ?_ | refine callingH (hG _ _ _ _) ?_ | refine calling (hR1) ?_ | refine callingH (hR1) ?_ | refine And.intro (by omega) ?_ | refine And.intro (fun d hd => by (repeat (rcases hd with rfl | hd; · exact ⟨rfl, rfl⟩)); cases hd) ?_))
          | true =>
            rw [hr] at hR1
            cases he : ((lineX (⟨k, uq1 a1, ⟨#[]⟩, true, ⟨#[]⟩, (ud1 a3)⟩ : Opr)).toList == s.toList) with
            | false =>
              have he' : ((lineX (⟨k, uq1 a1, ⟨#[]⟩, true, ⟨#[]⟩, (ud1 a3)⟩ : Opr)).toList != s.toList) = true := by simp [bne, he]
              (repeat (first | simp (maxSteps := 4000000) only [go_sem, ↓reduceIte, reduceCtorEq, Nat.reduceEqDiff, Nat.reduceBEq, Nat.reduceAdd, Nat.reduceSub, Nat.reduceMul, Nat.reduceLT, Nat.reduceLeDiff, Nat.reduceBNe, Int.reduceBEq, Int.reduceBNe, Int.reduceLT, Int.reduceLE, Opr.a, nul, z0, z1, z2, z3, g0, g1, g2, g3, n0, n1, n2, n3, m0, m1, m2, m3, List.length_map, hr, he, he', Opr.zero, Bool.false_and, Bool.true_and, hv, hg, h6, h4, hs2] | refine calling (hU1) ?_ | refine callingH (hU1) ?_ | refine calling (hU2) ?_ | refine callingH (hU2) ?_ | refine calling (hD3) ?_ | refine callingH (hD3) ?_ | refine calling (hV _ _ _ _) ?_ | refine callingH (hV _ _ _ _) ?_ | refine calling (hG _ _ _ _) ?_ | refine callingH (hG _ _ _ _) ?_ | refine calling (hR1) ?_ | refine callingH (hR1) ?_ | refine calling (hX1) ?_ | refine callingH (hX1) ?_ | refine And.intro (by omega) ?_ | refine And.intro (fun d hd => by (repeat (rcases hd with rfl | hd; · exact ⟨rfl, rfl⟩)); cases hd) ?_))
            | true =>
              have he' : ((lineX (⟨k, uq1 a1, ⟨#[]⟩, true, ⟨#[]⟩, (ud1 a3)⟩ : Opr)).toList != s.toList) = false := by simp [bne, he]
              (repeat (first | simp (maxSteps := 4000000) only [go_sem, ↓reduceIte, reduceCtorEq, Nat.reduceEqDiff, Nat.reduceBEq, Nat.reduceAdd, Nat.reduceSub, Nat.reduceMul, Nat.reduceLT, Nat.reduceLeDiff, Nat.reduceBNe, Int.reduceBEq, Int.reduceBNe, Int.reduceLT, Int.reduceLE, Opr.a, nul, z0, z1, z2, z3, g0, g1, g2, g3, n0, n1, n2, n3, m0, m1, m2, m3, List.length_map, hr, he, he', Opr.zero, Bool.false_and, Bool.true_and, hv, hg, h6, h4, hs2] | refine calling (hU1) ?_ | refine callingH (hU1) ?_ | refine calling (hU2) ?_ | refine callingH (hU2) ?_ | refine calling (hD3) ?_ | refine callingH (hD3) ?_ | refine calling (hV _ _ _ _) ?_ | refine callingH (hV _ _ _ _) ?_ | refine calling (hG _ _ _ _) ?_ | refine callingH (hG _ _ _ _) ?_ | refine calling (hR1) ?_ | refine callingH (hR1) ?_ | refine calling (hX1) ?_ | refine callingH (hX1) ?_ | refine And.intro (by omega) ?_ | refine And.intro (fun d hd => by (repeat (rcases hd with rfl | hd; · exact ⟨rfl, rfl⟩)); cases hd) ?_))
      | false =>
        cases h6 : (k == 6) with
        | false =>
          have h4 : (k == 4) = true := by cases h : (k == 4) <;> simp_all
          have hR1 := hR (uq1 a2) false (⟨#[]⟩ : ByteArray) 0
          have hX1 := hX (uq1 a2) false (⟨#[]⟩ : ByteArray) 0
          cases hr : Opr.right (⟨k, uq1 a1, (uq1 a2), false, ⟨#[]⟩, 0⟩ : Opr) with
          | false =>
            rw [hr] at hR1
            (repeat (first | simp (maxSteps := 4000000) only [go_sem, ↓reduceIte, reduceCtorEq, Nat.reduceEqDiff, Nat.reduceBEq, Nat.reduceAdd, Nat.reduceSub, Nat.reduceMul, Nat.reduceLT, Nat.reduceLeDiff, Nat.reduceBNe, Int.reduceBEq, Int.reduceBNe, Int.reduceLT, Int.reduceLE, Opr.a, nul, z0, z1, z2, z3, g0, g1, g2, g3, n0, n1, n2, n3, m0, m1, m2, m3, List.length_map, hr, Opr.zero, Bool.false_and, Bool.true_and, hv, hg, h6, h4, hs2] | refine calling (hU1) ?_ | refine callingH (hU1) ?_ | refine calling (hU2) ?_ | refine callingH (hU2) ?_ | refine calling (hD3) ?_ | refine callingH (hD3) ?_ | refine calling (hV _ _ _ _) ?_ | refine callingH (hV _ _ _ _) ?_ | refine calling (hG _ _ _ _) ?_ | refine callingH (hG _ _ _ _) ?_ | refine calling (hR1) ?_ | refine callingH (hR1) ?_ | refine And.intro (by omega) ?_ | refine And.intro (fun d hd => by (repeat (rcases hd with rfl | hd; · exact ⟨rfl, rfl⟩)); cases hd) ?_))
          | true =>
            rw [hr] at hR1
            cases he : ((lineX (⟨k, uq1 a1, (uq1 a2), false, ⟨#[]⟩, 0⟩ : Opr)).toList == s.toList) with
            | false =>
              have he' : ((lineX (⟨k, uq1 a1, (uq1 a2), false, ⟨#[]⟩, 0⟩ : Opr)).toList != s.toList) = true := by simp [bne, he]
              (repeat (first | simp (maxSteps := 4000000) only [go_sem, ↓reduceIte, reduceCtorEq, Nat.reduceEqDiff, Nat.reduceBEq, Nat.reduceAdd, Nat.reduceSub, Nat.reduceMul, Nat.reduceLT, Nat.reduceLeDiff, Nat.reduceBNe, Int.reduceBEq, Int.reduceBNe, Int.reduceLT, Int.reduceLE, Opr.a, nul, z0, z1, z2, z3, g0, g1, g2, g3, n0, n1, n2, n3, m0, m1, m2, m3, List.length_map, hr, he, he', Opr.zero, Bool.false_and, Bool.true_and, hv, hg, h6, h4, hs2] | refine calling (hU1) ?_ | refine callingH (hU1) ?_ | refine calling (hU2) ?_ | refine callingH (hU2) ?_ | refine calling (hD3) ?_ | refine callingH (hD3) ?_ | refine calling (hV _ _ _ _) ?_ | refine callingH (hV _ _ _ _) ?_ | refine calling (hG _ _ _ _) ?_ | refine callingH (hG _ _ _ _) ?_ | refine calling (hR1) ?_ | refine callingH (hR1) ?_ | refine calling (hX1) ?_ | refine callingH (hX1) ?_ | refine And.intro (by omega) ?_ | refine And.intro (fun d hd => by (repeat (rcases hd with rfl | hd; · exact ⟨rfl, rfl⟩)); cases hd) ?_))
            | true =>
              have he' : ((lineX (⟨k, uq1 a1, (uq1 a2), false, ⟨#[]⟩, 0⟩ : Opr)).toList != s.toList) = false := by simp [bne, he]
              (repeat (first | simp (maxSteps := 4000000) only [go_sem, ↓reduceIte, reduceCtorEq, Nat.reduceEqDiff, Nat.reduceBEq, Nat.reduceAdd, Nat.reduceSub, Nat.reduceMul, Nat.reduceLT, Nat.reduceLeDiff, Nat.reduceBNe, Int.reduceBEq, Int.reduceBNe, Int.reduceLT, Int.reduceLE, Opr.a, nul, z0, z1, z2, z3, g0, g1, g2, g3, n0, n1, n2, n3, m0, m1, m2, m3, List.length_map, hr, he, he', Opr.zero, Bool.false_and, Bool.true_and, hv, hg, h6, h4, hs2] | refine calling (hU1) ?_ | refine callingH (hU1) ?_ | refine calling (hU2) ?_ | refine callingH (hU2) ?_ | refine calling (hD3) ?_ | refine callingH (hD3) ?_ | refine calling (hV _ _ _ _) ?_ | refine callingH (hV _ _ _ _) ?_ | refine calling (hG _ _ _ _) ?_ | refine callingH (hG _ _ _ _) ?_ | refine calling (hR1) ?_ | refine callingH (hR1) ?_ | refine calling (hX1) ?_ | refine callingH (hX1) ?_ | refine And.intro (by omega) ?_ | refine And.intro (fun d hd => by (repeat (rcases hd with rfl | hd; · exact ⟨rfl, rfl⟩)); cases hd) ?_))
        | true =>
          have h4 : (k == 4) = false := by rw [beq_eq_false_iff_ne]; have : k = 6 := by simpa using h6
                                           omega
          have hR1 := hR (uq1 a2) false (⟨#[]⟩ : ByteArray) (ud1 a3)
          have hX1 := hX (uq1 a2) false (⟨#[]⟩ : ByteArray) (ud1 a3)
          cases hr : Opr.right (⟨k, uq1 a1, (uq1 a2), false, ⟨#[]⟩, (ud1 a3)⟩ : Opr) with
          | false =>
            rw [hr] at hR1
            (repeat (first | simp (maxSteps := 4000000) only [go_sem, ↓reduceIte, reduceCtorEq, Nat.reduceEqDiff, Nat.reduceBEq, Nat.reduceAdd, Nat.reduceSub, Nat.reduceMul, Nat.reduceLT, Nat.reduceLeDiff, Nat.reduceBNe, Int.reduceBEq, Int.reduceBNe, Int.reduceLT, Int.reduceLE, Opr.a, nul, z0, z1, z2, z3, g0, g1, g2, g3, n0, n1, n2, n3, m0, m1, m2, m3, List.length_map, hr, Opr.zero, Bool.false_and, Bool.true_and, hv, hg, h6, h4, hs2] | refine calling (hU1) ?_ | refine callingH (hU1) ?_ | refine calling (hU2) ?_ | refine callingH (hU2) ?_ | refine calling (hD3) ?_ | refine callingH (hD3) ?_ | refine calling (hV _ _ _ _) ?_ | refine callingH (hV _ _ _ _) ?_ | refine calling (hG _ _ _ _) ?_ | refine callingH (hG _ _ _ _) ?_ | refine calling (hR1) ?_ | refine callingH (hR1) ?_ | refine And.intro (by omega) ?_ | refine And.intro (fun d hd => by (repeat (rcases hd with rfl | hd; · exact ⟨rfl, rfl⟩)); cases hd) ?_))
          | true =>
            rw [hr] at hR1
            cases he : ((lineX (⟨k, uq1 a1, (uq1 a2), false, ⟨#[]⟩, (ud1 a3)⟩ : Opr)).toList == s.toList) with
            | false =>
              have he' : ((lineX (⟨k, uq1 a1, (uq1 a2), false, ⟨#[]⟩, (ud1 a3)⟩ : Opr)).toList != s.toList) = true := by simp [bne, he]
              (repeat (first | simp (maxSteps := 4000000) only [go_sem, ↓reduceIte, reduceCtorEq, Nat.reduceEqDiff, Nat.reduceBEq, Nat.reduceAdd, Nat.reduceSub, Nat.reduceMul, Nat.reduceLT, Nat.reduceLeDiff, Nat.reduceBNe, Int.reduceBEq, Int.reduceBNe, Int.reduceLT, Int.reduceLE, Opr.a, nul, z0, z1, z2, z3, g0, g1, g2, g3, n0, n1, n2, n3, m0, m1, m2, m3, List.length_map, hr, he, he', Opr.zero, Bool.false_and, Bool.true_and, hv, hg, h6, h4, hs2] | refine calling (hU1) ?_ | refine callingH (hU1) ?_ | refine calling (hU2) ?_ | refine callingH (hU2) ?_ | refine calling (hD3) ?_ | refine callingH (hD3) ?_ | refine calling (hV _ _ _ _) ?_ | refine callingH (hV _ _ _ _) ?_ | refine calling (hG _ _ _ _) ?_ | refine callingH (hG _ _ _ _) ?_ | refine calling (hR1) ?_ | refine callingH (hR1) ?_ | refine calling (hX1) ?_ | refine callingH (hX1) ?_ | refine And.intro (by omega) ?_ | refine And.intro (fun d hd => by (repeat (rcases hd with rfl | hd; · exact ⟨rfl, rfl⟩)); cases hd) ?_))
            | true =>
              have he' : ((lineX (⟨k, uq1 a1, (uq1 a2), false, ⟨#[]⟩, (ud1 a3)⟩ : Opr)).toList != s.toList) = false := by simp [bne, he]
              (repeat (first | simp (maxSteps := 4000000) only [go_sem, ↓reduceIte, reduceCtorEq, Nat.reduceEqDiff, Nat.reduceBEq, Nat.reduceAdd, Nat.reduceSub, Nat.reduceMul, Nat.reduceLT, Nat.reduceLeDiff, Nat.reduceBNe, Int.reduceBEq, Int.reduceBNe, Int.reduceLT, Int.reduceLE, Opr.a, nul, z0, z1, z2, z3, g0, g1, g2, g3, n0, n1, n2, n3, m0, m1, m2, m3, List.length_map, hr, he, he', Opr.zero, Bool.false_and, Bool.true_and, hv, hg, h6, h4, hs2] | refine calling (hU1) ?_ | refine callingH (hU1) ?_ | refine calling (hU2) ?_ | refine callingH (hU2) ?_ | refine calling (hD3) ?_ | refine callingH (hD3) ?_ | refine calling (hV _ _ _ _) ?_ | refine callingH (hV _ _ _ _) ?_ | refine calling (hG _ _ _ _) ?_ | refine callingH (hG _ _ _ _) ?_ | refine calling (hR1) ?_ | refine callingH (hR1) ?_ | refine calling (hX1) ?_ | refine callingH (hX1) ?_ | refine And.intro (by omega) ?_ | refine And.intro (fun d hd => by (repeat (rcases hd with rfl | hd; · exact ⟨rfl, rfl⟩)); cases hd) ?_))
end Go.Proofs.YtkdbphhekpdmhaaDoor
