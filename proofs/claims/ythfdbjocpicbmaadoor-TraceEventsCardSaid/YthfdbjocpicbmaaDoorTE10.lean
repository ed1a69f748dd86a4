/-
  Part 10 of a proof: PkT, TrI, EvA.
-/
import Derived.Test.YthfdbjocpicbmaaDoorTE9
namespace Go.Proofs.YthfdbjocpicbmaaDoor
attribute [local go_sem] ev0 ev1 ev2 ev3 ev4 evA stHOk.eq_1 stHOk.eq_2 stHSt.eq_1 stHSt.eq_2 okV valV fzV okF valF okBld valBld mxOk.eq_1 mxOk.eq_2 mxVal.eq_1 mxVal.eq_2 cellFit.eq_1 cellFit.eq_2 cellFit.eq_3 cellEq.eq_1 cellEq.eq_2 cellEq.eq_3 upd_at AV.flatB AV.flatBs binIok binIV binSok binSV cellsOk.eq_1 cellsOk.eq_2 cellsVal.eq_1 cellsVal.eq_2 objCells.eq_1 objCells.eq_2 objZ.eq_1 objZ.eq_2 objProt.eq_1 objProt.eq_2 oneObj ptrOk.eq_1 ptrOk.eq_2 ptrOk.eq_3 ptrCells.eq_1 ptrCells.eq_2 ptrCells.eq_3 lenOk.eq_1 lenOk.eq_2 lenOk.eq_3 lenOk.eq_4 lenVal.eq_1 lenVal.eq_2 lenVal.eq_3 lenVal.eq_4 faOk.eq_1 faOk.eq_2 faOk.eq_3 faVal.eq_1 faVal.eq_2 faVal.eq_3 iaOk.eq_1 iaOk.eq_2 iaOk.eq_3 iaVal.eq_1 iaVal.eq_2 iaVal.eq_3 slcLen.eq_1 slcLen.eq_2 slcLen.eq_3 slcLen.eq_4 bdOk.eq_1 bdOk.eq_2 bdVal.eq_1 bdVal.eq_2 slcOk.eq_1 slcOk.eq_2 slcOk.eq_3 slcOk.eq_4 slcVal.eq_1 slcVal.eq_2 slcVal.eq_3 slcVal.eq_4 slcFz.eq_1 slcFz.eq_2 byOk.eq_1 byOk.eq_2 byOk.eq_3 byOk.eq_4 byOk.eq_5 byOk.eq_6 byOk.eq_7 byOk.eq_8 byVal.eq_1 byVal.eq_2 byVal.eq_3 byFz.eq_1 byFz.eq_2 byFz.eq_3 byOks byVals byFzs allOne resSt.eq_1 resSt.eq_2 resName.eq_1 resName.eq_2 stOk.eq_1 stOk.eq_2 stArr.eq_1 stArr.eq_2 stSt.eq_1 stSt.eq_2 AV.patch nameOk_none gB.eq_1 gB.eq_2 gB.eq_3 gIs.eq_1 gIs.eq_2 gIs.eq_3 retV resV resVs evalV cellsV St.byval List.getD_cons_zero List.getD_cons_succ List.getD_nil List.map_cons List.map_nil List.length_cons List.length_nil List.take_succ_cons List.take_zero List.drop_succ_cons List.drop_zero List.headD_cons List.set_cons_zero List.append_nil List.nil_append List.cons_append List.contains_cons List.contains_nil List.elem_cons List.elem_nil List.all_cons List.all_nil List.getElem?_cons_zero List.getElem?_cons_succ List.filterMap_cons List.filterMap_nil Option.isSome_some Option.isSome_none Option.map_some Option.map_none Option.some.injEq AV.int.injEq AV.bool.injEq AV.str.injEq AV.tup.injEq AV.agg.injEq AV.sl.injEq List.cons.injEq Bool.false_eq_true Bool.true_eq_false Bool.not_true Bool.not_false Bool.and_true Bool.true_and Bool.or_false Bool.or_true Bool.false_or Bool.true_or Bool.or_self Bool.and_self Bool.not_eq_true' Bool.not_eq_false' Bool.not_not beq_self_eq_true true_and and_true false_and and_false and_self not_true_eq_false not_false_eq_true forall_const true_implies false_implies implies_true imp_self Nat.lt_add_one Nat.le_refl Nat.zero_le Nat.add_zero Nat.zero_add decide_true decide_false decide_eq_true_eq decide_eq_false_iff_not exists_eq_left exists_eq_left' ge_iff_le gt_iff_lt ite_branch ite_branch' nilOk.eq_1 nilOk.eq_2 nilMay.eq_1 nilMay.eq_2 AV.isSl.eq_1 objTy'.eq_1 objTy'.eq_2 apSt.eq_1 apArr.eq_1 apArr.eq_2 slOf.eq_1 fitsV List.mem_cons List.not_mem_nil Bool.false_and Bool.and_false primOk.eq_1 primOk.eq_2 primOk.eq_3 primOk.eq_4 primOk.eq_5 primVal.eq_1 primVal.eq_2 primVal.eq_3 primVal.eq_4 primVal.eq_5 mOk.eq_1 mOk.eq_2 mVal.eq_1 mVal.eq_2 mFz.eq_1 mFz.eq_2 mOks mVals mFzs mCalOk.eq_1 mCalOk.eq_2 mFn.eq_1 mFn.eq_2 mArgs.eq_1 mArgs.eq_2 ckOk.eq_1 ckOk.eq_2 cloOk.eq_1 ptrAt.eq_1 sh.eq_1 sh.eq_2 sh.eq_3 sh.eq_4 sh.eq_5 sh.eq_6 retM shH_small evM entOk.eq_1 entOk.eq_2 ents.eq_1 ents.eq_2 kI.eq_1 mpOk.eq_1 mpR.eq_1 lkV.eq_1 lkV.eq_2 remp.eq_2 evP pvOk.eq_1 pvOk.eq_2 pvVal.eq_1 pvVal.eq_2 plOk.eq_1 plOk.eq_2 plV.eq_1 plV.eq_2 plF.eq_1 plF.eq_2 plVal.eq_1 plVal.eq_2 plFz.eq_1 plFz.eq_2 lpOk.eq_1 lpOk.eq_2 lpVal.eq_1 lpVal.eq_2 lpFz.eq_1 lpFz.eq_2 stpOk.eq_1 stpOk.eq_2 stpSt.eq_1 stpSt.eq_2 stpArr.eq_1
section
/-
  Layer 7 on the plain machine: the operation that a line is, and the law OpLines.
-/
open Go.RowKit
set_option linter.unusedVariables false
set_option linter.unusedSimpArgs false
set_option maxRecDepth 100000
attribute [local go_sem ↓] runOp headOp
def idxInv (l : List ByteArray) (x : ByteArray) (r : Int) (k : Nat) (σ : St) : Prop :=
  ∃ j : Nat, j ≤ l.length ∧ k = l.length - j ∧ σ.T 0 = .sl (l.map .str) ∧ σ.T 1 = .str x ∧ σ.T 7 = .int .i64 l.length ∧ σ.T 8 = .int .i64 j ∧ idxS x (l.drop j) j = r
/-! ### slices.Index[[]string,string] -/
def r_idxOf_0 : Reg := ⟨[], [⟨(.mv (.c (.int .i64 0))), (some 4), none, [], []⟩], [], [], false⟩
def t_idxOf_1 : List ROp := [⟨(.mv (.t 0)), (some 6), none, [], []⟩, ⟨(.len false (.t 6)), (some 7), none, [], []⟩, ⟨(.mv (.c (.int .i64 0))), (some 8), none, [], []⟩]
def r_idxOf_1 : Reg := ⟨[], t_idxOf_1, [], [], false⟩
def r_idxOf_2 : Reg := ⟨[], [⟨(.bin .lss (.t 8) (.t 7)), (some 9), none, [], []⟩], [], [], false⟩
def r_idxOf_3 : Reg := ⟨[], [⟨(.mv (.t 8)), (some 10), none, [], []⟩, ⟨(.mv (.t 10)), (some 5), none, [], []⟩], [], [], false⟩
def t_idxOf_4 : List ROp := [⟨(.mv (.t 1)), (some 11), none, [], []⟩, ⟨(.mv (.t 0)), (some 12), none, [], []⟩, ⟨(.mv (.t 5)), (some 13), none, [], []⟩, ⟨(.iaddr 1 (.t 12) (.t 13)), (some 14), none, [], []⟩, ⟨(.load 1 false (.t 14)), (some 15), none, [], []⟩, ⟨(.bin .eql (.t 11) (.t 15)), (some 16), none, [], []⟩]
def r_idxOf_4 : Reg := ⟨[], t_idxOf_4, [], [], false⟩
def r_idxOf_5 : Reg := ⟨[], [⟨(.mv (.t 5)), (some 17), none, [], []⟩, ⟨(.mv (.t 17)), (some 4), none, [], []⟩], [], [], false⟩
def r_idxOf_6 : Reg := ⟨[], [⟨(.bin .add (.t 8) (.c (.int .i64 1))), (some 18), none, [], []⟩, ⟨(.mv (.t 18)), (some 8), none, [], []⟩], [], [], false⟩
def r_idxOf_l7 : IR := (.seq (.reg r_idxOf_2)
  (.seq (.cond (.t 9) .skip
  (.exit 0))
  (.seq (.block 1 (.seq (.reg r_idxOf_3)
  (.seq (.reg r_idxOf_4)
  (.cond (.t 16) (.seq (.reg r_idxOf_5)
  .ret)
  .skip))))
  (.reg r_idxOf_6))))
def r_idxOf_8 : Reg := ⟨[], [⟨(.mv (.c (.int .i64 (-1)))), (some 4), none, [], []⟩], [], [], false⟩
def ir_idxOf : IR := (.seq (.reg r_idxOf_0)
  (.seq (.seq (.reg r_idxOf_1)
  (.block 0 (.loop r_idxOf_l7)))
  (.seq (.reg r_idxOf_8)
  .ret)))
def res_idxOf : List RDesc := [(.tmp 4)]
theorem e_idxOf_0 (C : FuncId → List AV → AV → Prop) (σ : St) (K : St → Prop) : runReg C r_idxOf_0 σ K = runOps C [⟨(.mv (.c (.int .i64 0))), (some 4), none, [], []⟩] (σ.kills []) K := rfl
theorem e_idxOf_1 (C : FuncId → List AV → AV → Prop) (σ : St) (K : St → Prop) : runReg C r_idxOf_1 σ K = runOps C t_idxOf_1 (σ.kills []) K := rfl
theorem e_idxOf_2 (C : FuncId → List AV → AV → Prop) (σ : St) (K : St → Prop) : runReg C r_idxOf_2 σ K = runOps C [⟨(.bin .lss (.t 8) (.t 7)), (some 9), none, [], []⟩] (σ.kills []) K := rfl
theorem e_idxOf_3 (C : FuncId → List AV → AV → Prop) (σ : St) (K : St → Prop) : runReg C r_idxOf_3 σ K = runOps C [⟨(.mv (.t 8)), (some 10), none, [], []⟩, ⟨(.mv (.t 10)), (some 5), none, [], []⟩] (σ.kills []) K := rfl
theorem e_idxOf_4 (C : FuncId → List AV → AV → Prop) (σ : St) (K : St → Prop) : runReg C r_idxOf_4 σ K = runOps C t_idxOf_4 (σ.kills []) K := rfl
theorem e_idxOf_5 (C : FuncId → List AV → AV → Prop) (σ : St) (K : St → Prop) : runReg C r_idxOf_5 σ K = runOps C [⟨(.mv (.t 5)), (some 17), none, [], []⟩, ⟨(.mv (.t 17)), (some 4), none, [], []⟩] (σ.kills []) K := rfl
theorem e_idxOf_6 (C : FuncId → List AV → AV → Prop) (σ : St) (K : St → Prop) : runReg C r_idxOf_6 σ K = runOps C [⟨(.bin .add (.t 8) (.c (.int .i64 1))), (some 18), none, [], []⟩, ⟨(.mv (.t 18)), (some 8), none, [], []⟩] (σ.kills []) K := rfl
theorem e_idxOf_8 (C : FuncId → List AV → AV → Prop) (σ : St) (K : St → Prop) : runReg C r_idxOf_8 σ K = runOps C [⟨(.mv (.c (.int .i64 (-1)))), (some 4), none, [], []⟩] (σ.kills []) K := rfl
theorem fn_idxOf {args : List AV} {r : AV} (ha : args.length.ble Tryd.f96.ntmps = true) (h : run (AFn Tryd.prog) ir_idxOf (endQ res_idxOf r) (initSt args)) : AFn Tryd.prog 96 args r :=
  AFn.of_code (pv := false) (hint := fun _ => []) (c := Tryd.f96.body.getD .skip) (by kernel_rfl) (by kernel_rfl) Tryd.func96 (by kernel_rfl) (by kernel_rfl) (by kernel_rfl) (of_decide_eq_true (by kernel_rfl)) (Nat.le_of_ble_eq_true ha) (Nat.le_of_ble_eq_true (by kernel_rfl)) (run_ok h)
/-! ### percolate/op.Parse -/
def t_oParse_0 : List ROp := [⟨(.alloc 6 43 (.agg [(.int .i64 0), (.str ⟨#[]⟩), (.str ⟨#[]⟩), (.bool false), (.str ⟨#[]⟩), (.int .i64 0)])), (some 2), none, [], []⟩, ⟨(.mv (.c (.bool false))), (some 3), none, [], []⟩]
def r_oParse_0 : Reg := ⟨[], t_oParse_0, [2], [], false⟩
def t_oParse_1 : List ROp := [⟨(.mv (.t 0)), (some 6), none, [7, 8], []⟩, ⟨(.callv (.c (.clo 56 [] [])) [(.t 6)]), (some 7), none, [8], []⟩, ⟨(.bsl 1 9 [(.c (.str ⟨#[]⟩)), (.c (.str ⟨#[]⟩)), (.c (.str ⟨#[]⟩))]), (some 8), none, [], []⟩, ⟨(.append 1 9 16 (.t 7) (.t 8)), (some 9), none, [], []⟩, ⟨(.mv (.t 9)), (some 4), none, [], []⟩]
def r_oParse_1 : Reg := ⟨[], t_oParse_1, [7, 8], [], false⟩
def h_oParse_2 : List ROp := [⟨(.callv (.c (.clo 92 [] [])) []), (some 10), none, [14, 5], []⟩, ⟨(.mv (.t 4)), (some 11), none, [10, 14, 5], []⟩, ⟨(.iaddr 1 (.t 11) (.c (.int .i64 0))), (some 12), none, [10, 14, 5], []⟩, ⟨(.load 1 false (.t 12)), (some 13), none, [10, 14, 5], []⟩, ⟨(.callv (.c (.clo 96 [] [])) [(.t 10), (.t 13)]), (some 14), none, [5], []⟩, ⟨(.bld [(.int .i64 0), (.str ⟨#[]⟩), (.str ⟨#[]⟩), (.bool false), (.str ⟨#[]⟩), (.int .i64 0)] [⟨0, 1, (.t 14)⟩]), (some 15), none, [5], []⟩, ⟨(.alloc 6 43 (.agg [(.int .i64 0), (.str ⟨#[]⟩), (.str ⟨#[]⟩), (.bool false), (.str ⟨#[]⟩), (.int .i64 0)])), (some 5), none, [10, 14], []⟩]
def r_oParse_2 : Reg := ⟨h_oParse_2, [⟨(.store 6 (.t 5) (.t 15)), none, none, [], [5]⟩], [10, 14, 5], [], true⟩
def t_oParse_3 : List ROp := [⟨(.mv (.t 4)), (some 17), none, [20], []⟩, ⟨(.iaddr 1 (.t 17) (.c (.int .i64 1))), (some 18), none, [20], []⟩, ⟨(.load 1 false (.t 18)), (some 19), none, [20], []⟩, ⟨(.callv (.c (.clo 97 [] [])) [(.t 19)]), (some 20), none, [], []⟩, ⟨(.mv (.t 20)), (some 16), none, [], []⟩, ⟨(.ext 0 (.t 16)), (some 21), none, [], []⟩, ⟨(.ext 1 (.t 16)), (some 22), none, [], []⟩, ⟨(.faddr 1 (.t 5)), (some 23), none, [], []⟩, ⟨(.store 1 (.t 23) (.t 21)), none, none, [], []⟩]
def r_oParse_3 : Reg := ⟨[], t_oParse_3, [20], [], false⟩
def t_oParse_4 : List ROp := [⟨(.load 6 true (.t 5)), (some 25), none, [26], []⟩, ⟨(.callv (.c (.clo 93 [] [])) [(.t 25)]), (some 26), none, [], []⟩, ⟨(.mv (.t 26)), (some 24), none, [], []⟩]
def r_oParse_4 : Reg := ⟨[], t_oParse_4, [26], [], false⟩
def t_oParse_5 : List ROp := [⟨(.mv (.t 4)), (some 28), none, [31], []⟩, ⟨(.iaddr 1 (.t 28) (.c (.int .i64 2))), (some 29), none, [31], []⟩, ⟨(.load 1 false (.t 29)), (some 30), none, [31], []⟩, ⟨(.callv (.c (.clo 97 [] [])) [(.t 30)]), (some 31), none, [], []⟩, ⟨(.mv (.t 31)), (some 27), none, [], []⟩, ⟨(.ext 0 (.t 27)), (some 32), none, [], []⟩, ⟨(.ext 1 (.t 27)), (some 33), none, [], []⟩, ⟨(.faddr 4 (.t 5)), (some 34), none, [], []⟩, ⟨(.store 1 (.t 34) (.t 32)), none, none, [], []⟩]
def r_oParse_5 : Reg := ⟨[], t_oParse_5, [31], [], false⟩
def t_oParse_6 : List ROp := [⟨(.load 6 true (.t 5)), (some 36), none, [37], []⟩, ⟨(.callv (.c (.clo 94 [] [])) [(.t 36)]), (some 37), none, [], []⟩, ⟨(.mv (.t 37)), (some 38), none, [], []⟩, ⟨(.mv (.t 4)), (some 39), (some (38, true)), [], []⟩, ⟨(.iaddr 1 (.t 39) (.c (.int .i64 2))), (some 40), (some (38, true)), [], []⟩, ⟨(.load 1 false (.t 40)), (some 41), (some (38, true)), [], []⟩, ⟨(.bin .eql (.t 41) (.c (.str ⟨#[42]⟩))), (some 42), (some (38, true)), [], []⟩, ⟨(.pick (.t 38) (.t 42) (.c (.bool false))), (some 43), none, [], []⟩, ⟨(.mv (.t 43)), (some 35), none, [], []⟩]
def r_oParse_6 : Reg := ⟨[], t_oParse_6, [37], [], false⟩
def r_oParse_7 : Reg := ⟨[], [⟨(.faddr 3 (.t 5)), (some 44), none, [], []⟩, ⟨(.store 1 (.t 44) (.c (.bool true))), none, none, [], []⟩], [], [], false⟩
def t_oParse_8 : List ROp := [⟨(.load 6 true (.t 5)), (some 46), none, [47], []⟩, ⟨(.callv (.c (.clo 94 [] [])) [(.t 46)]), (some 47), none, [], []⟩, ⟨(.mv (.t 47)), (some 45), none, [], []⟩]
def r_oParse_8 : Reg := ⟨[], t_oParse_8, [47], [], false⟩
def t_oParse_9 : List ROp := [⟨(.mv (.t 4)), (some 49), none, [52], []⟩, ⟨(.iaddr 1 (.t 49) (.c (.int .i64 2))), (some 50), none, [52], []⟩, ⟨(.load 1 false (.t 50)), (some 51), none, [52], []⟩, ⟨(.callv (.c (.clo 97 [] [])) [(.t 51)]), (some 52), none, [], []⟩, ⟨(.mv (.t 52)), (some 48), none, [], []⟩, ⟨(.ext 0 (.t 48)), (some 53), none, [], []⟩, ⟨(.ext 1 (.t 48)), (some 54), none, [], []⟩, ⟨(.faddr 2 (.t 5)), (some 55), none, [], []⟩, ⟨(.store 1 (.t 55) (.t 53)), none, none, [], []⟩]
def r_oParse_9 : Reg := ⟨[], t_oParse_9, [52], [], false⟩
def t_oParse_10 : List ROp := [⟨(.faddr 0 (.t 5)), (some 56), none, [], []⟩, ⟨(.load 1 false (.t 56)), (some 57), none, [], []⟩, ⟨(.bin .eql (.t 57) (.c (.int .i64 6))), (some 58), none, [], []⟩]
def r_oParse_10 : Reg := ⟨[], t_oParse_10, [], [], false⟩
def t_oParse_11 : List ROp := [⟨(.mv (.t 4)), (some 60), none, [63], []⟩, ⟨(.iaddr 1 (.t 60) (.c (.int .i64 3))), (some 61), none, [63], []⟩, ⟨(.load 1 false (.t 61)), (some 62), none, [63], []⟩, ⟨(.callv (.c (.clo 57 [] [])) [(.t 62)]), (some 63), none, [], []⟩, ⟨(.mv (.t 63)), (some 59), none, [], []⟩, ⟨(.ext 0 (.t 59)), (some 64), none, [], []⟩, ⟨(.ext 1 (.t 59)), (some 65), none, [], []⟩, ⟨(.faddr 5 (.t 5)), (some 66), none, [], []⟩, ⟨(.store 1 (.t 66) (.t 64)), none, none, [], []⟩]
def r_oParse_11 : Reg := ⟨[], t_oParse_11, [63], [], false⟩
def t_oParse_12 : List ROp := [⟨(.load 6 true (.t 5)), (some 67), none, [68, 72], []⟩, ⟨(.callv (.c (.clo 91 [] [])) [(.t 67)]), (some 68), none, [72], []⟩, ⟨(.bin .neq (.t 68) (.c (.int .i64 0))), (some 69), none, [72], []⟩, ⟨(.mv (.t 69)), (some 70), none, [72], []⟩, ⟨(.load 6 true (.t 5)), (some 71), (some (70, false)), [72], []⟩, ⟨(.callv (.c (.clo 54 [] [])) [(.t 71)]), (some 72), (some (70, false)), [], []⟩, ⟨(.mv (.t 0)), (some 73), (some (70, false)), [], []⟩, ⟨(.bin .neq (.t 72) (.t 73)), (some 74), (some (70, false)), [], []⟩, ⟨(.pick (.t 70) (.c (.bool true)) (.t 74)), (some 75), none, [], []⟩]
def r_oParse_12 : Reg := ⟨[], t_oParse_12, [68, 72], [], false⟩
def t_oParse_13 : List ROp := [⟨(.bld [(.int .i64 0), (.str ⟨#[]⟩), (.str ⟨#[]⟩), (.bool false), (.str ⟨#[]⟩), (.int .i64 0)] []), (some 76), none, [], []⟩, ⟨(.store 6 (.t 2) (.t 76)), none, none, [], []⟩, ⟨(.mv (.c (.bool false))), (some 3), none, [], []⟩]
def r_oParse_13 : Reg := ⟨[], t_oParse_13, [], [], false⟩
def t_oParse_14 : List ROp := [⟨(.load 6 true (.t 5)), (some 77), none, [], []⟩, ⟨(.store 6 (.t 2) (.t 77)), none, none, [], []⟩, ⟨(.mv (.c (.bool true))), (some 3), none, [], []⟩]
def r_oParse_14 : Reg := ⟨[], t_oParse_14, [], [], false⟩
def ir_oParse : IR := (.seq (.reg r_oParse_0)
  (.seq (.reg r_oParse_1)
  (.seq (.reg r_oParse_2)
  (.seq (.reg r_oParse_3)
  (.seq (.block 0 (.seq (.reg r_oParse_4)
  (.cond (.t 24) (.reg r_oParse_5)
  (.seq (.reg r_oParse_6)
  (.cond (.t 35) (.reg r_oParse_7)
  (.seq (.reg r_oParse_8)
  (.cond (.t 45) (.reg r_oParse_9)
  .skip)))))))
  (.seq (.seq (.reg r_oParse_10)
  (.cond (.t 58) (.reg r_oParse_11)
  .skip))
  (.seq (.seq (.reg r_oParse_12)
  (.cond (.t 75) (.seq (.reg r_oParse_13)
  .ret)
  .skip))
  (.seq (.reg r_oParse_14)
  .ret))))))))
def res_oParse : List RDesc := [(.cell 2 6 true), (.tmp 3)]
theorem e_oParse_0 (C : FuncId → List AV → AV → Prop) (σ : St) (K : St → Prop) : runReg C r_oParse_0 σ K = runOps C t_oParse_0 (σ.kills [2]) K := rfl
theorem e_oParse_1 (C : FuncId → List AV → AV → Prop) (σ : St) (K : St → Prop) : runReg C r_oParse_1 σ K = runOps C t_oParse_1 (σ.kills [7, 8]) K := rfl
theorem e_oParse_2 (C : FuncId → List AV → AV → Prop) (σ : St) (K : St → Prop) : runReg C r_oParse_2 σ K = runHead C [] [⟨(.store 6 (.t 5) (.t 15)), none, none, [], [5]⟩] h_oParse_2 (σ.kills [10, 14, 5]) K := rfl
theorem e_oParse_3 (C : FuncId → List AV → AV → Prop) (σ : St) (K : St → Prop) : runReg C r_oParse_3 σ K = runOps C t_oParse_3 (σ.kills [20]) K := rfl
theorem e_oParse_4 (C : FuncId → List AV → AV → Prop) (σ : St) (K : St → Prop) : runReg C r_oParse_4 σ K = runOps C t_oParse_4 (σ.kills [26]) K := rfl
theorem e_oParse_5 (C : FuncId → List AV → AV → Prop) (σ : St) (K : St → Prop) : runReg C r_oParse_5 σ K = runOps C t_oParse_5 (σ.kills [31]) K := rfl
theorem e_oParse_6 (C : FuncId → List AV → AV → Prop) (σ : St) (K : St → Prop) : runReg C r_oParse_6 σ K = runOps C t_oParse_6 (σ.kills [37]) K := rfl
theorem e_oParse_7 (C : FuncId → List AV → AV → Prop) (σ : St) (K : St → Prop) : runReg C r_oParse_7 σ K = runOps C [⟨(.faddr 3 (.t 5)), (some 44), none, [], []⟩, ⟨(.store 1 (.t 44) (.c (.bool true))), none, none, [], []⟩] (σ.kills []) K := rfl
theorem e_oParse_8 (C : FuncId → List AV → AV → Prop) (σ : St) (K : St → Prop) : runReg C r_oParse_8 σ K = runOps C t_oParse_8 (σ.kills [47]) K := rfl
theorem e_oParse_9 (C : FuncId → List AV → AV → Prop) (σ : St) (K : St → Prop) : runReg C r_oParse_9 σ K = runOps C t_oParse_9 (σ.kills [52]) K := rfl
theorem e_oParse_10 (C : FuncId → List AV → AV → Prop) (σ : St) (K : St → Prop) : runReg C r_oParse_10 σ K = runOps C t_oParse_10 (σ.kills []) K := rfl
theorem e_oParse_11 (C : FuncId → List AV → AV → Prop) (σ : St) (K : St → Prop) : runReg C r_oParse_11 σ K = runOps C t_oParse_11 (σ.kills [63]) K := rfl
theorem e_oParse_12 (C : FuncId → List AV → AV → Prop) (σ : St) (K : St → Prop) : runReg C r_oParse_12 σ K = runOps C t_oParse_12 (σ.kills [68, 72]) K := rfl
theorem e_oParse_13 (C : FuncId → List AV → AV → Prop) (σ : St) (K : St → Prop) : runReg C r_oParse_13 σ K = runOps C t_oParse_13 (σ.kills []) K := rfl
theorem e_oParse_14 (C : FuncId → List AV → AV → Prop) (σ : St) (K : St → Prop) : runReg C r_oParse_14 σ K = runOps C t_oParse_14 (σ.kills []) K := rfl
theorem fn_oParse {args : List AV} {r : AV} (ha : args.length.ble Tryd.f58.ntmps = true) (h : run (AFn Tryd.prog) ir_oParse (endQ res_oParse r) (initSt args)) : AFn Tryd.prog 58 args r :=
  AFn.of_code (pv := false) (hint := fun _ => []) (c := Tryd.f58.body.getD .skip) (by kernel_rfl) (by kernel_rfl) Tryd.func58 (by kernel_rfl) (by kernel_rfl) (by kernel_rfl) (of_decide_eq_true (by kernel_rfl)) (Nat.le_of_ble_eq_true ha) (Nat.le_of_ble_eq_true (by kernel_rfl)) (run_ok h)
attribute [local go_sem ↓] ir_idxOf
attribute [local go_sem] res_idxOf e_idxOf_0 e_idxOf_1 t_idxOf_1 e_idxOf_2 e_idxOf_3 e_idxOf_4 t_idxOf_4 e_idxOf_5 e_idxOf_6 e_idxOf_8
attribute [local go_sem ↓] ir_oParse
attribute [local go_sem] res_oParse e_oParse_0 t_oParse_0 e_oParse_1 t_oParse_1 e_oParse_2 h_oParse_2 e_oParse_3 t_oParse_3 e_oParse_4 t_oParse_4 e_oParse_5 t_oParse_5 e_oParse_6 t_oParse_6 e_oParse_7 e_oParse_8 t_oParse_8 e_oParse_9 t_oParse_9 e_oParse_10 t_oParse_10 e_oParse_11 t_oParse_11 e_oParse_12 t_oParse_12 e_oParse_13 t_oParse_13 e_oParse_14 t_oParse_14
theorem idxOf_ok (l : List ByteArray) (x : ByteArray) (hl : l.length ≤ 1000000) : AFn Tryd.prog 96 [.sl (l.map .str), .str x] (.int .i64 (idxS x l 0)) := by
  refine fn_idxOf rfl ?_
  simp (maxSteps := 4000000) only [go_sem, ↓reduceIte, reduceCtorEq, Nat.reduceEqDiff, Nat.reduceBEq, Nat.reduceAdd, Nat.reduceSub, Nat.reduceMul, Nat.reduceLT, Nat.reduceLeDiff, Nat.reduceBNe, Int.reduceBEq, Int.reduceBNe, Int.reduceLT, Int.reduceLE, Opr.a, nul, List.length_map]
  refine run_loop (idxInv l x (idxS x l 0)) (k := l.length) ⟨0, by omega, rfl, rfl, rfl, rfl, rfl, rfl⟩ ?_
  rintro k σ ⟨j, hj, rfl, t0, t1, t7, t8, hr⟩
  simp only [r_idxOf_l7]
  by_cases hlt : j < l.length
  · have hlt' : (j : Int) < (l.length : Int) := by omega
    obtain ⟨y, hy⟩ : ∃ y, l[j]? = some y := ⟨_, List.getElem?_eq_getElem hlt⟩
    have hg : (l.map AV.str).getD j .und = .str y := by rw [List.getD_eq_getElem?_getD, List.getElem?_map, hy]; rfl
    have hw : IntKind.i64.wrap ((j : Int) + 1) = ((j + 1 : Nat) : Int) := by rw [IntWalk.i64_in _ (by omega)]; rfl
    have hd : l.drop j = y :: l.drop (j + 1) := by
      rw [List.drop_eq_getElem_cons hlt]
      have := List.getElem?_eq_getElem hlt
      rw [hy] at this; cases this; rfl
    rw [hd, idxS] at hr
    cases he : (x.toList == y.toList) with
    | true =>
      rw [he, if_pos rfl] at hr
      have hr' := hr.symm
      simp (maxSteps := 4000000) only [go_sem, ↓reduceIte, reduceCtorEq, Nat.reduceEqDiff, Nat.reduceBEq, Nat.reduceAdd, Nat.reduceSub, Nat.reduceMul, Nat.reduceLT, Nat.reduceLeDiff, Nat.reduceBNe, Int.reduceBEq, Int.reduceBNe, Int.reduceLT, Int.reduceLE, Opr.a, nul, t0, t1, t7, t8, hlt', hg, he, hr', List.length_map, Int.toNat_natCast]
      omega
    | false =>
      rw [he, if_neg (by simp)] at hr
      simp (maxSteps := 4000000) only [go_sem, ↓reduceIte, reduceCtorEq, Nat.reduceEqDiff, Nat.reduceBEq, Nat.reduceAdd, Nat.reduceSub, Nat.reduceMul, Nat.reduceLT, Nat.reduceLeDiff, Nat.reduceBNe, Int.reduceBEq, Int.reduceBNe, Int.reduceLT, Int.reduceLE, Opr.a, nul, t0, t1, t7, t8, hlt', hg, he, hw, List.length_map, Int.toNat_natCast]
      (repeat refine And.intro (by omega) ?_)
      refine ⟨l.length - (j + 1), by omega, j + 1, by omega, rfl, ?_, ?_, ?_, ?_, hr⟩ <;> (simp (maxSteps := 4000000) only [go_sem, ↓reduceIte, reduceCtorEq, Nat.reduceEqDiff, Nat.reduceBEq, Nat.reduceAdd, Nat.reduceSub, Nat.reduceMul, Nat.reduceLT, Nat.reduceLeDiff, Nat.reduceBNe, Int.reduceBEq, Int.reduceBNe, Int.reduceLT, Int.reduceLE, Opr.a, nul, t0, t1, t7, t8, hw])
  · have hlt' : ¬ (j : Int) < (l.length : Int) := by omega
    have : j = l.length := by omega
    subst this
    rw [List.drop_length, idxS] at hr
    simp (maxSteps := 4000000) only [go_sem, ↓reduceIte, reduceCtorEq, Nat.reduceEqDiff, Nat.reduceBEq, Nat.reduceAdd, Nat.reduceSub, Nat.reduceMul, Nat.reduceLT, Nat.reduceLeDiff, Nat.reduceBNe, Int.reduceBEq, Int.reduceBNe, Int.reduceLT, Int.reduceLE, Opr.a, nul, t7, t8, hlt', hr]
theorem quoteL_ge : ∀ l : List UInt8, l.length ≤ (quoteL l).length
  | [] => Nat.zero_le _
  | c :: l => by
    have := quoteL_ge l
    rw [quoteL, List.length_append, List.length_cons]
    split
    · simp; omega
    · simp; omega
theorem uq1_size (s : ByteArray) : (uq1 s).size ≤ s.size := by
  have hL : s.data.toList.length = s.size := by rw [Array.length_toList]; rfl
  unfold uq1 uqF
  by_cases h0 : (s.toList == (ByteArray.mk #[45]).toList) = true
  · rw [if_pos h0]; exact Nat.zero_le _
  · rw [if_neg h0]
    have h := uqGo_top s.data.toList
    rw [hL] at h
    rw [h]
    cases hq : uqL s.data.toList with
    | none => exact Nat.zero_le _
    | some out =>
      have h1 := quote_uq _ _ hq
      have h2 := quoteL_ge out
      rw [h1, hL] at h2
      exact h2
theorem wordsP_size (s : ByteArray) : ∀ j, ((wordsP s).getD j nul).size ≤ s.size := by
  intro j
  have hL : s.data.toList.length = s.size := by rw [Array.length_toList]; rfl
  have h : ∀ x, x ∈ wordsP s → x.size ≤ s.size := by
    intro x hx
    unfold wordsP at hx
    rcases List.mem_append.1 hx with h | h
    · obtain ⟨y, hy, rfl⟩ := List.mem_map.1 h
      have := wl_small _ y hy
      rw [hL] at this
      exact this
    · simp at h; subst h; exact Nat.zero_le _
  rw [List.getD_eq_getElem?_getD]
  cases hj : (wordsP s)[j]? with
  | none => exact Nat.zero_le _
  | some x => exact h x (List.mem_of_getElem? hj)
theorem oLineX (o : Opr) (h : o.key.size ≤ 9000000000) : AFn Tryd.prog 54 [o.a] (.str (lineX o)) := by
  unfold lineX
  cases hr : o.right with
  | true => exact oLine_ok o hr
  | false => exact oLine_no o h hr
set_option maxHeartbeats 4000000 in
theorem oParse_ok (s : ByteArray) (hs : s.size ≤ 300000) : AFn Tryd.prog 58 [.str s] (.tup [(parseF s).1.a, .bool (parseF s).2]) := by
  refine fn_oParse rfl ?_
  have hL : s.data.toList.length = s.size := by rw [Array.length_toList]; rfl
  have hwl := wl_len s.data.toList
  have hsp : (splitL s ⟨#[32]⟩).length ≤ maxLen := by
    have := congrArg List.length (splitL_wl s)
    rw [List.length_map] at this
    rw [this]; unfold ws; rw [List.length_map]
    exact Nat.le_trans (by omega : _ ≤ 300001) (by decide)
  have hW := words_ok s (by omega) hsp
  rw [splitL_wl s] at hW
  have hwne : 1 ≤ (wl s.data.toList).length := List.length_pos_iff.2 (wl_ne _)
  have hwsl : (ws (wl s.data.toList)).length = (wl s.data.toList).length := by unfold ws; rw [List.length_map]
  have hA : ws (wl s.data.toList) ++ [AV.str ⟨#[]⟩, .str ⟨#[]⟩, .str ⟨#[]⟩] = (wordsP s).map AV.str := by
    unfold wordsP ws
    rw [List.map_append, List.map_map]; rfl
  have hZ : (ws (wl s.data.toList)).length + 3 = (wordsP s).length := by
    have := congrArg List.length hA
    rw [List.length_append, List.length_map] at this
    exact this
  have hsz := wordsP_size s
  simp (maxSteps := 4000000) only [go_sem, ↓reduceIte, reduceCtorEq, Nat.reduceEqDiff, Nat.reduceBEq, Nat.reduceAdd, Nat.reduceSub, Nat.reduceMul, Nat.reduceLT, Nat.reduceLeDiff, Nat.reduceBNe, Int.reduceBEq, Int.reduceBNe, Int.reduceLT, Int.reduceLE, Opr.a, nul]
  (first | refine calling hW ?_ | refine callingH hW ?_)
  simp (maxSteps := 4000000) only [go_sem, ↓reduceIte, reduceCtorEq, Nat.reduceEqDiff, Nat.reduceBEq, Nat.reduceAdd, Nat.reduceSub, Nat.reduceMul, Nat.reduceLT, Nat.reduceLeDiff, Nat.reduceBNe, Int.reduceBEq, Int.reduceBNe, Int.reduceLT, Int.reduceLE, Opr.a, nul]
  refine ⟨⟨⟨by omega, by omega⟩, fun d hd => by rcases hd with rfl | rfl | rfl | h <;> first | exact ⟨rfl, rfl⟩ | exact h.elim⟩, ?_⟩
  simp only [List.take_length, hA, hZ]
  have hq4 : 4 ≤ (wordsP s).length := by omega
  have hF : parseF s = if (parseO (wordsP s)).right && ((lineX (parseO (wordsP s))).toList == s.toList) then (parseO (wordsP s), true) else (Opr.zero, false) := rfl
  rw [hF]
  have hO : ∀ a0 a1 a2 a3, (wordsP s).getD 0 nul = a0 → (wordsP s).getD 1 nul = a1 → (wordsP s).getD 2 nul = a2 → (wordsP s).getD 3 nul = a3 → parseO (wordsP s) = parseO [a0, a1, a2, a3] := by
    rintro _ _ _ _ rfl rfl rfl rfl; rfl
  have hget : ∀ j, j < (wordsP s).length → ((wordsP s).map AV.str).getD j .und = .str ((wordsP s).getD j nul) := by
    intro j hj
    rw [List.getD_eq_getElem?_getD, List.getElem?_map, List.getD_eq_getElem?_getD, List.getElem?_eq_getElem hj]; rfl
  have g0 := hget 0 (by omega)
  have g1 := hget 1 (by omega)
  have g2 := hget 2 (by omega)
  have g3 := hget 3 (by omega)
  have s0 := hsz 0
  have s1 := hsz 1
  have s2 := hsz 2
  have s3 := hsz 3
  obtain ⟨a0, ea0⟩ : ∃ a, (wordsP s).getD 0 nul = a := ⟨_, rfl⟩
  obtain ⟨a1, ea1⟩ : ∃ a, (wordsP s).getD 1 nul = a := ⟨_, rfl⟩
  obtain ⟨a2, ea2⟩ : ∃ a, (wordsP s).getD 2 nul = a := ⟨_, rfl⟩
  obtain ⟨a3, ea3⟩ : ∃ a, (wordsP s).getD 3 nul = a := ⟨_, rfl⟩
  rw [hO a0 a1 a2 a3 ea0 ea1 ea2 ea3]
  rw [ea0] at g0 s0
  rw [ea1] at g1 s1
  rw [ea2] at g2 s2
  rw [ea3] at g3 s3
  have n0 : (0 : Int) < ((wordsP s).length : Int) := by omega
  have n1 : (1 : Int) < ((wordsP s).length : Int) := by omega
  have n2 : (2 : Int) < ((wordsP s).length : Int) := by omega
  have n3 : (3 : Int) < ((wordsP s).length : Int) := by omega
  have m0 : 0 < (wordsP s).length := by omega
  have m1 : 1 < (wordsP s).length := by omega
  have m2 : 2 < (wordsP s).length := by omega
  have m3 : 3 < (wordsP s).length := by omega
  clear hO hget hF ea0 ea1 ea2 ea3 hsz hq4 hZ hA hwsl hwne hW hsp hwl
  generalize wordsP s = W at *
  have z0 : Int.toNat 0 = 0 := rfl
  have z1 : Int.toNat 1 = 1 := rfl
  have z2 : Int.toNat 2 = 2 := rfl
  have z3 : Int.toNat 3 = 3 := rfl
  (first | refine calling oNames_ok ?_ | refine callingH oNames_ok ?_)
  simp (maxSteps := 4000000) only [go_sem, ↓reduceIte, reduceCtorEq, Nat.reduceEqDiff, Nat.reduceBEq, Nat.reduceAdd, Nat.reduceSub, Nat.reduceMul, Nat.reduceLT, Nat.reduceLeDiff, Nat.reduceBNe, Int.reduceBEq, Int.reduceBNe, Int.reduceLT, Int.reduceLE, Opr.a, nul, z0, g0, n0, m0, List.length_map]
  (first | refine calling (idxOf_ok namesL a0 (by decide)) ?_ | refine callingH (idxOf_ok namesL a0 (by decide)) ?_)
  have ep : parseO [a0, a1, a2, a3] = (if idxS a0 namesL 0 == 1 || idxS a0 namesL 0 == 2 then ⟨idxS a0 namesL 0, uq1 a1, nul, false, uq1 a2, if idxS a0 namesL 0 == 6 then ud1 a3 else 0⟩ else if idxS a0 namesL 0 == 4 || idxS a0 namesL 0 == 6 then (if a2.toList == (ByteArray.mk #[42]).toList then ⟨idxS a0 namesL 0, uq1 a1, nul, true, nul, if idxS a0 namesL 0 == 6 then ud1 a3 else 0⟩ else ⟨idxS a0 namesL 0, uq1 a1, uq1 a2, false, nul, if idxS a0 namesL 0 == 6 then ud1 a3 else 0⟩) else ⟨idxS a0 namesL 0, uq1 a1, nul, false, nul, if idxS a0 namesL 0 == 6 then ud1 a3 else 0⟩ : Opr) := rfl
  rw [ep]
  clear ep
  generalize idxS a0 namesL 0 = k
  have hU1 := unq_ok a1 (by omega)
  rw [uqF_shape] at hU1
  have hU2 := unq_ok a2 (by omega)
  rw [uqF_shape] at hU2
  have hD3 := undec_ok a3 (by omega)
  rw [udF_shape] at hD3
  have q1 := uq1_size a1
  have hV : ∀ hi op val lim, AFn Tryd.prog 93 [.agg [.int .i64 k, .str (uq1 a1), .str hi, .bool op, .str val, .int .i64 lim]] (.bool (k == 1 || k == 2)) := fun hi op val lim => valued_ok ⟨k, uq1 a1, hi, op, val, lim⟩
  have hG : ∀ hi op val lim, AFn Tryd.prog 94 [.agg [.int .i64 k, .str (uq1 a1), .str hi, .bool op, .str val, .int .i64 lim]] (.bool (k == 4 || k == 6)) := fun hi op val lim => ranged_ok ⟨k, uq1 a1, hi, op, val, lim⟩
  have hR : ∀ hi op val lim, AFn Tryd.prog 91 [.agg [.int .i64 k, .str (uq1 a1), .str hi, .bool op, .str val, .int .i64 lim]] (.int .i64 (if Opr.right ⟨k, uq1 a1, hi, op, val, lim⟩ then 0 else 3)) := fun hi op val lim => oRight_ok ⟨k, uq1 a1, hi, op, val, lim⟩ (by show (uq1 a1).size ≤ _; omega)
  have hX : ∀ hi op val lim, AFn Tryd.prog 54 [.agg [.int .i64 k, .str (uq1 a1), .str hi, .bool op, .str val, .int .i64 lim]] (.str (lineX ⟨k, uq1 a1, hi, op, val, lim⟩)) := fun hi op val lim => oLineX ⟨k, uq1 a1, hi, op, val, lim⟩ (by show (uq1 a1).size ≤ _; omega)
  cases hv : (k == 1 || k == 2) with
  | true =>
    have h6 : (k == 6) = false := by rw [beq_eq_false_iff_ne]; have : k = 1 ∨ k = 2 := by simpa using hv
                                     omega
    have hR1 := hR (⟨#[]⟩ : ByteArray) false (uq1 a2) 0
    have hX1 := hX (⟨#[]⟩ : ByteArray) false (uq1 a2) 0
    cases hr : Opr.right (⟨k, uq1 a1, ⟨#[]⟩, false, (uq1 a2), 0⟩ : Opr) with
    | false =>
      rw [hr] at hR1
      (repeat (first | simp (maxSteps := 4000000) only [go_sem, ↓reduceIte, reduceCtorEq, Nat.reduceEqDiff, Nat.reduceBEq, Nat.reduceAdd, Nat.reduceSub, Nat.reduceMul, Nat.reduceLT, Nat.reduceLeDiff, Nat.reduceBNe, Int.reduceBEq, Int.reduceBNe, Int.reduceLT, Int.reduceLE, Opr.a, nul, z0, z1, z2, z3, g0, g1, g2, g3, n0, n1, n2, n3, m0, m1, m2, m3, List.length_map, hr, Opr.zero, Bool.false_and, Bool.true_and, hv, h6] | refine calling (hU1) ?_ | refine callingH (hU1) ?_ | refine calling (hU2) ?_ | refine callingH (hU2) ?_ | refine calling (hD3) ?_ | refine callingH (hD3) ?_ | refine calling (hV _ _ _ _) ?_ | refine callingH (hV _ _ _ _) ?_ | refine calling (hG _ _ _ _) ?_ | refine callingH (hG _ _ _ _) ?_ | refine calling (hR1) ?_ | refine callingH (hR1) ?_ | refine And.intro (by omega) ?_ | refine And.intro (fun d hd => by (repeat (rcases hd with rfl | hd; · exact ⟨rfl, rfl⟩)); cases hd) ?_))
    | true =>
      rw [hr] at hR1
      cases he : ((lineX (⟨k, uq1 a1, ⟨#[]⟩, false, (uq1 a2), 0⟩ : Opr)).toList == s.toList) with
      | false =>
        have he' : ((lineX (⟨k, uq1 a1, ⟨#[]⟩, false, (uq1 a2), 0⟩ : Opr)).toList != s.toList) = true := by simp [bne, he]
        (repeat (first | simp (maxSteps := 4000000) only [go_sem, ↓reduceIte, reduceCtorEq, Nat.reduceEqDiff, Nat.reduceBEq, Nat.reduceAdd, Nat.reduceSub, Nat.reduceMul, Nat.reduceLT, Nat.reduceLeDiff, Nat.reduceBNe, Int.reduceBEq, Int.reduceBNe, Int.reduceLT, Int.reduceLE, Opr.a, nul, z0, z1, z2, z3, g0, g1, g2, g3, n0, n1, n2, n3, m0, m1, m2, m3, List.length_map, hr, he, he', Opr.zero, Bool.false_and, Bool.true_and, hv, h6] | refine calling (hU1) ?_ | refine callingH (hU1) ?_ | refine calling (hU2) ?_ | refine callingH (hU2) ?_ | refine calling (hD3) ?_ | refine callingH (hD3) ?_ | refine calling (hV _ _ _ _) ?_ | refine callingH (hV _ _ _ _) ?_ | refine calling (hG _ _ _ _) ?_ | refine callingH (hG _ _ _ _) ?_ | refine calling (hR1) ?_ | refine callingH (hR1) ?_ | refine calling (hX1) ?_ | refine callingH (hX1) ?_ | refine And.intro (by omega) ?_ | refine And.intro (fun d hd => by (repeat (rcases hd with rfl | hd; · exact ⟨rfl, rfl⟩)); cases hd) ?_))
      | true =>
        have he' : ((lineX (⟨k, uq1 a1, ⟨#[]⟩, false, (uq1 a2), 0⟩ : Opr)).toList != s.toList) = false := by simp [bne, he]
        (repeat (first | simp (maxSteps := 4000000) only [go_sem, ↓reduceIte, reduceCtorEq, Nat.reduceEqDiff, Nat.reduceBEq, Nat.reduceAdd, Nat.reduceSub, Nat.reduceMul, Nat.reduceLT, Nat.reduceLeDiff, Nat.reduceBNe, Int.reduceBEq, Int.reduceBNe, Int.reduceLT, Int.reduceLE, Opr.a, nul, z0, z1, z2, z3, g0, g1, g2, g3, n0, n1, n2, n3, m0, m1, m2, m3, List.length_map, hr, he, he', Opr.zero, Bool.false_and, Bool.true_and, hv, h6] | refine calling (hU1) ?_ | refine callingH (hU1) ?_ | refine calling (hU2) ?_ | refine callingH (hU2) ?_ | refine calling (hD3) ?_ | refine callingH (hD3) ?_ | refine calling (hV _ _ _ _) ?_ | refine callingH (hV _ _ _ _) ?_ | refine calling (hG _ _ _ _) ?_ | refine callingH (hG _ _ _ _) ?_ | refine calling (hR1) ?_ | refine callingH (hR1) ?_ | refine calling (hX1) ?_ | refine callingH (hX1) ?_ | refine And.intro (by omega) ?_ | refine And.intro (fun d hd => by (repeat (rcases hd with rfl | hd; · exact ⟨rfl, rfl⟩)); cases hd) ?_))
  | false =>
    cases hg : (k == 4 || k == 6) with
    | false =>
      have h6 : (k == 6) = false := by cases h : (k == 6) <;> simp_all
      have h4 : (k == 4) = false := by cases h : (k == 4) <;> simp_all
      have hR1 := hR (⟨#[]⟩ : ByteArray) false (⟨#[]⟩ : ByteArray) 0
      have hX1 := hX (⟨#[]⟩ : ByteArray) false (⟨#[]⟩ : ByteArray) 0
      cases hr : Opr.right (⟨k, uq1 a1, ⟨#[]⟩, false, ⟨#[]⟩, 0⟩ : Opr) with
      | false =>
        rw [hr] at hR1
        (repeat (first | simp (maxSteps := 4000000) only [go_sem, ↓reduceIte, reduceCtorEq, Nat.reduceEqDiff, Nat.reduceBEq, Nat.reduceAdd, Nat.reduceSub, Nat.reduceMul, Nat.reduceLT, Nat.reduceLeDiff, Nat.reduceBNe, Int.reduceBEq, Int.reduceBNe, Int.reduceLT, Int.reduceLE, Opr.a, nul, z0, z1, z2, z3, g0, g1, g2, g3, n0, n1, n2, n3, m0, m1, m2, m3, List.length_map, hr, Opr.zero, Bool.false_and, Bool.true_and, hv, hg, h6, h4] | refine calling (hU1) ?_ | refine callingH (hU1) ?_ | refine calling (hU2) ?_ | refine callingH (hU2) ?_ | refine calling (hD3) ?_ | refine callingH (hD3) ?_ | refine calling (hV _ _ _ _) ?_ | refine callingH (hV _ _ _ _) ?_ | refine calling (hG _ _ _ _) ?_ | refine callingH (hG _ _ _ _) ?_ | refine calling (hR1) ?_ | refine callingH (hR1) ?_ | refine And.intro (by omega) ?_ | refine And.intro (fun d hd => by (repeat (rcases hd with rfl | hd; · exact ⟨rfl, rfl⟩)); cases hd) ?_))
      | true =>
        rw [hr] at hR1
        cases he : ((lineX (⟨k, uq1 a1, ⟨#[]⟩, false, ⟨#[]⟩, 0⟩ : Opr)).toList == s.toList) with
        | false =>
          have he' : ((lineX (⟨k, uq1 a1, ⟨#[]⟩, false, ⟨#[]⟩, 0⟩ : Opr)).toList != s.toList) = true := by simp [bne, he]
          (repeat (first | simp (maxSteps := 4000000) only [go_sem, ↓reduceIte, reduceCtorEq, Nat.reduceEqDiff, Nat.reduceBEq, Nat.reduceAdd, Nat.reduceSub, Nat.reduceMul, Nat.reduceLT, Nat.reduceLeDiff, Nat.reduceBNe, Int.reduceBEq, Int.reduceBNe, Int.reduceLT, Int.reduceLE, Opr.a, nul, z0, z1, z2, z3, g0, g1, g2, g3, n0, n1, n2, n3, m0, m1, m2, m3, List.length_map, hr, he, he', Opr.zero, Bool.false_and, Bool.true_and, hv, hg, h6, h4] | refine calling (hU1) ?_ | refine callingH (hU1) ?_ | refine calling (hU2) ?_ | refine callingH (hU2) ?_ | refine calling (hD3) ?_ | refine callingH (hD3) ?_ | refine calling (hV _ _ _ _) ?_ | refine callingH (hV _ _ _ _) ?_ | refine calling (hG _ _ _ _) ?_ | refine callingH (hG _ _ _ _) ?_ | refine calling (hR1) ?_ | refine callingH (hR1) ?_ | refine calling (hX1) ?_ | refine callingH (hX1) ?_ | refine And.intro (by omega) ?_ | refine And.intro (fun d hd => by (repeat (rcases hd with rfl | hd; · exact ⟨rfl, rfl⟩)); cases hd) ?_))
        | true =>
          have he' : ((lineX (⟨k, uq1 a1, ⟨#[]⟩, false, ⟨#[]⟩, 0⟩ : Opr)).toList != s.toList) = false := by simp [bne, he]
          (repeat (first | simp (maxSteps := 4000000) only [go_sem, ↓reduceIte, reduceCtorEq, Nat.reduceEqDiff, Nat.reduceBEq, Nat.reduceAdd, Nat.reduceSub, Nat.reduceMul, Nat.reduceLT, Nat.reduceLeDiff, Nat.reduceBNe, Int.reduceBEq, Int.reduceBNe, Int.reduceLT, Int.reduceLE, Opr.a, nul, z0, z1, z2, z3, g0, g1, g2, g3, n0, n1, n2, n3, m0, m1, m2, m3, List.length_map, hr, he, he', Opr.zero, Bool.false_and, Bool.true_and, hv, hg, h6, h4] | refine calling (hU1) ?_ | refine callingH (hU1) ?_ | refine calling (hU2) ?_ | refine callingH (hU2) ?_ | refine calling (hD3) ?_ | refine callingH (hD3) ?_ | refine calling (hV _ _ _ _) ?_ | refine callingH (hV _ _ _ _) ?_ | refine calling (hG _ _ _ _) ?_ | refine callingH (hG _ _ _ _) ?_ | refine calling (hR1) ?_ | refine callingH (hR1) ?_ | refine calling (hX1) ?_ | refine callingH (hX1) ?_ | refine And.intro (by omega) ?_ | refine And.intro (fun d hd => by (repeat (rcases hd with rfl | hd; · exact ⟨rfl, rfl⟩)); cases hd) ?_))
    | true =>
      cases hs2 : (a2.toList == (ByteArray.mk #[42]).toList) with
      | true =>
        cases h6 : (k == 6) with
        | false =>
          have h4 : (k == 4) = true := by cases h : (k == 4) <;> simp_all
          have hR1 := hR (⟨#[]⟩ : ByteArray) true (⟨#[]⟩ : ByteArray) 0
          have hX1 := hX (⟨#[]⟩ : ByteArray) true (⟨#[]⟩ : ByteArray) 0
          cases hr : Opr.right (⟨k, uq1 a1, ⟨#[]⟩, true, ⟨#[]⟩, 0⟩ : Opr) with
          | false =>
            rw [hr] at hR1
            (repeat (first | simp (maxSteps := 4000000) only [go_sem, ↓reduceIte, reduceCtorEq, Nat.reduceEqDiff, Nat.reduceBEq, Nat.reduceAdd, Nat.reduceSub, Nat.reduceMul, Nat.reduceLT, Nat.reduceLeDiff, Nat.reduceBNe, Int.reduceBEq, Int.reduceBNe, Int.reduceLT, Int.reduceLE, Opr.a, nul, z0, z1, z2, z3, g0, g1, g2, g3, n0, n1, n2, n3, m0, m1, m2, m3, List.length_map, hr, Opr.zero, Bool.false_and, Bool.true_and, hv, hg, h6, h4, hs2] | refine calling (hU1) ?_ | refine callingH (hU1) ?_ | refine calling (hU2) ?_ | refine callingH (hU2) ?_ | refine calling (hD3) ?_ | refine callingH (hD3) ?_ | refine calling (hV _ _ _ _) ?_ | refine callingH (hV _ _ _ _) ?_ | refine calling (hG _ _ _ _) ?_ | refine callingH (hG _ _ _ _) ?_ | refine calling (hR1) ?_ | refine callingH (hR1) ?_ | refine And.intro (by omega) ?_ | refine And.intro (fun d hd => by (repeat (rcases hd with rfl | hd; · exact ⟨rfl, rfl⟩)); cases hd) ?_))
          | true =>
            rw [hr] at hR1
            cases he : ((lineX (⟨k, uq1 a1, ⟨#[]⟩, true, ⟨#[]⟩, 0⟩ : Opr)).toList == s.toList) with
            | false =>
              have he' : ((lineX (⟨k, uq1 a1, ⟨#[]⟩, true, ⟨#[]⟩, 0⟩ : Opr)).toList != s.toList) = true := by simp [bne, he]
              (repeat (first | simp (maxSteps := 4000000) only [go_sem, ↓reduceIte, reduceCtorEq, Nat.reduceEqDiff, Nat.reduceBEq, Nat.reduceAdd, Nat.reduceSub, Nat.reduceMul, Nat.reduceLT, Nat.reduceLeDiff, Nat.reduceBNe, Int.reduceBEq, Int.reduceBNe, Int.reduceLT, Int.reduceLE, Opr.a, nul, z0, z1, z2, z3, g0, g1, g2, g3, n0, n1, n2, n3, m0, m1, m2, m3, List.length_map, hr, he, he', Opr.zero, Bool.false_and, Bool.true_and, hv, hg, h6, h4, hs2] | refine calling (hU1) ?_ | refine callingH (hU1) ?_ | refine calling (hU2) ?_ | refine callingH (hU2) ?_ | refine calling (hD3) ?_ | refine callingH (hD3) ?_ | refine calling (hV _ _ _ _) ?_ | refine callingH (hV _ _ _ _) ?_ | refine calling (hG _ _ _ _) ?_ | refine callingH (hG _ _ _ _) ?_ | refine calling (hR1) ?_ | refine callingH (hR1) ?_ | refine calling (hX1) ?_ | refine callingH (hX1) ?_ | refine And.intro (by omega) ?_ | refine And.intro (fun d hd => by (repeat (rcases hd with rfl | hd; · exact ⟨rfl, rfl⟩)); cases hd) ?_))
            | true =>
              have he' : ((lineX (⟨k, uq1 a1, ⟨#[]⟩, true, ⟨#[]⟩, 0⟩ : Opr)).toList != s.toList) = false := by simp [bne, he]
              (repeat (first | simp (maxSteps := 4000000) only [go_sem, ↓reduceIte, reduceCtorEq, Nat.reduceEqDiff, Nat.reduceBEq, Nat.reduceAdd, Nat.reduceSub, Nat.reduceMul, Nat.reduceLT, Nat.reduceLeDiff, Nat.reduceBNe, Int.reduceBEq, Int.reduceBNe, Int.reduceLT, Int.reduceLE, Opr.a, nul, z0, z1, z2, z3, g0, g1, g2, g3, n0, n1, n2, n3, m0, m1, m2, m3, List.length_map, hr, he, he', Opr.zero, Bool.false_and, Bool.true_and, hv, hg, h6, h4, hs2] | refine calling (hU1) ?_ | refine callingH (hU1) ?_ | refine calling (hU2) ?_ | refine callingH (hU2) ?_ | refine calling (hD3) ?_ | refine callingH (hD3) ?_ | refine calling (hV _ _ _ _) ?_ | refine callingH (hV _ _ _ _) ?_ | refine calling (hG _ _ _ _) ?_ | refine callingH (hG _ _ _ _) ?_ | refine calling (hR1) ?_ | refine callingH (hR1) ?_ | refine calling (hX1) ?_ | refine callingH (hX1) ?_ | refine And.intro (by omega) ?_ | refine And.intro (fun d hd => by (repeat (rcases hd with rfl | hd; · exact ⟨rfl, rfl⟩)); cases hd) ?_))
        | true =>
          have h4 : (k == 4) = false := by rw [beq_eq_false_iff_ne]; have : k = 6 := by simpa using h6
                                           omega
          have hR1 := hR (⟨#[]⟩ : ByteArray) true (⟨#[]⟩ : ByteArray) (ud1 a3)
          have hX1 := hX (⟨#[]⟩ : ByteArray) true (⟨#[]⟩ : ByteArray) (ud1 a3)
          cases hr : Opr.right (⟨k, uq1 a1, ⟨#[]⟩, true, ⟨#[]⟩, (ud1 a3)⟩ : Opr) with
          | false =>
            rw [hr] at hR1
            (repeat (first | simp (maxSteps := 4000000) only [go_sem, ↓reduceIte, reduceCtorEq, Nat.reduceEqDiff, Nat.reduceBEq, Nat.reduceAdd, Nat.reduceSub, Nat.reduceMul, Nat.reduceLT, Nat.reduceLeDiff, Nat.reduceBNe, Int.reduceBEq, Int.reduceBNe, Int.reduceLT, Int.reduceLE, Opr.a, nul, z0, z1, z2, z3, g0, g1, g2, g3, n0, n1, n2, n3, m0, m1, m2, m3, List.length_map, hr, Opr.zero, Bool.false_and, Bool.true_and, hv, hg, h6, h4, hs2] | refine calling (hU1) ?_ | refine callingH (hU1) ?_ | refine calling (hU2) ?_ | refine callingH (hU2) ?_ | refine calling (hD3) ?_ | refine callingH (hD3) ?_ | refine calling (hV _ _ _ _) ?_ | refine callingH (hV _ _ _ _) ?_ | refine calling (hG _ _ _ _) ?_ | refine callingH (hG _ _ _ _) ?_ | refine calling (hR1) ?_ | refine callingH (hR1) ?_ | refine And.intro (by omega) ?_ | refine And.intro (fun d hd => by (repeat (rcases hd with rfl | hd; · exact ⟨rfl, rfl⟩)); cases hd) ?_))
          | true =>
            rw [hr] at hR1
            cases he : ((lineX (⟨k, uq1 a1, ⟨#[]⟩, true, ⟨#[]⟩, (ud1 a3)⟩ : Opr)).toList == s.toList) with
            | false =>
              have he' : ((lineX (⟨k, uq1 a1, ⟨#[]⟩, true, ⟨#[]⟩, (ud1 a3)⟩ : Opr)).toList != s.toList) = true := by simp [bne, he]
              (repeat (first | simp (maxSteps := 4000000) only [go_sem, ↓reduceIte, reduceCtorEq, Nat.reduceEqDiff, Nat.reduceBEq, Nat.reduceAdd, Nat.reduceSub, Nat.reduceMul, Nat.reduceLT, Nat.reduceLeDiff, Nat.reduceBNe, Int.reduceBEq, Int.reduceBNe, Int.reduceLT, Int.reduceLE, Opr.a, nul, z0, z1, z2, z3, g0, g1, g2, g3, n0, n1, n2, n3, m0, m1, m2, m3, List.length_map, hr, he, he', Opr.zero, Bool.false_and, Bool.true_and, hv, hg, h6, h4, hs2] | refine calling (hU1) ?_ | refine callingH (hU1) ?_ | refine calling (hU2) ?_ | refine callingH (hU2) ?_ | refine calling (hD3) ?_ | refine callingH (hD3) ?_ | refine calling (hV _ _ _ _) ?_ | refine callingH (hV _ _ _ _) ?_ | refine calling (hG _ _ _ _) ?_ | refine callingH (hG _ _ _ _) ?_ | refine calling (hR1) ?_ | refine callingH (hR1) ?_ | refine calling (hX1) ?_ | refine callingH (hX1) ?_ | refine And.intro (by omega) ?_ | refine And.intro (fun d hd => by (repeat (rcases hd with rfl | hd; · exact ⟨rfl, rfl⟩)); cases hd) ?_))
            | true =>
              have he' : ((lineX (⟨k, uq1 a1, ⟨#[]⟩, true, ⟨#[]⟩, (ud1 a3)⟩ : Opr)).toList != s.toList) = false := by simp [bne, he]
              (repeat (first | simp (maxSteps := 4000000) only [go_sem, ↓reduceIte, reduceCtorEq, Nat.reduceEqDiff, Nat.reduceBEq, Nat.reduceAdd, Nat.reduceSub, Nat.reduceMul, Nat.reduceLT, Nat.reduceLeDiff, Nat.reduceBNe, Int.reduceBEq, Int.reduceBNe, Int.reduceLT, Int.reduceLE, Opr.a, nul, z0, z1, z2, z3, g0, g1, g2, g3, n0, n1, n2, n3, m0, m1, m2, m3, List.length_map, hr, he, he', Opr.zero, Bool.false_and, Bool.true_and, hv, hg, h6, h4, hs2] | refine calling (hU1) ?_ | refine callingH (hU1) ?_ | refine calling (hU2) ?_ | refine callingH (hU2) ?_ | refine calling (hD3) ?_ | refine callingH (hD3) ?_ | refine calling (hV _ _ _ _) ?_ | refine callingH (hV _ _ _ _) ?_ | refine calling (hG _ _ _ _) ?_ | refine callingH (hG _ _ _ _) ?_ | refine calling (hR1) ?_ | refine callingH (hR1) ?_ | refine calling (hX1) ?_ | refine callingH (hX1) ?_ | refine And.intro (by omega) ?_ | refine And.intro (fun d hd => by (repeat (rcases hd with rfl | hd; · exact ⟨rfl, rfl⟩)); cases hd) ?_))
      | false =>
        cases h6 : (k == 6) with
        | false =>
          have h4 : (k == 4) = true := by cases h : (k == 4) <;> simp_all
          have hR1 := hR (uq1 a2) false (⟨#[]⟩ : ByteArray) 0
          have hX1 := hX (uq1 a2) false (⟨#[]⟩ : ByteArray) 0
          cases hr : Opr.right (⟨k, uq1 a1, (uq1 a2), false, ⟨#[]⟩, 0⟩ : Opr) with
          | false =>
            rw [hr] at hR1
            (repeat (first | simp (maxSteps := 4000000) only [go_sem, ↓reduceIte, reduceCtorEq, Nat.reduceEqDiff, Nat.reduceBEq, Nat.reduceAdd, Nat.reduceSub, Nat.reduceMul, Nat.reduceLT, Nat.reduceLeDiff, Nat.reduceBNe, Int.reduceBEq, Int.reduceBNe, Int.reduceLT, Int.reduceLE, Opr.a, nul, z0, z1, z2, z3, g0, g1, g2, g3, n0, n1, n2, n3, m0, m1, m2, m3, List.length_map, hr, Opr.zero, Bool.false_and, Bool.true_and, hv, hg, h6, h4, hs2] | refine calling (hU1) ?_ | refine callingH (hU1) ?_ | refine calling (hU2) ?_ | refine callingH (hU2) ?_ | refine calling (hD3) ?_ | refine callingH (hD3) ?_ | refine calling (hV _ _ _ _) ?_ | refine callingH (hV _ _ _ _) ?_ | refine calling (hG _ _ _ _) ?_ | refine callingH (hG _ _ _ _) ?_ | refine calling (hR1) ?_ | refine callingH (hR1) ?_ | refine And.intro (by omega) ?_ | refine And.intro (fun d hd => by (repeat (rcases hd with rfl | hd; · exact ⟨rfl, rfl⟩)); cases hd) ?_))
          | true =>
            rw [hr] at hR1
            cases he : ((lineX (⟨k, uq1 a1, (uq1 a2), false, ⟨#[]⟩, 0⟩ : Opr)).toList == s.toList) with
            | false =>
              have he' : ((lineX (⟨k, uq1 a1, (uq1 a2), false, ⟨#[]⟩, 0⟩ : Opr)).toList != s.toList) = true := by simp [bne, he]
              (repeat (first | simp (maxSteps := 4000000) only [go_sem, ↓reduceIte, reduceCtorEq, Nat.reduceEqDiff, Nat.reduceBEq, Nat.reduceAdd, Nat.reduceSub, Nat.reduceMul, Nat.reduceLT, Nat.reduceLeDiff, Nat.reduceBNe, Int.reduceBEq, Int.reduceBNe, Int.reduceLT, Int.reduceLE, Opr.a, nul, z0, z1, z2, z3, g0, g1, g2, g3, n0, n1, n2, n3, m0, m1, m2, m3, List.length_map, hr, he, he', Opr.zero, Bool.false_and, Bool.true_and, hv, hg, h6, h4, hs2] | refine calling (hU1) ?_ | refine callingH (hU1) ?_ | refine calling (hU2) ?_ | refine callingH (hU2) ?_ | refine calling (hD3) ?_ | refine callingH (hD3) ?_ | refine calling (hV _ _ _ _) ?_ | refine callingH (hV _ _ _ _) ?_ | refine calling (hG _ _ _ _) ?_ | refine callingH (hG _ _ _ _) ?_ | refine calling (hR1) ?_ | refine callingH (hR1) ?_ | refine calling (hX1) ?_ | refine callingH (hX1) ?_ | refine And.intro (by omega) ?_ | refine And.intro (fun d hd => by (repeat (rcases hd with rfl | hd; · exact ⟨rfl, rfl⟩)); cases hd) ?_))
            | true =>
              have he' : ((lineX (⟨k, uq1 a1, (uq1 a2), false, ⟨#[]⟩, 0⟩ : Opr)).toList != s.toList) = false := by simp [bne, he]
              (repeat (first | simp (maxSteps := 4000000) only [go_sem, ↓reduceIte, reduceCtorEq, Nat.reduceEqDiff, Nat.reduceBEq, Nat.reduceAdd, Nat.reduceSub, Nat.reduceMul, Nat.reduceLT, Nat.reduceLeDiff, Nat.reduceBNe, Int.reduceBEq, Int.reduceBNe, Int.reduceLT, Int.reduceLE, Opr.a, nul, z0, z1, z2, z3, g0, g1, g2, g3, n0, n1, n2, n3, m0, m1, m2, m3, List.length_map, hr, he, he', Opr.zero, Bool.false_and, Bool.true_and, hv, hg, h6, h4, hs2] | refine calling (hU1) ?_ | refine callingH (hU1) ?_ | refine calling (hU2) ?_ | refine callingH (hU2) ?_ | refine calling (hD3) ?_ | refine callingH (hD3) ?_ | refine calling (hV _ _ _ _) ?_ | refine callingH (hV _ _ _ _) ?_ | refine calling (hG _ _ _ _) ?_ | refine callingH (hG _ _ _ _) ?_ | refine calling (hR1) ?_ | refine callingH (hR1) ?_ | refine calling (hX1) ?_ | refine callingH (hX1) ?_ | refine And.intro (by omega) ?_ | refine And.intro (fun d hd => by (repeat (rcases hd with rfl | hd; · exact ⟨rfl, rfl⟩)); cases hd) ?_))
        | true =>
          have h4 : (k == 4) = false := by rw [beq_eq_false_iff_ne]; have : k = 6 := by simpa using h6
                                           omega
          have hR1 := hR (uq1 a2) false (⟨#[]⟩ : ByteArray) (ud1 a3)
          have hX1 := hX (uq1 a2) false (⟨#[]⟩ : ByteArray) (ud1 a3)
          cases hr : Opr.right (⟨k, uq1 a1, (uq1 a2), false, ⟨#[]⟩, (ud1 a3)⟩ : Opr) with
          | false =>
            rw [hr] at hR1
            (repeat (first | simp (maxSteps := 4000000) only [go_sem, ↓reduceIte, reduceCtorEq, Nat.reduceEqDiff, Nat.reduceBEq, Nat.reduceAdd, Nat.reduceSub, Nat.reduceMul, Nat.reduceLT, Nat.reduceLeDiff, Nat.reduceBNe, Int.reduceBEq, Int.reduceBNe, Int.reduceLT, Int.reduceLE, Opr.a, nul, z0, z1, z2, z3, g0, g1, g2, g3, n0, n1, n2, n3, m0, m1, m2, m3, List.length_map, hr, Opr.zero, Bool.false_and, Bool.true_and, hv, hg, h6, h4, hs2] | refine calling (hU1) ?_ | refine callingH (hU1) ?_ | refine calling (hU2) ?_ | refine callingH (hU2) ?_ | refine calling (hD3) ?_ | refine callingH (hD3) ?_ | refine calling (hV _ _ _ _) ?_ | refine callingH (hV _ _ _ _) ?_ | refine calling (hG _ _ _ _) ?_ | refine callingH (hG _ _ _ _) ?_ | refine calling (hR1) ?_ | refine callingH (hR1) ?_ | refine And.intro (by omega) ?_ | refine And.intro (fun d hd => by (repeat (rcases hd with rfl | hd; · exact ⟨rfl, rfl⟩)); cases hd) ?_))
          | true =>
            rw [hr] at hR1
            cases he : ((lineX (⟨k, uq1 a1, (uq1 a2), false, ⟨#[]⟩, (ud1 a3)⟩ : Opr)).toList == s.toList) with
            | false =>
              have he' : ((lineX (⟨k, uq1 a1, (uq1 a2), false, ⟨#[]⟩, (ud1 a3)⟩ : Opr)).toList != s.toList) = true := by simp [bne, he]
              (repeat (first | simp (maxSteps := 4000000) only [go_sem, ↓reduceIte, reduceCtorEq, Nat.reduceEqDiff, Nat.reduceBEq, Nat.reduceAdd, Nat.reduceSub, Nat.reduceMul, Nat.reduceLT, Nat.reduceLeDiff, Nat.reduceBNe, Int.reduceBEq, Int.reduceBNe, Int.reduceLT, Int.reduceLE, Opr.a, nul, z0, z1, z2, z3, g0, g1, g2, g3, n0, n1, n2, n3, m0, m1, m2, m3, List.length_map, hr, he, he', Opr.zero, Bool.false_and, Bool.true_and, hv, hg, h6, h4, hs2] | refine calling (hU1) ?_ | refine callingH (hU1) ?_ | refine calling (hU2) ?_ | refine callingH (hU2) ?_ | refine calling (hD3) ?_ | refine callingH (hD3) ?_ | refine calling (hV _ _ _ _) ?_ | refine callingH (hV _ _ _ _) ?_ | refine calling (hG _ _ _ _) ?_ | refine callingH (hG _ _ _ _) ?_ | refine calling (hR1) ?_ | refine callingH (hR1) ?_ | refine calling (hX1) ?_ | refine callingH (hX1) ?_ | refine And.intro (by omega) ?_ | refine And.intro (fun d hd => by (repeat (rcases hd with rfl | hd; · exact ⟨rfl, rfl⟩)); cases hd) ?_))
            | true =>
              have he' : ((lineX (⟨k, uq1 a1, (uq1 a2), false, ⟨#[]⟩, (ud1 a3)⟩ : Opr)).toList != s.toList) = false := by simp [bne, he]
              (repeat (first | simp (maxSteps := 4000000) only [go_sem, ↓reduceIte, reduceCtorEq, Nat.reduceEqDiff, Nat.reduceBEq, Nat.reduceAdd, Nat.reduceSub, Nat.reduceMul, Nat.reduceLT, Nat.reduceLeDiff, Nat.reduceBNe, Int.reduceBEq, Int.reduceBNe, Int.reduceLT, Int.reduceLE, Opr.a, nul, z0, z1, z2, z3, g0, g1, g2, g3, n0, n1, n2, n3, m0, m1, m2, m3, List.length_map, hr, he, he', Opr.zero, Bool.false_and, Bool.true_and, hv, hg, h6, h4, hs2] | refine calling (hU1) ?_ | refine callingH (hU1) ?_ | refine calling (hU2) ?_ | refine callingH (hU2) ?_ | refine calling (hD3) ?_ | refine callingH (hD3) ?_ | refine calling (hV _ _ _ _) ?_ | refine callingH (hV _ _ _ _) ?_ | refine calling (hG _ _ _ _) ?_ | refine callingH (hG _ _ _ _) ?_ | refine calling (hR1) ?_ | refine callingH (hR1) ?_ | refine calling (hX1) ?_ | refine callingH (hX1) ?_ | refine And.intro (by omega) ?_ | refine And.intro (fun d hd => by (repeat (rcases hd with rfl | hd; · exact ⟨rfl, rfl⟩)); cases hd) ?_))
end
section
/-
  An event's line, how it is read, and that it is read as it was: the plain law.
-/
open Go.RowKit Go.Lib
set_option linter.unusedVariables false
set_option linter.unusedSimpArgs false
set_option maxRecDepth 100000
structure Ans where
  err : Int
  has : Bool
  val : ByteArray
  prs : List Par
def Ans.a (x : Ans) : AV := .agg [.int .i64 x.err, .bool x.has, .str x.val, .sl (x.prs.map Par.a)]
def Ans.zero : Ans := ⟨0, false, nul, []⟩
structure Evt where
  client : Int
  op : Opr
  ans : Ans
  began : Int
  point : Int
  ended : Int
  done : Bool
def Evt.a (x : Evt) : AV := .agg [.int .i64 x.client, .int .i64 x.op.kind, .str x.op.key, .str x.op.hi, .bool x.op.op, .str x.op.val, .int .i64 x.op.lim, .int .i64 x.ans.err, .bool x.ans.has, .str x.ans.val, .sl (x.ans.prs.map Par.a), .int .i64 x.began, .int .i64 x.point, .int .i64 x.ended, .bool x.done]
def Evt.zero : Evt := ⟨0, Opr.zero, Ans.zero, 0, 0, 0, false⟩
def errB : ByteArray := ⟨#[101, 114, 114, 111, 114]⟩
def hasB : ByteArray := ⟨#[104, 97, 115]⟩
def noneB : ByteArray := ⟨#[110, 111, 110, 101]⟩
def prsB : ByteArray := ⟨#[112, 97, 105, 114, 115]⟩
def okB : ByteArray := ⟨#[111, 107]⟩
def yesB : ByteArray := ⟨#[121, 101, 115]⟩
def noB : ByteArray := ⟨#[110, 111]⟩
def dashB : ByteArray := ⟨#[45]⟩
def colB : ByteArray := ⟨#[58]⟩
/-- an answer's words -/
def ansW (o : Opr) (a : Ans) : List ByteArray :=
  if a.err = 0 then (if o.kind = 5 then (if a.has then [hasB, quoteF a.val] else [noneB]) else if o.kind = 6 then prsB :: decS a.prs.length :: a.prs.map Par.w else [okB]) else [errB, decS a.err]
def ansL (o : Opr) (a : Ans) : ByteArray := joinB (ansW o a) (⟨#[32]⟩ : ByteArray)
def headW (e : Evt) : List ByteArray := [decS e.client, decS e.began, decS e.point, decS e.ended, if e.done then yesB else noB]
def tailL (e : Evt) : ByteArray := if e.done then ansL e.op e.ans else dashB
def evF (e : Evt) : ByteArray := joinB (headW e ++ [colB, lineX e.op, colB, tailL e]) (⟨#[32]⟩ : ByteArray)
/-- what is ahead of the first mark, and what is behind it -/
def cutE (s : ByteArray) : ByteArray × ByteArray := (⟨(Lib.cut s.data.toList [61]).1.toArray⟩, ⟨(Lib.cut s.data.toList [61]).2.1.toArray⟩)
def pairP (s : ByteArray) : Par := ⟨uq1 (cutE s).1, uq1 (cutE s).2⟩
def toldW (l : List ByteArray) : Ans :=
  if ((l.getD 0 nul).toList == errB.toList) = true ∧ l.length = 2 then ⟨ud1 (l.getD 1 nul), false, nul, []⟩
  else if ((l.getD 0 nul).toList == hasB.toList) = true ∧ l.length = 2 then ⟨0, true, uq1 (l.getD 1 nul), []⟩
  else if ((l.getD 0 nul).toList == prsB.toList) = true ∧ 1 < l.length then ⟨0, false, nul, (l.drop 2).map pairP⟩
  else Ans.zero
def wordsL' (s : ByteArray) : List ByteArray := (wl s.data.toList).map wb
def toldF (s : ByteArray) : Ans := toldW (wordsL' s)
/-- do pairs rise, and are they short? -/
def rightP : List Par → Bool
  | [] => true
  | [p] => decide (p.key.size ≤ 16) && decide (p.val.size ≤ 16)
  | p :: q :: l => decide (p.key.size ≤ 16) && decide (p.val.size ≤ 16) && Op.bytesLess p.key.toList q.key.toList && rightP (q :: l)
/-- the event that three parts are -/
def readE (h o t : ByteArray) : Evt :=
  let l := wordsL' h ++ [nul, nul, nul, nul, nul]
  let d := (l.getD 4 nul).toList == yesB.toList
  ⟨ud1 (l.getD 0 nul), (parseF o).1, if d then toldF t else Ans.zero, ud1 (l.getD 1 nul), ud1 (l.getD 2 nul), ud1 (l.getD 3 nul), d⟩
def readOk (e : Evt) (s : ByteArray) : Bool := ((evF e).toList == s.toList) && rightP e.ans.prs && decide (e.ans.val.size ≤ 16)
def parseE (s : ByteArray) : Evt × Bool :=
  match splitL s (⟨#[32, 58, 32]⟩ : ByteArray) with
  | [h, o, t] => if readOk (readE h o t) s then (readE h o t, true) else (Evt.zero, false)
  | _ => (Evt.zero, false)
/-- no word has a blank, a colon or a mark -/
def sepC (c : UInt8) : Prop := c = 32 ∨ c = 58 ∨ c = 61
theorem plain_noC : ∀ c : UInt8, plainB c = true → c ≠ 32 ∧ c ≠ 58 ∧ c ≠ 61 := forall_u8 (by decide +kernel)
theorem hex_noC : ∀ n : Fin 16, hexD n.val ≠ 32 ∧ hexD n.val ≠ 58 ∧ hexD n.val ≠ 61 := by decide +kernel
theorem plain_sep {c d : UInt8} (hc : sepC c) (h : plainB d = true) : d ≠ c := by
  obtain ⟨a, b, e⟩ := plain_noC d h
  rcases hc with rfl | rfl | rfl
  · exact a
  · exact b
  · exact e
theorem hex_sep {c : UInt8} (hc : sepC c) (n : Nat) (h : n < 16) : hexD n ≠ c := by
  obtain ⟨a, b, e⟩ := hex_noC ⟨n, h⟩
  rcases hc with rfl | rfl | rfl
  · exact a
  · exact b
  · exact e
theorem quoteL_noC {c : UInt8} (hc : sepC c) : ∀ l : List UInt8, c ∉ quoteL l
  | [] => by simp [quoteL]
  | d :: l => by
    have ih := quoteL_noC hc l
    have hd := d.toNat_lt
    rw [quoteL]
    intro h
    rcases List.mem_append.1 h with h | h
    · cases hp : plainB d with
      | true =>
        rw [hp, if_pos rfl] at h
        exact plain_sep hc hp (List.mem_singleton.1 h).symm
      | false =>
        rw [hp, if_neg (by simp)] at h
        rcases List.mem_cons.1 h with h | h
        · rcases hc with rfl | rfl | rfl <;> exact absurd h (by decide)
        · rcases List.mem_cons.1 h with h | h
          · exact hex_sep hc _ (by omega) h.symm
          · exact hex_sep hc _ (by omega) (List.mem_singleton.1 h).symm
    · exact ih h
theorem quoteF_noC {c : UInt8} (hc : sepC c) (s : ByteArray) : c ∉ (quoteF s).data.toList := by
  rw [quoteF_list]
  split
  · rcases hc with rfl | rfl | rfl <;> decide
  · exact quoteL_noC hc _
theorem dig_noC {c : UInt8} (hc : sepC c) (d : Nat) (h : d < 10) : c ≠ UInt8.ofNat (48 + d) := by
  intro e
  have := congrArg UInt8.toNat e
  have h2 := dig_nat d h
  rw [← this] at h2
  have a : ((32 : UInt8).toNat : Int) = 32 := rfl
  have b : ((58 : UInt8).toNat : Int) = 58 := rfl
  have f : ((61 : UInt8).toNat : Int) = 61 := rfl
  rcases hc with rfl | rfl | rfl <;> omega
theorem dd_noC {c : UInt8} (hc : sepC c) : ∀ u : Nat, c ∉ decDigits u := by
  intro u
  induction u using Nat.strongRecOn with
  | ind u ih =>
    by_cases h : u < 10
    · rw [dd_small u h]
      intro e
      exact dig_noC hc u h (List.mem_singleton.1 e)
    · rw [dd_step u h]
      intro e
      rcases List.mem_append.1 e with e | e
      · exact ih (u / 10) (by omega) e
      · exact dig_noC hc (u % 10) (by omega) (List.mem_singleton.1 e)
theorem decS_noC {c : UInt8} (hc : sepC c) (n : Int) (h : 0 ≤ n) : c ∉ (decS n).data.toList := by
  rw [decS_list n h]; exact dd_noC hc _
theorem app_list (a b : ByteArray) : (a ++ b).data.toList = a.data.toList ++ b.data.toList := by rw [ByteArray.data_append, Array.toList_append]
theorem parW_list (p : Par) : p.w.data.toList = (quoteF p.key).data.toList ++ (61 :: (quoteF p.val).data.toList) := by
  unfold Par.w
  rw [app_list, app_list, List.append_assoc]; rfl
theorem parW_noC {c : UInt8} (hc : c = 32 ∨ c = 58) (p : Par) : c ∉ p.w.data.toList := by
  have hs : sepC c := by rcases hc with h | h <;> simp [sepC, h]
  rw [parW_list]
  intro h
  rcases List.mem_append.1 h with h | h
  · exact quoteF_noC hs _ h
  · rcases List.mem_cons.1 h with h | h
    · rcases hc with rfl | rfl <;> exact absurd h (by decide)
    · exact quoteF_noC hs _ h
/-- a word that stands for itself -/
theorem lit_noC {b : ByteArray} {c : UInt8} (hc : sepC c) (h : (b.data.toList.all fun d => !(d == 32 || d == 58 || d == 61)) = true) : c ∉ b.data.toList := by
  intro hm
  have := List.all_eq_true.1 h c hm
  rcases hc with rfl | rfl | rfl <;> exact absurd this (by decide)
def nearP (n : Int) : Prop := 0 ≤ n ∧ n ≤ 999999999
theorem ansW_noC {c : UInt8} (hc : c = 32 ∨ c = 58) (o : Opr) (a : Ans) (h : 0 ≤ a.err) : ∀ x, x ∈ ansW o a → c ∉ x.data.toList := by
  have hs : sepC c := by rcases hc with h | h <;> simp [sepC, h]
  intro x hx
  unfold ansW at hx
  split at hx
  · split at hx
    · split at hx
      · rcases List.mem_cons.1 hx with rfl | hx
        · exact lit_noC hs (by decide)
        · rw [List.mem_singleton.1 hx]; exact quoteF_noC hs _
      · rw [List.mem_singleton.1 hx]; exact lit_noC hs (by decide)
    · split at hx
      · rcases List.mem_cons.1 hx with rfl | hx
        · exact lit_noC hs (by decide)
        · rcases List.mem_cons.1 hx with rfl | hx
          · exact decS_noC hs _ (by omega)
          · obtain ⟨p, _, rfl⟩ := List.mem_map.1 hx
            exact parW_noC hc p
      · rw [List.mem_singleton.1 hx]; exact lit_noC hs (by decide)
  · rcases List.mem_cons.1 hx with rfl | hx
    · exact lit_noC hs (by decide)
    · rw [List.mem_singleton.1 hx]; exact decS_noC hs _ h
theorem join_mem {c : UInt8} {sep : List UInt8} (h1 : c ∉ sep) : ∀ {l : List (List UInt8)}, (∀ x, x ∈ l → c ∉ x) → c ∉ Lib.joinTail sep l
  | [], _ => by simp [Lib.joinTail]
  | y :: l, h => by
    show c ∉ (sep ++ y) ++ Lib.joinTail sep l
    intro e
    rcases List.mem_append.1 e with e | e
    · rcases List.mem_append.1 e with e | e
      · exact h1 e
      · exact h y (List.mem_cons_self ..) e
    · exact join_mem h1 (fun x hx => h x (List.mem_cons_of_mem _ hx)) e
theorem joinB_noC {c : UInt8} (hc : c ≠ 32) (l : List ByteArray) (h : ∀ x, x ∈ l → c ∉ x.data.toList) : c ∉ (joinB l (⟨#[32]⟩ : ByteArray)).data.toList := by
  show c ∉ Lib.join (l.map (·.data.toList)) [32]
  cases l with
  | nil => simp [Lib.join]
  | cons y l =>
    rw [List.map_cons, Lib.join_cons]
    intro e
    rcases List.mem_append.1 e with e | e
    · exact h y (List.mem_cons_self ..) e
    · refine join_mem (by simpa using hc) (fun x hx => ?_) e
      obtain ⟨z, hz, rfl⟩ := List.mem_map.1 hx
      exact h z (List.mem_cons_of_mem _ hz)
theorem ansL_no58 (o : Opr) (a : Ans) (h : 0 ≤ a.err) : (58 : UInt8) ∉ (ansL o a).data.toList := joinB_noC (by decide) _ (ansW_noC (.inr rfl) o a h)
theorem ansL_words (o : Opr) (a : Ans) (h : 0 ≤ a.err) : wordsL' (ansL o a) = ansW o a := by
  have hn := ansW_noC (.inl rfl) o a h
  have : ∃ w ws, ansW o a = w :: ws := by
    unfold ansW
    split
    · split
      · split <;> exact ⟨_, _, rfl⟩
      · split <;> exact ⟨_, _, rfl⟩
    · exact ⟨_, _, rfl⟩
  obtain ⟨w, ws, e⟩ := this
  unfold wordsL' ansL
  rw [e] at hn ⊢
  rw [wl_joinB w ws hn, List.map_cons, List.map_map, wb_data]
  congr 1
  conv => rhs; rw [← List.map_id ws]
  exact List.map_congr_left fun x _ => wb_data x
theorem index_at {c : UInt8} : ∀ {a : List UInt8} (r : List UInt8), c ∉ a → Lib.index (a ++ c :: r) [c] = a.length
  | [], r, _ => by rw [List.nil_append, Lib.index]; simp [List.isPrefixOf]
  | d :: a, r, h => by
    have h1 : c ≠ d := fun e => h (by rw [e]; exact List.mem_cons_self ..)
    have ih := index_at (a := a) r (fun e => h (List.mem_cons_of_mem _ e))
    rw [List.cons_append, Lib.index, ih]
    have hp : ([c] : List UInt8).isPrefixOf (d :: (a ++ c :: r)) = false := by simp [List.isPrefixOf, h1]
    rw [hp]
    have hne : ¬ ((a.length : Int) == -1) = true := by simp
    simp [hne]
theorem cut_at {a : List UInt8} (r : List UInt8) (h : (61 : UInt8) ∉ a) : Lib.cut (a ++ 61 :: r) [61] = (a, r, true) := by
  unfold Lib.cut
  rw [index_at r h, if_pos (by omega), Int.toNat_natCast, List.take_left, List.length_singleton]
  rw [show a ++ 61 :: r = (a ++ [61]) ++ r by simp, show a.length + 1 = (a ++ [61]).length by simp, List.drop_left]
theorem pairP_w (p : Par) : pairP p.w = p := by
  have h : Lib.cut p.w.data.toList [61] = ((quoteF p.key).data.toList, (quoteF p.val).data.toList, true) := by
    rw [parW_list, cut_at _ (quoteF_noC (.inr (.inr rfl)) _)]
  unfold pairP cutE
  rw [h]
  show (⟨uq1 (quoteF p.key), uq1 (quoteF p.val)⟩ : Par) = p
  rw [uq1_quote, uq1_quote]
/-- what an answer's line is read as -/
def normA (o : Opr) (a : Ans) : Ans :=
  if a.err = 0 then (if o.kind = 5 then (if a.has then ⟨0, true, a.val, []⟩ else Ans.zero) else if o.kind = 6 then ⟨0, false, nul, a.prs⟩ else Ans.zero) else ⟨ud1 (decS a.err), false, nul, []⟩
theorem told_ans (o : Opr) (a : Ans) (h : 0 ≤ a.err) : toldF (ansL o a) = normA o a := by
  unfold toldF
  rw [ansL_words o a h]
  have e1 : (errB.toList == errB.toList) = true := beq_self_eq_true _
  have e2 : (hasB.toList == hasB.toList) = true := beq_self_eq_true _
  have e3 : (prsB.toList == prsB.toList) = true := beq_self_eq_true _
  have n1 : ¬ (hasB.toList == errB.toList) = true := by decide +kernel
  have n2 : ¬ (noneB.toList == errB.toList) = true := by decide +kernel
  have n3 : ¬ (noneB.toList == hasB.toList) = true := by decide +kernel
  have n4 : ¬ (noneB.toList == prsB.toList) = true := by decide +kernel
  have n5 : ¬ (okB.toList == errB.toList) = true := by decide +kernel
  have n6 : ¬ (okB.toList == hasB.toList) = true := by decide +kernel
  have n7 : ¬ (okB.toList == prsB.toList) = true := by decide +kernel
  have n8 : ¬ (prsB.toList == errB.toList) = true := by decide +kernel
  have n9 : ¬ (prsB.toList == hasB.toList) = true := by decide +kernel
  unfold ansW normA
  by_cases g0 : a.err = 0
  · rw [if_pos g0, if_pos g0]
    by_cases g5 : o.kind = 5
    · rw [if_pos g5, if_pos g5]
      cases a.has with
      | true =>
        rw [if_pos rfl, if_pos rfl]
        show toldW [hasB, quoteF a.val] = _
        unfold toldW
        rw [if_neg (fun e => n1 e.1), if_pos ⟨e2, rfl⟩]
        show (⟨0, true, uq1 (quoteF a.val), []⟩ : Ans) = _
        rw [uq1_quote]
      | false =>
        rw [if_neg (by simp), if_neg (by simp)]
        unfold toldW
        rw [if_neg (fun e => n2 e.1), if_neg (fun e => n3 e.1), if_neg (fun e => n4 e.1)]
    · rw [if_neg g5, if_neg g5]
      by_cases g6 : o.kind = 6
      · rw [if_pos g6, if_pos g6]
        unfold toldW
        rw [if_neg (fun e => n8 e.1), if_neg (fun e => n9 e.1), if_pos ⟨e3, by simp⟩]
        show (⟨0, false, nul, (a.prs.map Par.w).map pairP⟩ : Ans) = _
        rw [List.map_map]
        congr 1
        conv => rhs; rw [← List.map_id a.prs]
        exact List.map_congr_left fun x _ => pairP_w x
      · rw [if_neg g6, if_neg g6]
        unfold toldW
        rw [if_neg (fun e => n5 e.1), if_neg (fun e => n6 e.1), if_neg (fun e => n7 e.1)]
  · rw [if_neg g0, if_neg g0]
    unfold toldW
    rw [if_pos ⟨e1, rfl⟩]
    rfl
/-- a line's three parts -/
def sepE : List UInt8 := [32, 58, 32]
theorem index3_at : ∀ {a : List UInt8} (r : List UInt8), (58 : UInt8) ∉ a → Lib.index (a ++ 32 :: 58 :: 32 :: r) sepE = a.length
  | [], r, _ => by rw [List.nil_append, Lib.index]; simp [List.isPrefixOf, sepE]
  | d :: a, r, h => by
    have ih := index3_at (a := a) r (fun e => h (List.mem_cons_of_mem _ e))
    rw [List.cons_append, Lib.index, ih]
    have hp : sepE.isPrefixOf (d :: (a ++ 32 :: 58 :: 32 :: r)) = false := by
      cases a with
      | nil => simp [List.isPrefixOf, sepE]
      | cons b a =>
        have h1 : (58 : UInt8) ≠ b := fun e => h (by rw [e]; exact List.mem_cons_of_mem _ (List.mem_cons_self ..))
        simp [List.isPrefixOf, sepE, h1]
    rw [hp]
    have hne : ¬ ((a.length : Int) == -1) = true := by simp
    simp [hne]
theorem index3_no : ∀ {a : List UInt8}, (58 : UInt8) ∉ a → Lib.index a sepE = -1
  | [], _ => by rw [Lib.index]; simp [List.isPrefixOf, sepE]
  | d :: a, h => by
    have ih := index3_no (a := a) (fun e => h (List.mem_cons_of_mem _ e))
    rw [Lib.index, ih]
    have hp : sepE.isPrefixOf (d :: a) = false := by
      cases a with
      | nil => simp [List.isPrefixOf, sepE]
      | cons b a =>
        have h1 : (58 : UInt8) ≠ b := fun e => h (by rw [e]; exact List.mem_cons_of_mem _ (List.mem_cons_self ..))
        simp [List.isPrefixOf, sepE, h1]
    rw [hp]
    simp
def sep3 : ByteArray := ⟨#[32, 58, 32]⟩
theorem sep3_list : sep3.data.toList = sepE := rfl
theorem sz_list (s : ByteArray) : s.size = s.data.toList.length := by rw [Array.length_toList]; rfl
theorem hit3 (a r : ByteArray) (h : (58 : UInt8) ∉ a.data.toList) : Lib.indexB (a ++ (sep3 ++ r)) sep3 = a.size := by
  show Lib.index (a ++ (sep3 ++ r)).data.toList sepE = _
  rw [app_list, app_list, sep3_list, sz_list]
  exact index3_at _ h
theorem ext_left (a b : ByteArray) : (a ++ b).extract 0 a.size = a := by
  apply ba_ext
  rw [ext_list, app_list, sz_list, List.take_left, List.drop_zero]
theorem ext_right (a b : ByteArray) : (a ++ b).extract a.size (a ++ b).size = b := by
  apply ba_ext
  rw [ext_list, sz_list (a ++ b), app_list, List.take_of_length_le (Nat.le_refl _), sz_list, List.drop_left]
theorem split3_cons (a r : ByteArray) (h : (58 : UInt8) ∉ a.data.toList) : splitL (a ++ (sep3 ++ r)) sep3 = a :: splitL r sep3 := by
  have hi := hit3 a r h
  have h1 : 1 ≤ sep3.size := by decide
  have he : (a ++ (sep3 ++ r)).extract (a.size + sep3.size) (a ++ (sep3 ++ r)).size = r := by
    have := ext_right (a ++ sep3) r
    rw [ByteArray.size_append (a := a) (b := sep3), ba_assoc] at this
    exact this
  unfold splitL
  rw [Lib.countB_hit _ sep3 a.size h1 hi, he, Nat.add_comm, Lib.splitB_hit sep3 0 _ _ a.size hi, he, Nat.add_zero, ext_left]
theorem split3_last (a : ByteArray) (h : (58 : UInt8) ∉ a.data.toList) : splitL a sep3 = [a] := by
  have hm : Lib.indexB a sep3 = -1 := index3_no h
  unfold splitL
  rw [Lib.splitB_miss sep3 0 _ a hm]
theorem joinB_two (l : List ByteArray) (x y s : ByteArray) (h : l ≠ []) : joinB (l ++ [colB, x, colB, y]) s = joinB l s ++ ((s ++ colB ++ s) ++ (x ++ ((s ++ colB ++ s) ++ y))) := by
  cases l with
  | nil => exact absurd rfl h
  | cons w l =>
    rw [List.cons_append, joinB_cat, joinB_cat, catF_app]
    simp only [catF, ba_assoc, ba_nil]
theorem evF_parts (e : Evt) : evF e = joinB (headW e) (⟨#[32]⟩ : ByteArray) ++ (sep3 ++ (lineX e.op ++ (sep3 ++ tailL e))) := by
  unfold evF
  rw [joinB_two _ _ _ _ (by unfold headW; simp)]
  rw [show (⟨#[32]⟩ : ByteArray) ++ colB ++ (⟨#[32]⟩ : ByteArray) = sep3 by decide +kernel]
theorem lineX_no58 (o : Opr) : (58 : UInt8) ∉ (lineX o).data.toList := by
  unfold lineX
  cases hr : o.right with
  | false => rw [if_neg (by simp)]; decide
  | true =>
    rw [if_pos rfl]
    obtain ⟨p1, p2, _, _, _, _, _, _, p4⟩ := right_parts hr
    unfold lineO
    refine joinB_noC (by decide) _ fun x hx => ?_
    have h58 : sepC 58 := .inr (.inl rfl)
    unfold lineW at hx
    rcases List.mem_append.1 hx with h | h
    · rcases List.mem_append.1 h with h | h
      · rcases List.mem_cons.1 h with rfl | h
        · unfold kindW
          repeat' split
          all_goals decide
        · rw [List.mem_singleton.1 h]; exact quoteF_noC h58 _
      · split at h
        · rw [List.mem_singleton.1 h]; exact quoteF_noC h58 _
        · split at h
          · split at h
            · rw [List.mem_singleton.1 h]; decide
            · rw [List.mem_singleton.1 h]; exact quoteF_noC h58 _
          · simp at h
    · split at h
      · rename_i h6
        rw [h6] at p4
        have : 1 ≤ o.lim ∧ o.lim ≤ 64 := by simpa using p4
        rw [List.mem_singleton.1 h]; exact decS_noC h58 _ (by omega)
      · simp at h
structure NearE (e : Evt) : Prop where
  c : nearP e.client
  b : nearP e.began
  p : nearP e.point
  n : nearP e.ended
theorem headW_noC {c : UInt8} (hc : sepC c) (e : Evt) (h : NearE e) : ∀ x, x ∈ headW e → c ∉ x.data.toList := by
  intro x hx
  unfold headW at hx
  simp only [List.mem_cons, List.not_mem_nil, or_false] at hx
  rcases hx with rfl | rfl | rfl | rfl | rfl
  · exact decS_noC hc _ h.c.1
  · exact decS_noC hc _ h.b.1
  · exact decS_noC hc _ h.p.1
  · exact decS_noC hc _ h.n.1
  · split
    · exact lit_noC hc (by decide)
    · exact lit_noC hc (by decide)
theorem split_ev (e : Evt) (h : NearE e) (ha : 0 ≤ e.ans.err) : splitL (evF e) (⟨#[32, 58, 32]⟩ : ByteArray) = [joinB (headW e) (⟨#[32]⟩ : ByteArray), lineX e.op, tailL e] := by
  have ht : (58 : UInt8) ∉ (tailL e).data.toList := by
    unfold tailL
    split
    · exact ansL_no58 _ _ ha
    · decide
  show splitL (evF e) sep3 = _
  rw [evF_parts, split3_cons _ _ (joinB_noC (by decide) _ (headW_noC (.inr (.inl rfl)) e h)), split3_cons _ _ (lineX_no58 _), split3_last _ ht]
theorem head_words (e : Evt) (h : NearE e) : wordsL' (joinB (headW e) (⟨#[32]⟩ : ByteArray)) = headW e := by
  have hn := headW_noC (c := 32) (.inl rfl) e h
  unfold wordsL'
  unfold headW at hn ⊢
  rw [wl_joinB _ _ hn, List.map_cons, List.map_map, wb_data]
  congr 1
theorem read_ev (e : Evt) (h : NearE e) (ha : 0 ≤ e.ans.err) : readE (joinB (headW e) (⟨#[32]⟩ : ByteArray)) (lineX e.op) (tailL e) = ⟨e.client, (parseF (lineX e.op)).1, if e.done then normA e.op e.ans else Ans.zero, e.began, e.point, e.ended, e.done⟩ := by
  have hd : ((if e.done then yesB else noB).toList == yesB.toList) = e.done := by
    cases e.done
    · decide +kernel
    · exact beq_self_eq_true _
  unfold readE
  rw [head_words e h]
  simp only [headW, List.cons_append, List.getD_cons_zero, List.getD_cons_succ]
  rw [hd, ud1_dec _ h.c.1 h.c.2, ud1_dec _ h.b.1 h.b.2, ud1_dec _ h.p.1 h.p.2, ud1_dec _ h.n.1 h.n.2]
  congr 1
  cases hd : e.done with
  | false => rfl
  | true =>
    rw [if_pos rfl, if_pos rfl]
    unfold tailL
    rw [hd, if_pos rfl, told_ans _ _ ha]
/-- what a line can tell of an answer -/
def wantA (e : Evt) : Ans :=
  if e.done then (if e.ans.err = 0 then (if e.op.kind = 5 then (if e.ans.has then ⟨0, true, e.ans.val, []⟩ else Ans.zero) else if e.op.kind = 6 then ⟨0, false, nul, e.ans.prs⟩ else Ans.zero) else ⟨e.ans.err, false, nul, []⟩) else Ans.zero
def eqP (a b : Par) : Bool := (a.key.toList == b.key.toList) && (a.val.toList == b.val.toList)
def sameP : List Par → List Par → Bool
  | [], [] => true
  | a :: l, b :: m => eqP a b && sameP l m
  | _, _ => false
def sameA (a b : Ans) : Bool := (a.err == b.err) && (a.has == b.has) && (a.val.toList == b.val.toList) && sameP a.prs b.prs
def eqO (a b : Opr) : Bool := (a.kind == b.kind) && (a.key.toList == b.key.toList) && (a.hi.toList == b.hi.toList) && (a.op == b.op) && (a.val.toList == b.val.toList) && (a.lim == b.lim)
def sameE (a b : Evt) : Bool := (a.client == b.client) && eqO a.op b.op && sameA a.ans b.ans && (a.began == b.began) && (a.point == b.point) && (a.ended == b.ended) && (a.done == b.done)
theorem ba_beq {a b : ByteArray} : (a.toList == b.toList) = true ↔ a = b := by
  rw [ByteArray.toList_eq, ByteArray.toList_eq]
  constructor
  · intro h
    exact ba_ext (beq_iff_eq.1 h)
  · rintro rfl; exact beq_self_eq_true _
theorem eqP_iff {a b : Par} : eqP a b = true ↔ a = b := by
  unfold eqP
  rw [Bool.and_eq_true, ba_beq, ba_beq]
  constructor
  · rintro ⟨h1, h2⟩
    cases a; cases b; simp only at h1 h2; rw [h1, h2]
  · rintro rfl; exact ⟨rfl, rfl⟩
theorem sameP_iff : ∀ {a b : List Par}, sameP a b = true ↔ a = b
  | [], [] => by simp [sameP]
  | [], _ :: _ => by simp [sameP]
  | _ :: _, [] => by simp [sameP]
  | x :: l, y :: m => by
    show (eqP x y && sameP l m) = true ↔ _
    rw [Bool.and_eq_true, eqP_iff, sameP_iff (a := l), List.cons.injEq]
theorem sameA_iff {a b : Ans} : sameA a b = true ↔ a = b := by
  unfold sameA
  simp only [Bool.and_eq_true, ba_beq, sameP_iff]; simp only [beq_iff_eq]
  constructor
  · rintro ⟨⟨⟨h1, h2⟩, h3⟩, h4⟩
    cases a; cases b; simp only at h1 h2 h3 h4; rw [h1, h2, h3, h4]
  · rintro rfl; exact ⟨⟨⟨rfl, rfl⟩, rfl⟩, rfl⟩
theorem eqO_iff {a b : Opr} : eqO a b = true ↔ a = b := by
  unfold eqO
  simp only [Bool.and_eq_true, ba_beq]; simp only [beq_iff_eq]
  constructor
  · rintro ⟨⟨⟨⟨⟨h1, h2⟩, h3⟩, h4⟩, h5⟩, h6⟩
    cases a; cases b; simp only at h1 h2 h3 h4 h5 h6; rw [h1, h2, h3, h4, h5, h6]
  · rintro rfl; exact ⟨⟨⟨⟨⟨rfl, rfl⟩, rfl⟩, rfl⟩, rfl⟩, rfl⟩
theorem sameE_refl (a : Evt) : sameE a a = true := by
  unfold sameE
  simp only [Bool.and_eq_true, beq_iff_eq, eqO_iff, sameA_iff, and_self]
def nearB (n : Int) : Bool := decide (0 ≤ n) && decide (n ≤ 999999999)
theorem nearB_iff {n : Int} : nearB n = true ↔ nearP n := by unfold nearB nearP; simp
/-- does an event's line tell all of it? -/
def toldB (e : Evt) : Bool :=
  nearB e.client && nearB e.began && nearB e.point && nearB e.ended && (eqO e.op Opr.zero || e.op.right) &&
  (sameA e.ans (wantA e) && nearB (wantA e).err && decide ((wantA e).val.size ≤ 16) && rightP (wantA e).prs)
theorem parse_no' {s : ByteArray} (h : (parseF s).2 = false) : (parseF s).1 = Opr.zero := by
  unfold parseF at h ⊢
  simp only at h ⊢
  split at h
  · cases h
  · rename_i hc; rw [if_neg hc]
theorem lineX_zero : (parseF (lineX Opr.zero)).1 = Opr.zero := by
  have h : lineX Opr.zero = ⟨#[98, 97, 100]⟩ := by decide +kernel
  rw [h]
  refine parse_no' ?_
  have h : (parseO (wordsP ⟨#[98, 97, 100]⟩)).right = false := by decide +kernel
  unfold parseF
  simp only
  rw [h]; rfl
theorem told_read {e : Evt} (h : toldB e = true) : parseE (evF e) = (e, true) := by
  unfold toldB at h
  simp only [Bool.and_eq_true, Bool.or_eq_true, nearB_iff, eqO_iff, sameA_iff, decide_eq_true_eq] at h
  obtain ⟨⟨⟨⟨⟨h1, h2⟩, h3⟩, h4⟩, h5⟩, ⟨⟨h6, h7⟩, h8⟩, h9⟩ := h
  have hN : NearE e := ⟨h1, h2, h3, h4⟩
  rw [← h6] at h7 h8 h9
  have ho : (parseF (lineX e.op)).1 = e.op := by
    rcases h5 with h5 | h5
    · rw [h5]; exact lineX_zero
    · rw [parse_line _ h5]
  have ha : (if e.done then normA e.op e.ans else Ans.zero) = e.ans := by
    have hw := h6
    unfold wantA at hw
    cases hd : e.done with
    | false =>
      rw [hd, if_neg (by simp)] at hw
      rw [if_neg (by simp)]; exact hw.symm
    | true =>
      rw [hd, if_pos rfl] at hw
      rw [if_pos rfl]
      unfold normA
      by_cases g0 : e.ans.err = 0
      · rw [if_pos g0] at hw ⊢
        exact hw.symm
      · rw [if_neg g0] at hw ⊢
        rw [ud1_dec _ h7.1 h7.2]
        exact hw.symm
  have hr := read_ev e hN h7.1
  rw [ho, ha] at hr
  have hr' : readE (joinB (headW e) (⟨#[32]⟩ : ByteArray)) (lineX e.op) (tailL e) = e := hr
  have hok : readOk e (evF e) = true := by
    unfold readOk
    simp only [Bool.and_eq_true, decide_eq_true_eq]
    exact ⟨⟨beq_self_eq_true _, h9⟩, h8⟩
  unfold parseE
  rw [split_ev e hN h7.1]
  simp only [hr', hok, if_true]
theorem udGo_top : ∀ (l : List UInt8) (n m : Int), 0 ≤ n → udGo l n = some m → m < (n + 1) * 10 ^ l.length
  | [], n, m, h0, e => by cases e; simp; omega
  | c :: l, n, m, h0, e => by
    rw [udGo] at e
    split at e
    · cases e
    · split at e
      · cases e
      · rename_i g1 g2
        have := udGo_top l _ m (by omega) e
        refine Int.lt_of_lt_of_le this ?_
        rw [List.length_cons, Int.pow_succ, Int.mul_comm (10 ^ l.length) 10, ← Int.mul_assoc]
        refine Int.mul_le_mul_of_nonneg_right (by omega) (Int.le_of_lt (Int.pow_pos (by omega)))
theorem ud1_near (s : ByteArray) : nearP (ud1 s) := by
  unfold ud1 udF
  split
  · rename_i h
    split at h
    · cases h; exact ⟨by omega, by omega⟩
    · rename_i hc
      cases hu : udGo s.data.toList 0 with
      | none => rw [hu] at h; cases h; exact ⟨by omega, by omega⟩
      | some m =>
        rw [hu] at h; cases h
        have a := udGo_nn _ _ _ (by omega) hu
        have b := udGo_top _ _ _ (by omega) hu
        refine ⟨a, ?_⟩
        have hl : s.data.toList.length ≤ 9 := by rw [← sz_list]; omega
        have hp : ((10 : Int)) ^ s.data.toList.length ≤ 10 ^ 9 := by
          have := Nat.pow_le_pow_right (n := 10) (by omega) hl
          exact_mod_cast this
        have : ((10 : Int)) ^ 9 = 1000000000 := by decide
        omega
  · exact ⟨by omega, by omega⟩
theorem toldF_near (t : ByteArray) : nearP (toldF t).err := by
  have z : nearP 0 := ⟨by omega, by omega⟩
  unfold toldF toldW
  split
  · exact ud1_near _
  · split
    · exact z
    · split
      · exact z
      · exact z
theorem read_told {s : ByteArray} {y : Evt} (h : parseE s = (y, true)) : toldB y = true ∧ evF y = s := by
  unfold parseE at h
  split at h
  case h_2 => cases h
  rename_i hd o t hs
  split at h
  case isFalse => cases h
  rename_i hok
  obtain rfl : readE hd o t = y := by cases h; rfl
  generalize hy : readE hd o t = y at hok ⊢
  have hN : NearE y := by
    rw [← hy]
    exact ⟨ud1_near _, ud1_near _, ud1_near _, ud1_near _⟩
  have hA : nearP y.ans.err := by
    rw [← hy]
    unfold readE
    simp only
    split
    · exact toldF_near _
    · exact ⟨by decide, by decide⟩
  have hO : y.op = Opr.zero ∨ y.op.right = true := by
    rw [← hy]
    show (parseF o).1 = Opr.zero ∨ (parseF o).1.right = true
    cases hp : (parseF o).2 with
    | false => exact .inl (parse_no' hp)
    | true => exact .inr (parse_of hp).1
  unfold readOk at hok
  simp only [Bool.and_eq_true, decide_eq_true_eq, ba_beq] at hok
  obtain ⟨⟨hl, hp⟩, hv⟩ := hok
  have hsp := split_ev y hN hA.1
  rw [hl, hs] at hsp
  obtain ⟨_, _, rfl⟩ : hd = joinB (headW y) (⟨#[32]⟩ : ByteArray) ∧ o = lineX y.op ∧ t = tailL y := by
    simp only [List.cons.injEq, and_true] at hsp
    exact hsp
  have hw : y.ans = wantA y := by
    have ha : y.ans = if y.done then toldF (tailL y) else Ans.zero := by
      have e1 := congrArg Evt.ans hy
      have e2 := congrArg Evt.done hy
      rw [← e1]
      unfold readE at e2 ⊢
      simp only at e2 ⊢
      rw [e2]
    cases hd : y.done with
    | false =>
      rw [hd, if_neg (by simp)] at ha
      unfold wantA
      rw [hd, if_neg (by simp), ha]
    | true =>
      unfold tailL at ha
      rw [hd, if_pos rfl, if_pos rfl, told_ans _ _ hA.1] at ha
      unfold wantA
      rw [hd, if_pos rfl]
      unfold normA at ha
      by_cases g0 : y.ans.err = 0
      · rw [if_pos g0] at ha ⊢
        exact ha
      · rw [if_neg g0, ud1_dec _ hA.1 hA.2] at ha
        rw [if_neg g0]
        exact ha
  refine ⟨?_, hl⟩
  unfold toldB
  simp only [Bool.and_eq_true, Bool.or_eq_true, nearB_iff, eqO_iff, sameA_iff, decide_eq_true_eq]
  rw [← hw]
  exact ⟨⟨⟨⟨⟨hN.c, hN.b⟩, hN.p⟩, hN.n⟩, hO⟩, ⟨⟨rfl, hA⟩, hv⟩, hp⟩
theorem parse_noE {s : ByteArray} (h : (parseE s).2 = false) : (parseE s).1 = Evt.zero := by
  unfold parseE at h ⊢
  split
  · rename_i hd o t hs
    rw [hs] at h
    simp only at h
    split at h
    · cases h
    · rename_i hc; rw [if_neg hc]
  · rfl
end
section
/-
  Operations, answers, events: what came in of their types is such.
-/
open Go.RowKit
set_option linter.unusedVariables false
set_option linter.unusedSimpArgs false
set_option maxRecDepth 100000
structure Opr.ok (x : Opr) : Prop where
  kind : (-9223372036854775808 ≤ x.kind ∧ x.kind ≤ 9223372036854775807)
  key : x.key.size ≤ 281474976710656
  hi : x.hi.size ≤ 281474976710656
  op : True
  val : x.val.size ≤ 281474976710656
  lim : (-9223372036854775808 ≤ x.lim ∧ x.lim ≤ 9223372036854775807)
def OprT : Ty := .st [.int .i64, .str, .str, .bool, .str, .int .i64]
theorem Opr.of {c : List AV} (h : TypedC OprT c) : ∃ x : Opr, AV.agg c = x.a ∧ x.ok := by
  obtain ⟨c0, r0, rfl, h0, h⟩ := st_cons h
  obtain ⟨c1, r1, rfl, h1, h⟩ := st_cons h
  obtain ⟨c2, r2, rfl, h2, h⟩ := st_cons h
  obtain ⟨c3, r3, rfl, h3, h⟩ := st_cons h
  obtain ⟨c4, r4, rfl, h4, h⟩ := st_cons h
  obtain ⟨c5, r5, rfl, h5, h⟩ := st_cons h
  obtain rfl := st_nil h
  obtain ⟨v0, rfl, b0⟩ := int_inv h0
  obtain ⟨v1, rfl, b1⟩ := str_inv h1
  obtain ⟨v2, rfl, b2⟩ := str_inv h2
  obtain ⟨v3, rfl⟩ := bool_inv h3
  have b3 := True.intro
  obtain ⟨v4, rfl, b4⟩ := str_inv h4
  obtain ⟨v5, rfl, b5⟩ := int_inv h5
  exact ⟨⟨v0, v1, v2, v3, v4, v5⟩, rfl, ⟨b0, b1, b2, b3, b4, b5⟩⟩
structure Ans.ok (x : Ans) : Prop where
  err : (-9223372036854775808 ≤ x.err ∧ x.err ≤ 9223372036854775807)
  has : True
  val : x.val.size ≤ 281474976710656
  prs : (x.prs.length ≤ 281474976710656 ∧ ∀ z, z ∈ x.prs → z.ok)
def AnsT : Ty := .st [.int .i64, .bool, .str, .sl ParT]
theorem Ans.of {c : List AV} (h : TypedC AnsT c) : ∃ x : Ans, AV.agg c = x.a ∧ x.ok := by
  obtain ⟨c0, r0, rfl, h0, h⟩ := st_cons h
  obtain ⟨c1, r1, rfl, h1, h⟩ := st_cons h
  obtain ⟨c2, r2, rfl, h2, h⟩ := st_cons h
  obtain ⟨c3, r3, rfl, h3, h⟩ := st_cons h
  obtain rfl := st_nil h
  obtain ⟨v0, rfl, b0⟩ := int_inv h0
  obtain ⟨v1, rfl⟩ := bool_inv h1
  have b1 := True.intro
  obtain ⟨v2, rfl, b2⟩ := str_inv h2
  obtain ⟨v3, rfl, b3⟩ := sl_of Par.a Par.ok h3 (fun c hc => Par.of hc)
  exact ⟨⟨v0, v1, v2, v3⟩, rfl, ⟨b0, b1, b2, b3⟩⟩
structure Evt.ok (x : Evt) : Prop where
  client : (-9223372036854775808 ≤ x.client ∧ x.client ≤ 9223372036854775807)
  op : x.op.ok
  ans : x.ans.ok
  began : (-9223372036854775808 ≤ x.began ∧ x.began ≤ 9223372036854775807)
  point : (-9223372036854775808 ≤ x.point ∧ x.point ≤ 9223372036854775807)
  ended : (-9223372036854775808 ≤ x.ended ∧ x.ended ≤ 9223372036854775807)
  done : True
def EvtT : Ty := .st [.int .i64, OprT, AnsT, .int .i64, .int .i64, .int .i64, .bool]
theorem Evt.of {c : List AV} (h : TypedC EvtT c) : ∃ x : Evt, AV.agg c = x.a ∧ x.ok := by
  obtain ⟨c0, r0, rfl, h0, h⟩ := st_cons h
  obtain ⟨c1, r1, rfl, h1, h⟩ := st_cons h
  obtain ⟨c2, r2, rfl, h2, h⟩ := st_cons h
  obtain ⟨c3, r3, rfl, h3, h⟩ := st_cons h
  obtain ⟨c4, r4, rfl, h4, h⟩ := st_cons h
  obtain ⟨c5, r5, rfl, h5, h⟩ := st_cons h
  obtain ⟨c6, r6, rfl, h6, h⟩ := st_cons h
  obtain rfl := st_nil h
  obtain ⟨v0, rfl, b0⟩ := int_inv h0
  obtain ⟨v1, e1, b1⟩ := Opr.of h1
  cases e1
  obtain ⟨v2, e2, b2⟩ := Ans.of h2
  cases e2
  obtain ⟨v3, rfl, b3⟩ := int_inv h3
  obtain ⟨v4, rfl, b4⟩ := int_inv h4
  obtain ⟨v5, rfl, b5⟩ := int_inv h5
  obtain ⟨v6, rfl⟩ := bool_inv h6
  have b6 := True.intro
  exact ⟨⟨v0, v1, v2, v3, v4, v5, v6⟩, rfl, ⟨b0, b1, b2, b3, b4, b5, b6⟩⟩
end
end Go.Proofs.YthfdbjocpicbmaaDoor
