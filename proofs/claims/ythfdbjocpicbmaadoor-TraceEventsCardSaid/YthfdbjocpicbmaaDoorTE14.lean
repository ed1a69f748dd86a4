/-
  'Rows.TraceEventsSaid' is proved: the law percolatelaw46.TraceEvents returns true at every input, and its arguments read as they did. No condition.
-/
import Derived.SizedLaws
import Derived.Test.YthfdbjocpicbmaaDoorCards
import Derived.Test.YthfdbjocpicbmaaDoorTie
import Derived.Deep.DeepHandedRow
import Derived.LaidLaws
import Derived.Lay
import Derived.SevenTiedAt
import Derived.Test.YthfdbjocpicbmaaDoorTE13
namespace Go.Proofs.YthfdbjocpicbmaaDoor
attribute [local go_sem] ev0 ev1 ev2 ev3 ev4 evA stHOk.eq_1 stHOk.eq_2 stHSt.eq_1 stHSt.eq_2 okV valV fzV okF valF okBld valBld mxOk.eq_1 mxOk.eq_2 mxVal.eq_1 mxVal.eq_2 cellFit.eq_1 cellFit.eq_2 cellFit.eq_3 cellEq.eq_1 cellEq.eq_2 cellEq.eq_3 upd_at AV.flatB AV.flatBs binIok binIV binSok binSV cellsOk.eq_1 cellsOk.eq_2 cellsVal.eq_1 cellsVal.eq_2 objCells.eq_1 objCells.eq_2 objZ.eq_1 objZ.eq_2 objProt.eq_1 objProt.eq_2 oneObj ptrOk.eq_1 ptrOk.eq_2 ptrOk.eq_3 ptrCells.eq_1 ptrCells.eq_2 ptrCells.eq_3 lenOk.eq_1 lenOk.eq_2 lenOk.eq_3 lenOk.eq_4 lenVal.eq_1 lenVal.eq_2 lenVal.eq_3 lenVal.eq_4 faOk.eq_1 faOk.eq_2 faOk.eq_3 faVal.eq_1 faVal.eq_2 faVal.eq_3 iaOk.eq_1 iaOk.eq_2 iaOk.eq_3 iaVal.eq_1 iaVal.eq_2 iaVal.eq_3 slcLen.eq_1 slcLen.eq_2 slcLen.eq_3 slcLen.eq_4 bdOk.eq_1 bdOk.eq_2 bdVal.eq_1 bdVal.eq_2 slcOk.eq_1 slcOk.eq_2 slcOk.eq_3 slcOk.eq_4 slcVal.eq_1 slcVal.eq_2 slcVal.eq_3 slcVal.eq_4 slcFz.eq_1 slcFz.eq_2 byOk.eq_1 byOk.eq_2 byOk.eq_3 byOk.eq_4 byOk.eq_5 byOk.eq_6 byOk.eq_7 byOk.eq_8 byVal.eq_1 byVal.eq_2 byVal.eq_3 byFz.eq_1 byFz.eq_2 byFz.eq_3 byOks byVals byFzs allOne resSt.eq_1 resSt.eq_2 resName.eq_1 resName.eq_2 stOk.eq_1 stOk.eq_2 stArr.eq_1 stArr.eq_2 stSt.eq_1 stSt.eq_2 AV.patch nameOk_none gB.eq_1 gB.eq_2 gB.eq_3 gIs.eq_1 gIs.eq_2 gIs.eq_3 retV resV resVs evalV cellsV St.byval List.getD_cons_zero List.getD_cons_succ List.getD_nil List.map_cons List.map_nil List.length_cons List.length_nil List.take_succ_cons List.take_zero List.drop_succ_cons List.drop_zero List.headD_cons List.set_cons_zero List.append_nil List.nil_append List.cons_append List.contains_cons List.contains_nil List.elem_cons List.elem_nil List.all_cons List.all_nil List.getElem?_cons_zero List.getElem?_cons_succ List.filterMap_cons List.filterMap_nil Option.isSome_some Option.isSome_none Option.map_some Option.map_none Option.some.injEq AV.int.injEq AV.bool.injEq AV.str.injEq AV.tup.injEq AV.agg.injEq AV.sl.injEq List.cons.injEq Bool.false_eq_true Bool.true_eq_false Bool.not_true Bool.not_false Bool.and_true Bool.true_and Bool.or_false Bool.or_true Bool.false_or Bool.true_or Bool.or_self Bool.and_self Bool.not_eq_true' Bool.not_eq_false' Bool.not_not beq_self_eq_true true_and and_true false_and and_false and_self not_true_eq_false not_false_eq_true forall_const true_implies false_implies implies_true imp_self Nat.lt_add_one Nat.le_refl Nat.zero_le Nat.add_zero Nat.zero_add decide_true decide_false decide_eq_true_eq decide_eq_false_iff_not exists_eq_left exists_eq_left' ge_iff_le gt_iff_lt ite_branch ite_branch' nilOk.eq_1 nilOk.eq_2 nilMay.eq_1 nilMay.eq_2 AV.isSl.eq_1 objTy'.eq_1 objTy'.eq_2 apSt.eq_1 apArr.eq_1 apArr.eq_2 slOf.eq_1 fitsV List.mem_cons List.not_mem_nil Bool.false_and Bool.and_false primOk.eq_1 primOk.eq_2 primOk.eq_3 primOk.eq_4 primOk.eq_5 primVal.eq_1 primVal.eq_2 primVal.eq_3 primVal.eq_4 primVal.eq_5 mOk.eq_1 mOk.eq_2 mVal.eq_1 mVal.eq_2 mFz.eq_1 mFz.eq_2 mOks mVals mFzs mCalOk.eq_1 mCalOk.eq_2 mFn.eq_1 mFn.eq_2 mArgs.eq_1 mArgs.eq_2 ckOk.eq_1 ckOk.eq_2 cloOk.eq_1 ptrAt.eq_1 sh.eq_1 sh.eq_2 sh.eq_3 sh.eq_4 sh.eq_5 sh.eq_6 retM shH_small evM entOk.eq_1 entOk.eq_2 ents.eq_1 ents.eq_2 kI.eq_1 mpOk.eq_1 mpR.eq_1 lkV.eq_1 lkV.eq_2 remp.eq_2 evP pvOk.eq_1 pvOk.eq_2 pvVal.eq_1 pvVal.eq_2 plOk.eq_1 plOk.eq_2 plOk.eq_3 plV.eq_1 plV.eq_2 plF.eq_1 plF.eq_2 plVal.eq_1 plVal.eq_2 plFz.eq_1 plFz.eq_2 lpOk.eq_1 lpOk.eq_2 lpVal.eq_1 lpVal.eq_2 lpFz.eq_1 lpFz.eq_2 stpOk.eq_1 stpOk.eq_2 stpSt.eq_1 stpSt.eq_2 stpArr.eq_1
section
/-
  The document's side of an event's line: walked (second part).
-/
open Go.RowKit Go.Lib
set_option linter.unusedVariables false
set_option linter.unusedSimpArgs false
set_option maxRecDepth 100000
attribute [local go_sem ↓] runOp headOp
/-! ### percolate/percolateref09.Right -/
def r_rRight9_0 : Reg := ⟨[], [⟨(.mv (.c (.bool false))), (some 2), none, [], []⟩], [], [], false⟩
def r_rRight9_1 : Reg := ⟨[], [⟨(.mv (.c (.int .i64 0))), (some 3), none, [], []⟩], [], [], false⟩
def t_rRight9_2 : List ROp := [⟨(.mv (.t 3)), (some 4), none, [], []⟩, ⟨(.mv (.t 0)), (some 5), none, [], []⟩, ⟨(.len false (.t 5)), (some 6), none, [], []⟩, ⟨(.bin .lss (.t 4) (.t 6)), (some 7), none, [], []⟩]
def r_rRight9_2 : Reg := ⟨[], t_rRight9_2, [], [], false⟩
def t_rRight9_3 : List ROp := [⟨(.callv (.c (.clo 103 [] [])) [(.t 35), (.t 40)]), (some 41), (some (29, true)), [], []⟩, ⟨(.un .not (.t 41)), (some 42), (some (29, true)), [], []⟩, ⟨(.pick (.t 29) (.t 42) (.c (.bool false))), (some 43), (some (26, false)), [], []⟩, ⟨(.pick (.t 26) (.c (.bool true)) (.t 43)), (some 44), none, [], []⟩]
def h_rRight9_3 : List ROp := [⟨(.mv (.t 0)), (some 10), none, [41], []⟩, ⟨(.mv (.t 3)), (some 11), none, [41], []⟩, ⟨(.iaddr 2 (.t 10) (.t 11)), (some 12), none, [41], []⟩, ⟨(.faddr 0 (.t 12)), (some 13), none, [41], []⟩, ⟨(.load 1 false (.t 13)), (some 14), none, [41], []⟩, ⟨(.len true (.t 14)), (some 15), none, [41], []⟩, ⟨(.bin .gtr (.t 15) (.c (.int .i64 16))), (some 16), none, [41], []⟩, ⟨(.mv (.t 16)), (some 17), none, [41], []⟩, ⟨(.mv (.t 0)), (some 18), (some (17, false)), [41], []⟩, ⟨(.mv (.t 3)), (some 19), (some (17, false)), [41], []⟩, ⟨(.iaddr 2 (.t 18) (.t 19)), (some 20), (some (17, false)), [41], []⟩, ⟨(.faddr 1 (.t 20)), (some 21), (some (17, false)), [41], []⟩, ⟨(.load 1 false (.t 21)), (some 22), (some (17, false)), [41], []⟩, ⟨(.len true (.t 22)), (some 23), (some (17, false)), [41], []⟩, ⟨(.bin .gtr (.t 23) (.c (.int .i64 16))), (some 24), (some (17, false)), [41], []⟩, ⟨(.pick (.t 17) (.c (.bool true)) (.t 24)), (some 25), none, [41], []⟩, ⟨(.mv (.t 25)), (some 26), none, [41], []⟩, ⟨(.mv (.t 3)), (some 27), (some (26, false)), [41], []⟩, ⟨(.bin .gtr (.t 27) (.c (.int .i64 0))), (some 28), (some (26, false)), [41], []⟩, ⟨(.mv (.t 28)), (some 29), (some (26, false)), [41], []⟩, ⟨(.mv (.t 0)), (some 30), (some (29, true)), [41], []⟩, ⟨(.mv (.t 3)), (some 31), (some (29, true)), [41], []⟩, ⟨(.bin .sub (.t 31) (.c (.int .i64 1))), (some 32), (some (29, true)), [41], []⟩, ⟨(.iaddr 2 (.t 30) (.t 32)), (some 33), (some (29, true)), [41], []⟩, ⟨(.faddr 0 (.t 33)), (some 34), (some (29, true)), [41], []⟩, ⟨(.load 1 false (.t 34)), (some 35), (some (29, true)), [41], []⟩, ⟨(.mv (.t 0)), (some 36), (some (29, true)), [41], []⟩, ⟨(.mv (.t 3)), (some 37), (some (29, true)), [41], []⟩, ⟨(.iaddr 2 (.t 36) (.t 37)), (some 38), (some (29, true)), [41], []⟩, ⟨(.faddr 0 (.t 38)), (some 39), (some (29, true)), [41], []⟩, ⟨(.load 1 false (.t 39)), (some 40), (some (29, true)), [41], []⟩]
def r_rRight9_3 : Reg := ⟨h_rRight9_3, t_rRight9_3, [41], [], true⟩
def r_rRight9_4 : Reg := ⟨[], [⟨(.mv (.c (.bool false))), (some 2), none, [], []⟩], [], [], false⟩
def t_rRight9_5 : List ROp := [⟨(.mv (.t 3)), (some 8), none, [], []⟩, ⟨(.bin .add (.t 8) (.c (.int .i64 1))), (some 9), none, [], []⟩, ⟨(.mv (.t 9)), (some 3), none, [], []⟩]
def r_rRight9_5 : Reg := ⟨[], t_rRight9_5, [], [], false⟩
def r_rRight9_l6 : IR := (.seq (.seq (.reg r_rRight9_2)
  (.cond (.t 7) .skip
  (.exit 0)))
  (.seq (.block 1 (.seq (.reg r_rRight9_3)
  (.cond (.t 44) (.seq (.reg r_rRight9_4)
  .ret)
  .skip)))
  (.reg r_rRight9_5)))
def r_rRight9_7 : Reg := ⟨[], [⟨(.mv (.c (.bool true))), (some 2), none, [], []⟩], [], [], false⟩
def ir_rRight9 : IR := (.seq (.reg r_rRight9_0)
  (.seq (.seq (.reg r_rRight9_1)
  (.block 0 (.loop r_rRight9_l6)))
  (.seq (.reg r_rRight9_7)
  .ret)))
def res_rRight9 : List RDesc := [(.tmp 2)]
theorem e_rRight9_0 (C : FuncId → List AV → AV → Prop) (σ : St) (K : St → Prop) : runReg C r_rRight9_0 σ K = runOps C [⟨(.mv (.c (.bool false))), (some 2), none, [], []⟩] (σ.kills []) K := rfl
theorem e_rRight9_1 (C : FuncId → List AV → AV → Prop) (σ : St) (K : St → Prop) : runReg C r_rRight9_1 σ K = runOps C [⟨(.mv (.c (.int .i64 0))), (some 3), none, [], []⟩] (σ.kills []) K := rfl
theorem e_rRight9_2 (C : FuncId → List AV → AV → Prop) (σ : St) (K : St → Prop) : runReg C r_rRight9_2 σ K = runOps C t_rRight9_2 (σ.kills []) K := rfl
theorem e_rRight9_3 (C : FuncId → List AV → AV → Prop) (σ : St) (K : St → Prop) : runReg C r_rRight9_3 σ K = runHead C [] t_rRight9_3 h_rRight9_3 (σ.kills [41]) K := rfl
theorem e_rRight9_4 (C : FuncId → List AV → AV → Prop) (σ : St) (K : St → Prop) : runReg C r_rRight9_4 σ K = runOps C [⟨(.mv (.c (.bool false))), (some 2), none, [], []⟩] (σ.kills []) K := rfl
theorem e_rRight9_5 (C : FuncId → List AV → AV → Prop) (σ : St) (K : St → Prop) : runReg C r_rRight9_5 σ K = runOps C t_rRight9_5 (σ.kills []) K := rfl
theorem e_rRight9_7 (C : FuncId → List AV → AV → Prop) (σ : St) (K : St → Prop) : runReg C r_rRight9_7 σ K = runOps C [⟨(.mv (.c (.bool true))), (some 2), none, [], []⟩] (σ.kills []) K := rfl
theorem fn_rRight9 {args : List AV} {r : AV} (ha : args.length.ble Tryd.f67.ntmps = true) (h : run (AFn Tryd.prog) ir_rRight9 (endQ res_rRight9 r) (initSt args)) : AFn Tryd.prog 67 args r :=
  AFn.of_code (pv := false) (hint := fun _ => []) (c := Tryd.f67.body.getD .skip) (by kernel_rfl) (by kernel_rfl) Tryd.func67 (by kernel_rfl) (by kernel_rfl) (by kernel_rfl) (of_decide_eq_true (by kernel_rfl)) (Nat.le_of_ble_eq_true ha) (Nat.le_of_ble_eq_true (by kernel_rfl)) (run_ok h)
/-! ### percolate/percolateref46.Told -/
def r_rTold_0 : Reg := ⟨[], [⟨(.box 15 48 (.t 0)), (some 1), none, [], []⟩, ⟨(.mv (.c (.bool false))), (some 2), none, [], []⟩], [1], [], false⟩
def t_rTold_1 : List ROp := [⟨(.faddr 0 (.t 1)), (some 4), none, [6, 11, 17, 23, 34], []⟩, ⟨(.load 1 false (.t 4)), (some 5), none, [6, 11, 17, 23, 34], []⟩, ⟨(.callv (.c (.clo 64 [] [])) [(.t 5)]), (some 6), none, [11, 17, 23, 34], []⟩, ⟨(.un .not (.t 6)), (some 7), none, [11, 17, 23, 34], []⟩, ⟨(.mv (.t 7)), (some 8), none, [11, 17, 23, 34], []⟩, ⟨(.faddr 11 (.t 1)), (some 9), (some (8, false)), [11, 17, 23, 34], []⟩, ⟨(.load 1 false (.t 9)), (some 10), (some (8, false)), [11, 17, 23, 34], []⟩, ⟨(.callv (.c (.clo 64 [] [])) [(.t 10)]), (some 11), (some (8, false)), [17, 23, 34], []⟩, ⟨(.un .not (.t 11)), (some 12), (some (8, false)), [17, 23, 34], []⟩, ⟨(.pick (.t 8) (.c (.bool true)) (.t 12)), (some 13), none, [17, 23, 34], []⟩, ⟨(.mv (.t 13)), (some 14), none, [17, 23, 34], []⟩, ⟨(.faddr 12 (.t 1)), (some 15), (some (14, false)), [17, 23, 34], []⟩, ⟨(.load 1 false (.t 15)), (some 16), (some (14, false)), [17, 23, 34], []⟩, ⟨(.callv (.c (.clo 64 [] [])) [(.t 16)]), (some 17), (some (14, false)), [23, 34], []⟩, ⟨(.un .not (.t 17)), (some 18), (some (14, false)), [23, 34], []⟩, ⟨(.pick (.t 14) (.c (.bool true)) (.t 18)), (some 19), none, [23, 34], []⟩, ⟨(.mv (.t 19)), (some 20), none, [23, 34], []⟩, ⟨(.faddr 13 (.t 1)), (some 21), (some (20, false)), [23, 34], []⟩, ⟨(.load 1 false (.t 21)), (some 22), (some (20, false)), [23, 34], []⟩, ⟨(.callv (.c (.clo 64 [] [])) [(.t 22)]), (some 23), (some (20, false)), [34], []⟩, ⟨(.un .not (.t 23)), (some 24), (some (20, false)), [34], []⟩, ⟨(.pick (.t 20) (.c (.bool true)) (.t 24)), (some 25), none, [34], []⟩, ⟨(.mv (.t 25)), (some 26), none, [34], []⟩, ⟨(.faddr 1 (.t 1)), (some 27), (some (26, false)), [34], []⟩, ⟨(.load 6 true (.t 27)), (some 28), (some (26, false)), [34], []⟩, ⟨(.bld [(.int .i64 0), (.str ⟨#[]⟩), (.str ⟨#[]⟩), (.bool false), (.str ⟨#[]⟩), (.int .i64 0)] []), (some 29), (some (26, false)), [34], []⟩, ⟨(.feq true [(0, 0), (1, 1), (2, 1), (3, 2), (4, 1), (5, 0)] (.t 28) (.t 29)), (some 30), (some (26, false)), [34], []⟩, ⟨(.mv (.t 30)), (some 31), (some (26, false)), [34], []⟩, ⟨(.faddr 1 (.t 1)), (some 32), (some (31, true)), [34], []⟩, ⟨(.load 6 true (.t 32)), (some 33), (some (31, true)), [34], []⟩, ⟨(.callv (.c (.clo 65 [] [])) [(.t 33)]), (some 34), (some (31, true)), [], []⟩, ⟨(.un .not (.t 34)), (some 35), (some (31, true)), [], []⟩, ⟨(.pick (.t 31) (.t 35) (.c (.bool false))), (some 36), (some (26, false)), [], []⟩, ⟨(.pick (.t 26) (.c (.bool true)) (.t 36)), (some 37), none, [], []⟩]
def r_rTold_1 : Reg := ⟨[], t_rTold_1, [6, 11, 17, 23, 34], [], false⟩
def r_rTold_2 : Reg := ⟨[], [⟨(.mv (.c (.bool false))), (some 2), none, [], []⟩], [], [], false⟩
def t_rTold_3 : List ROp := [⟨(.bld [(.int .i64 0), (.bool false), (.str ⟨#[]⟩), (.sl [])] []), (some 38), none, [3], []⟩, ⟨(.alloc 4 46 (.agg [(.int .i64 0), (.bool false), (.str ⟨#[]⟩), (.sl [])])), (some 3), none, [], []⟩, ⟨(.store 4 (.t 3) (.t 38)), none, none, [], []⟩]
def r_rTold_3 : Reg := ⟨[], t_rTold_3, [3], [], false⟩
def r_rTold_4 : Reg := ⟨[], [⟨(.faddr 14 (.t 1)), (some 39), none, [], []⟩, ⟨(.load 1 false (.t 39)), (some 40), none, [], []⟩], [], [], false⟩
def t_rTold_5 : List ROp := [⟨(.faddr 7 (.t 1)), (some 41), none, [], []⟩, ⟨(.faddr 0 (.t 41)), (some 42), none, [], []⟩, ⟨(.load 1 false (.t 42)), (some 43), none, [], []⟩, ⟨(.faddr 0 (.t 3)), (some 44), none, [], []⟩, ⟨(.store 1 (.t 44) (.t 43)), none, none, [], []⟩]
def r_rTold_5 : Reg := ⟨[], t_rTold_5, [], [], false⟩
def t_rTold_6 : List ROp := [⟨(.faddr 14 (.t 1)), (some 45), none, [], []⟩, ⟨(.load 1 false (.t 45)), (some 46), none, [], []⟩, ⟨(.mv (.t 46)), (some 47), none, [], []⟩, ⟨(.faddr 0 (.t 3)), (some 48), (some (47, true)), [], []⟩, ⟨(.load 1 false (.t 48)), (some 49), (some (47, true)), [], []⟩, ⟨(.bin .eql (.t 49) (.c (.int .i64 0))), (some 50), (some (47, true)), [], []⟩, ⟨(.pick (.t 47) (.t 50) (.c (.bool false))), (some 51), none, [], []⟩, ⟨(.mv (.t 51)), (some 52), none, [], []⟩, ⟨(.faddr 1 (.t 1)), (some 53), (some (52, true)), [], []⟩, ⟨(.faddr 0 (.t 53)), (some 54), (some (52, true)), [], []⟩, ⟨(.load 1 false (.t 54)), (some 55), (some (52, true)), [], []⟩, ⟨(.bin .eql (.t 55) (.c (.int .i64 5))), (some 56), (some (52, true)), [], []⟩, ⟨(.pick (.t 52) (.t 56) (.c (.bool false))), (some 57), none, [], []⟩, ⟨(.mv (.t 57)), (some 58), none, [], []⟩, ⟨(.faddr 7 (.t 1)), (some 59), (some (58, true)), [], []⟩, ⟨(.faddr 1 (.t 59)), (some 60), (some (58, true)), [], []⟩, ⟨(.load 1 false (.t 60)), (some 61), (some (58, true)), [], []⟩, ⟨(.pick (.t 58) (.t 61) (.c (.bool false))), (some 62), none, [], []⟩]
def r_rTold_6 : Reg := ⟨[], t_rTold_6, [], [], false⟩
def r_rTold_7 : Reg := ⟨[], [⟨(.faddr 1 (.t 3)), (some 63), none, [], []⟩, ⟨(.store 1 (.t 63) (.c (.bool true))), none, none, [], []⟩], [], [], false⟩
def t_rTold_8 : List ROp := [⟨(.faddr 7 (.t 1)), (some 64), none, [], []⟩, ⟨(.faddr 2 (.t 64)), (some 65), none, [], []⟩, ⟨(.load 1 false (.t 65)), (some 66), none, [], []⟩, ⟨(.faddr 2 (.t 3)), (some 67), none, [], []⟩, ⟨(.store 1 (.t 67) (.t 66)), none, none, [], []⟩]
def r_rTold_8 : Reg := ⟨[], t_rTold_8, [], [], false⟩
def t_rTold_9 : List ROp := [⟨(.faddr 14 (.t 1)), (some 68), none, [], []⟩, ⟨(.load 1 false (.t 68)), (some 69), none, [], []⟩, ⟨(.mv (.t 69)), (some 70), none, [], []⟩, ⟨(.faddr 0 (.t 3)), (some 71), (some (70, true)), [], []⟩, ⟨(.load 1 false (.t 71)), (some 72), (some (70, true)), [], []⟩, ⟨(.bin .eql (.t 72) (.c (.int .i64 0))), (some 73), (some (70, true)), [], []⟩, ⟨(.pick (.t 70) (.t 73) (.c (.bool false))), (some 74), none, [], []⟩, ⟨(.mv (.t 74)), (some 75), none, [], []⟩, ⟨(.faddr 1 (.t 1)), (some 76), (some (75, true)), [], []⟩, ⟨(.faddr 0 (.t 76)), (some 77), (some (75, true)), [], []⟩, ⟨(.load 1 false (.t 77)), (some 78), (some (75, true)), [], []⟩, ⟨(.bin .eql (.t 78) (.c (.int .i64 6))), (some 79), (some (75, true)), [], []⟩, ⟨(.pick (.t 75) (.t 79) (.c (.bool false))), (some 80), none, [], []⟩]
def r_rTold_9 : Reg := ⟨[], t_rTold_9, [], [], false⟩
def t_rTold_10 : List ROp := [⟨(.faddr 7 (.t 1)), (some 81), none, [], []⟩, ⟨(.faddr 3 (.t 81)), (some 82), none, [], []⟩, ⟨(.load 1 false (.t 82)), (some 83), none, [], []⟩, ⟨(.faddr 3 (.t 3)), (some 84), none, [], []⟩, ⟨(.store 1 (.t 84) (.t 83)), none, none, [], []⟩]
def r_rTold_10 : Reg := ⟨[], t_rTold_10, [], [], false⟩
def t_rTold_11 : List ROp := [⟨(.faddr 7 (.t 1)), (some 85), none, [88, 92, 103], []⟩, ⟨(.load 4 true (.t 85)), (some 86), none, [88, 92, 103], []⟩, ⟨(.load 4 true (.t 3)), (some 87), none, [88, 92, 103], []⟩, ⟨(.callv (.c (.clo 66 [] [])) [(.t 86), (.t 87)]), (some 88), none, [92, 103], []⟩, ⟨(.mv (.t 88)), (some 89), none, [92, 103], []⟩, ⟨(.faddr 0 (.t 3)), (some 90), (some (89, true)), [92, 103], []⟩, ⟨(.load 1 false (.t 90)), (some 91), (some (89, true)), [92, 103], []⟩, ⟨(.callv (.c (.clo 64 [] [])) [(.t 91)]), (some 92), (some (89, true)), [103], []⟩, ⟨(.pick (.t 89) (.t 92) (.c (.bool false))), (some 93), none, [103], []⟩, ⟨(.mv (.t 93)), (some 94), none, [103], []⟩, ⟨(.faddr 2 (.t 3)), (some 95), (some (94, true)), [103], []⟩, ⟨(.load 1 false (.t 95)), (some 96), (some (94, true)), [103], []⟩, ⟨(.len true (.t 96)), (some 97), (some (94, true)), [103], []⟩, ⟨(.bin .leq (.t 97) (.c (.int .i64 16))), (some 98), (some (94, true)), [103], []⟩, ⟨(.pick (.t 94) (.t 98) (.c (.bool false))), (some 99), none, [103], []⟩, ⟨(.mv (.t 99)), (some 100), none, [103], []⟩, ⟨(.faddr 3 (.t 3)), (some 101), (some (100, true)), [103], []⟩, ⟨(.load 1 false (.t 101)), (some 102), (some (100, true)), [103], []⟩, ⟨(.callv (.c (.clo 67 [] [])) [(.t 102)]), (some 103), (some (100, true)), [], []⟩, ⟨(.pick (.t 100) (.t 103) (.c (.bool false))), (some 104), none, [], []⟩, ⟨(.mv (.t 104)), (some 2), none, [], []⟩]
def r_rTold_11 : Reg := ⟨[], t_rTold_11, [88, 92, 103], [], false⟩
def ir_rTold : IR := (.seq (.reg r_rTold_0)
  (.seq (.seq (.reg r_rTold_1)
  (.cond (.t 37) (.seq (.reg r_rTold_2)
  .ret)
  .skip))
  (.seq (.reg r_rTold_3)
  (.seq (.seq (.reg r_rTold_4)
  (.cond (.t 40) (.reg r_rTold_5)
  .skip))
  (.seq (.seq (.reg r_rTold_6)
  (.cond (.t 62) (.seq (.reg r_rTold_7)
  (.reg r_rTold_8))
  .skip))
  (.seq (.seq (.reg r_rTold_9)
  (.cond (.t 80) (.reg r_rTold_10)
  .skip))
  (.seq (.reg r_rTold_11)
  .ret)))))))
def res_rTold : List RDesc := [(.tmp 2)]
theorem e_rTold_0 (C : FuncId → List AV → AV → Prop) (σ : St) (K : St → Prop) : runReg C r_rTold_0 σ K = runOps C [⟨(.box 15 48 (.t 0)), (some 1), none, [], []⟩, ⟨(.mv (.c (.bool false))), (some 2), none, [], []⟩] (σ.kills [1]) K := rfl
theorem e_rTold_1 (C : FuncId → List AV → AV → Prop) (σ : St) (K : St → Prop) : runReg C r_rTold_1 σ K = runOps C t_rTold_1 (σ.kills [6, 11, 17, 23, 34]) K := rfl
theorem e_rTold_2 (C : FuncId → List AV → AV → Prop) (σ : St) (K : St → Prop) : runReg C r_rTold_2 σ K = runOps C [⟨(.mv (.c (.bool false))), (some 2), none, [], []⟩] (σ.kills []) K := rfl
theorem e_rTold_3 (C : FuncId → List AV → AV → Prop) (σ : St) (K : St → Prop) : runReg C r_rTold_3 σ K = runOps C t_rTold_3 (σ.kills [3]) K := rfl
theorem e_rTold_4 (C : FuncId → List AV → AV → Prop) (σ : St) (K : St → Prop) : runReg C r_rTold_4 σ K = runOps C [⟨(.faddr 14 (.t 1)), (some 39), none, [], []⟩, ⟨(.load 1 false (.t 39)), (some 40), none, [], []⟩] (σ.kills []) K := rfl
theorem e_rTold_5 (C : FuncId → List AV → AV → Prop) (σ : St) (K : St → Prop) : runReg C r_rTold_5 σ K = runOps C t_rTold_5 (σ.kills []) K := rfl
theorem e_rTold_6 (C : FuncId → List AV → AV → Prop) (σ : St) (K : St → Prop) : runReg C r_rTold_6 σ K = runOps C t_rTold_6 (σ.kills []) K := rfl
theorem e_rTold_7 (C : FuncId → List AV → AV → Prop) (σ : St) (K : St → Prop) : runReg C r_rTold_7 σ K = runOps C [⟨(.faddr 1 (.t 3)), (some 63), none, [], []⟩, ⟨(.store 1 (.t 63) (.c (.bool true))), none, none, [], []⟩] (σ.kills []) K := rfl
theorem e_rTold_8 (C : FuncId → List AV → AV → Prop) (σ : St) (K : St → Prop) : runReg C r_rTold_8 σ K = runOps C t_rTold_8 (σ.kills []) K := rfl
theorem e_rTold_9 (C : FuncId → List AV → AV → Prop) (σ : St) (K : St → Prop) : runReg C r_rTold_9 σ K = runOps C t_rTold_9 (σ.kills []) K := rfl
theorem e_rTold_10 (C : FuncId → List AV → AV → Prop) (σ : St) (K : St → Prop) : runReg C r_rTold_10 σ K = runOps C t_rTold_10 (σ.kills []) K := rfl
theorem e_rTold_11 (C : FuncId → List AV → AV → Prop) (σ : St) (K : St → Prop) : runReg C r_rTold_11 σ K = runOps C t_rTold_11 (σ.kills [88, 92, 103]) K := rfl
theorem fn_rTold {args : List AV} {r : AV} (ha : args.length.ble Tryd.f24.ntmps = true) (h : run (AFn Tryd.prog) ir_rTold (endQ res_rTold r) (initSt args)) : AFn Tryd.prog 24 args r :=
  AFn.of_code (pv := false) (hint := fun _ => []) (c := Tryd.f24.body.getD .skip) (by kernel_rfl) (by kernel_rfl) Tryd.func24 (by kernel_rfl) (by kernel_rfl) (by kernel_rfl) (of_decide_eq_true (by kernel_rfl)) (Nat.le_of_ble_eq_true ha) (Nat.le_of_ble_eq_true (by kernel_rfl)) (run_ok h)
/-! ### percolate/percolateref38.Light -/
def r_rLight38_0 : Reg := ⟨[], [⟨(.mv (.c (.bool false))), (some 6), none, [], []⟩], [], [], false⟩
def t_rLight38_1 : List ROp := [⟨(.mv (.t 0)), (some 8), none, [], []⟩, ⟨(.len false (.t 8)), (some 9), none, [], []⟩, ⟨(.mv (.t 1)), (some 10), none, [], []⟩, ⟨(.bin .gtr (.t 9) (.t 10)), (some 11), none, [], []⟩]
def r_rLight38_1 : Reg := ⟨[], t_rLight38_1, [], [], false⟩
def r_rLight38_2 : Reg := ⟨[], [⟨(.mv (.c (.bool false))), (some 6), none, [], []⟩], [], [], false⟩
def r_rLight38_3 : Reg := ⟨[], [⟨(.mv (.c (.int .i64 0))), (some 7), none, [], []⟩], [], [], false⟩
def t_rLight38_4 : List ROp := [⟨(.mv (.t 7)), (some 12), none, [], []⟩, ⟨(.mv (.t 0)), (some 13), none, [], []⟩, ⟨(.len false (.t 13)), (some 14), none, [], []⟩, ⟨(.bin .lss (.t 12) (.t 14)), (some 15), none, [], []⟩]
def r_rLight38_4 : Reg := ⟨[], t_rLight38_4, [], [], false⟩
def t_rLight38_5 : List ROp := [⟨(.mv (.t 0)), (some 18), none, [24, 45], []⟩, ⟨(.mv (.t 7)), (some 19), none, [24, 45], []⟩, ⟨(.iaddr 15 (.t 18) (.t 19)), (some 20), none, [24, 45], []⟩, ⟨(.faddr 1 (.t 20)), (some 21), none, [24, 45], []⟩, ⟨(.load 6 true (.t 21)), (some 22), none, [24, 45], []⟩, ⟨(.mv (.t 2)), (some 23), none, [24, 45], []⟩, ⟨(.callv (.c (.clo 49 [] [])) [(.t 22), (.t 23)]), (some 24), none, [45], []⟩, ⟨(.un .not (.t 24)), (some 25), none, [45], []⟩, ⟨(.mv (.t 25)), (some 26), none, [45], []⟩, ⟨(.mv (.t 0)), (some 27), (some (26, false)), [45], []⟩, ⟨(.mv (.t 7)), (some 28), (some (26, false)), [45], []⟩, ⟨(.iaddr 15 (.t 27) (.t 28)), (some 29), (some (26, false)), [45], []⟩, ⟨(.faddr 7 (.t 29)), (some 30), (some (26, false)), [45], []⟩, ⟨(.faddr 2 (.t 30)), (some 31), (some (26, false)), [45], []⟩, ⟨(.load 1 false (.t 31)), (some 32), (some (26, false)), [45], []⟩, ⟨(.len true (.t 32)), (some 33), (some (26, false)), [45], []⟩, ⟨(.mv (.t 2)), (some 34), (some (26, false)), [45], []⟩, ⟨(.bin .gtr (.t 33) (.t 34)), (some 35), (some (26, false)), [45], []⟩, ⟨(.pick (.t 26) (.c (.bool true)) (.t 35)), (some 36), none, [45], []⟩, ⟨(.mv (.t 36)), (some 37), none, [45], []⟩, ⟨(.mv (.t 0)), (some 38), (some (37, false)), [45], []⟩, ⟨(.mv (.t 7)), (some 39), (some (37, false)), [45], []⟩, ⟨(.iaddr 15 (.t 38) (.t 39)), (some 40), (some (37, false)), [45], []⟩, ⟨(.faddr 7 (.t 40)), (some 41), (some (37, false)), [45], []⟩, ⟨(.faddr 3 (.t 41)), (some 42), (some (37, false)), [45], []⟩, ⟨(.load 1 false (.t 42)), (some 43), (some (37, false)), [45], []⟩, ⟨(.mv (.t 2)), (some 44), (some (37, false)), [45], []⟩, ⟨(.callv (.c (.clo 38 [] [])) [(.t 43), (.t 44)]), (some 45), (some (37, false)), [], []⟩, ⟨(.un .not (.t 45)), (some 46), (some (37, false)), [], []⟩, ⟨(.pick (.t 37) (.c (.bool true)) (.t 46)), (some 47), none, [], []⟩]
def r_rLight38_5 : Reg := ⟨[], t_rLight38_5, [24, 45], [], false⟩
def r_rLight38_6 : Reg := ⟨[], [⟨(.mv (.c (.bool false))), (some 6), none, [], []⟩], [], [], false⟩
def t_rLight38_7 : List ROp := [⟨(.mv (.t 7)), (some 16), none, [], []⟩, ⟨(.bin .add (.t 16) (.c (.int .i64 1))), (some 17), none, [], []⟩, ⟨(.mv (.t 17)), (some 7), none, [], []⟩]
def r_rLight38_7 : Reg := ⟨[], t_rLight38_7, [], [], false⟩
def r_rLight38_l8 : IR := (.seq (.seq (.reg r_rLight38_4)
  (.cond (.t 15) .skip
  (.exit 0)))
  (.seq (.block 1 (.seq (.reg r_rLight38_5)
  (.cond (.t 47) (.seq (.reg r_rLight38_6)
  .ret)
  .skip)))
  (.reg r_rLight38_7)))
def r_rLight38_9 : Reg := ⟨[], [⟨(.mv (.c (.bool true))), (some 6), none, [], []⟩], [], [], false⟩
def ir_rLight38 : IR := (.seq (.reg r_rLight38_0)
  (.seq (.seq (.reg r_rLight38_1)
  (.cond (.t 11) (.seq (.reg r_rLight38_2)
  .ret)
  .skip))
  (.seq (.seq (.reg r_rLight38_3)
  (.block 0 (.loop r_rLight38_l8)))
  (.seq (.reg r_rLight38_9)
  .ret))))
def res_rLight38 : List RDesc := [(.tmp 6)]
theorem e_rLight38_0 (C : FuncId → List AV → AV → Prop) (σ : St) (K : St → Prop) : runReg C r_rLight38_0 σ K = runOps C [⟨(.mv (.c (.bool false))), (some 6), none, [], []⟩] (σ.kills []) K := rfl
theorem e_rLight38_1 (C : FuncId → List AV → AV → Prop) (σ : St) (K : St → Prop) : runReg C r_rLight38_1 σ K = runOps C t_rLight38_1 (σ.kills []) K := rfl
theorem e_rLight38_2 (C : FuncId → List AV → AV → Prop) (σ : St) (K : St → Prop) : runReg C r_rLight38_2 σ K = runOps C [⟨(.mv (.c (.bool false))), (some 6), none, [], []⟩] (σ.kills []) K := rfl
theorem e_rLight38_3 (C : FuncId → List AV → AV → Prop) (σ : St) (K : St → Prop) : runReg C r_rLight38_3 σ K = runOps C [⟨(.mv (.c (.int .i64 0))), (some 7), none, [], []⟩] (σ.kills []) K := rfl
theorem e_rLight38_4 (C : FuncId → List AV → AV → Prop) (σ : St) (K : St → Prop) : runReg C r_rLight38_4 σ K = runOps C t_rLight38_4 (σ.kills []) K := rfl
theorem e_rLight38_5 (C : FuncId → List AV → AV → Prop) (σ : St) (K : St → Prop) : runReg C r_rLight38_5 σ K = runOps C t_rLight38_5 (σ.kills [24, 45]) K := rfl
theorem e_rLight38_6 (C : FuncId → List AV → AV → Prop) (σ : St) (K : St → Prop) : runReg C r_rLight38_6 σ K = runOps C [⟨(.mv (.c (.bool false))), (some 6), none, [], []⟩] (σ.kills []) K := rfl
theorem e_rLight38_7 (C : FuncId → List AV → AV → Prop) (σ : St) (K : St → Prop) : runReg C r_rLight38_7 σ K = runOps C t_rLight38_7 (σ.kills []) K := rfl
theorem e_rLight38_9 (C : FuncId → List AV → AV → Prop) (σ : St) (K : St → Prop) : runReg C r_rLight38_9 σ K = runOps C [⟨(.mv (.c (.bool true))), (some 6), none, [], []⟩] (σ.kills []) K := rfl
theorem fn_rLight38 {args : List AV} {r : AV} (ha : args.length.ble Tryd.f19.ntmps = true) (h : run (AFn Tryd.prog) ir_rLight38 (endQ res_rLight38 r) (initSt args)) : AFn Tryd.prog 19 args r :=
  AFn.of_code (pv := false) (hint := fun _ => []) (c := Tryd.f19.body.getD .skip) (by kernel_rfl) (by kernel_rfl) Tryd.func19 (by kernel_rfl) (by kernel_rfl) (by kernel_rfl) (of_decide_eq_true (by kernel_rfl)) (Nat.le_of_ble_eq_true ha) (Nat.le_of_ble_eq_true (by kernel_rfl)) (run_ok h)
attribute [local go_sem ↓] ir_rRight9
attribute [local go_sem] res_rRight9 e_rRight9_0 e_rRight9_1 e_rRight9_2 t_rRight9_2 e_rRight9_3 t_rRight9_3 h_rRight9_3 e_rRight9_4 e_rRight9_5 t_rRight9_5 e_rRight9_7
attribute [local go_sem ↓] ir_rTold
attribute [local go_sem] res_rTold e_rTold_0 e_rTold_1 t_rTold_1 e_rTold_2 e_rTold_3 t_rTold_3 e_rTold_4 e_rTold_5 t_rTold_5 e_rTold_6 t_rTold_6 e_rTold_7 e_rTold_8 t_rTold_8 e_rTold_9 t_rTold_9 e_rTold_10 t_rTold_10 e_rTold_11 t_rTold_11
attribute [local go_sem ↓] ir_rLight38
attribute [local go_sem] res_rLight38 e_rLight38_0 e_rLight38_1 t_rLight38_1 e_rLight38_2 e_rLight38_3 e_rLight38_4 t_rLight38_4 e_rLight38_5 t_rLight38_5 e_rLight38_6 e_rLight38_7 t_rLight38_7 e_rLight38_9
def r9Inv (l : List Par) (r : Bool) (k : Nat) (σ : St) : Prop :=
  ∃ j : Nat, j ≤ l.length ∧ k = l.length - j ∧ σ.T 0 = .sl (l.map Par.a) ∧ σ.T 3 = .int .i64 j ∧ r = rightG (prevP l j) (l.drop j)
set_option maxHeartbeats 1000000 in
theorem rRight9_ok (l : List Par) (hl : l.length ≤ 1000000000) (hs : ∀ p, p ∈ l → p.key.size ≤ 281474976710656) : AFn Tryd.prog 67 [.sl (l.map Par.a)] (.bool (rightP l)) := by
  refine fn_rRight9 rfl ?_
  simp (maxSteps := 4000000) only [go_sem, ↓reduceIte, reduceCtorEq, Nat.reduceEqDiff, Nat.reduceBEq, Nat.reduceAdd, Nat.reduceSub, Nat.reduceMul, Nat.reduceLT, Nat.reduceLeDiff, Nat.reduceBNe, Int.reduceBEq, Int.reduceBNe, Int.reduceLT, Int.reduceLE, Par.a, Opr.a, Ans.a, Evt.a, nul]
  refine run_loop (r9Inv l (rightP l)) (k := l.length) ⟨0, by omega, rfl, rfl, rfl, ?_⟩ ?_
  · rw [← rightG_none]; rfl
  rintro k σ ⟨j, hj, rfl, t0, t3, hr⟩
  simp only [r_rRight9_l6]
  generalize hR : rightP l = R at *
  by_cases hlt : j < l.length
  · have hlt' : (j : Int) < (l.length : Int) := by omega
    obtain ⟨x, hx⟩ := get_lt hlt
    have hgj := at_map (f := Par.a) hx
    simp only [Par.a] at hgj
    have hw := wrapS (j := j) (by omega)
    obtain ⟨q1, q2⟩ := rightG_at hx
    by_cases hk : (16 : Int) < (x.key.size : Int)
    · have hS : shortP x = false := by unfold shortP; rw [decide_eq_false (by omega)]; rfl
      have hr' : R = false := by
        by_cases h0 : j = 0
        · rw [hr, q1 h0, hS]; rfl
        · obtain ⟨y, hy⟩ := get_lt (l := l) (j := j - 1) (by omega)
          rw [hr, q2 y hy h0, hS]; rfl
      subst hr'
      simp (maxSteps := 4000000) only [go_sem, ↓reduceIte, reduceCtorEq, Nat.reduceEqDiff, Nat.reduceBEq, Nat.reduceAdd, Nat.reduceSub, Nat.reduceMul, Nat.reduceLT, Nat.reduceLeDiff, Nat.reduceBNe, Int.reduceBEq, Int.reduceBNe, Int.reduceLT, Int.reduceLE, Par.a, Opr.a, Ans.a, Evt.a, nul, t0, t3, hlt', hgj, hk, List.length_map, Int.toNat_natCast, hw]
      all_goals omega
    by_cases hv : (16 : Int) < (x.val.size : Int)
    · have hS : shortP x = false := by unfold shortP; rw [decide_eq_false (p := x.val.size ≤ 16) (by omega), Bool.and_false]
      have hr' : R = false := by
        by_cases h0 : j = 0
        · rw [hr, q1 h0, hS]; rfl
        · obtain ⟨y, hy⟩ := get_lt (l := l) (j := j - 1) (by omega)
          rw [hr, q2 y hy h0, hS]; rfl
      subst hr'
      simp (maxSteps := 4000000) only [go_sem, ↓reduceIte, reduceCtorEq, Nat.reduceEqDiff, Nat.reduceBEq, Nat.reduceAdd, Nat.reduceSub, Nat.reduceMul, Nat.reduceLT, Nat.reduceLeDiff, Nat.reduceBNe, Int.reduceBEq, Int.reduceBNe, Int.reduceLT, Int.reduceLE, Par.a, Opr.a, Ans.a, Evt.a, nul, t0, t3, hlt', hgj, hk, hv, List.length_map, Int.toNat_natCast, hw]
      all_goals omega
    have hS : shortP x = true := by unfold shortP; rw [decide_eq_true (by omega), decide_eq_true (by omega)]; rfl
    rw [hS] at q1 q2
    by_cases h0 : j = 0
    · rw [q1 h0] at hr
      have hp : ¬ (0 : Int) < (j : Int) := by omega
      simp (maxSteps := 4000000) only [go_sem, ↓reduceIte, reduceCtorEq, Nat.reduceEqDiff, Nat.reduceBEq, Nat.reduceAdd, Nat.reduceSub, Nat.reduceMul, Nat.reduceLT, Nat.reduceLeDiff, Nat.reduceBNe, Int.reduceBEq, Int.reduceBNe, Int.reduceLT, Int.reduceLE, Par.a, Opr.a, Ans.a, Evt.a, nul, t0, t3, hlt', hgj, hk, hv, hp, List.length_map, Int.toNat_natCast, hw]
      (repeat refine And.intro (by omega) ?_)
      refine ⟨l.length - (j + 1), by omega, j + 1, by omega, rfl, ?_, ?_, by rw [hr]; simp⟩
      · simp (maxSteps := 4000000) only [go_sem, ↓reduceIte, reduceCtorEq, Nat.reduceEqDiff, Nat.reduceBEq, Nat.reduceAdd, Nat.reduceSub, Nat.reduceMul, Nat.reduceLT, Nat.reduceLeDiff, Nat.reduceBNe, Int.reduceBEq, Int.reduceBNe, Int.reduceLT, Int.reduceLE, Par.a, Opr.a, Ans.a, Evt.a, nul, t0]
      · simp (maxSteps := 4000000) only [go_sem, ↓reduceIte, reduceCtorEq, Nat.reduceEqDiff, Nat.reduceBEq, Nat.reduceAdd, Nat.reduceSub, Nat.reduceMul, Nat.reduceLT, Nat.reduceLeDiff, Nat.reduceBNe, Int.reduceBEq, Int.reduceBNe, Int.reduceLT, Int.reduceLE, Par.a, Opr.a, Ans.a, Evt.a, nul, hw]
    · obtain ⟨y, hy⟩ := get_lt (l := l) (j := j - 1) (by omega)
      have hgy := at_map (f := Par.a) hy
      simp only [Par.a] at hgy
      have hp : (0 : Int) < (j : Int) := by omega
      have hm : IntKind.i64.wrap ((j : Int) - 1) = ((j - 1 : Nat) : Int) := by rw [IntWalk.i64_in _ (by omega)]; omega
      have hy' : ((j - 1 : Nat) : Int) < (l.length : Int) := by omega
      have cl := refLess y.key x.key (by have := hs y (List.mem_of_getElem? hy); omega) (by have := hs x (List.mem_of_getElem? hx); omega)
      have hB : Op.bytesLess y.key.toList x.key.toList = leB y.key x.key := rfl
      rw [q2 y hy h0, hB] at hr
      generalize leB y.key x.key = b at *
      cases b
      · (repeat (first | simp (maxSteps := 4000000) only [go_sem, ↓reduceIte, reduceCtorEq, Nat.reduceEqDiff, Nat.reduceBEq, Nat.reduceAdd, Nat.reduceSub, Nat.reduceMul, Nat.reduceLT, Nat.reduceLeDiff, Nat.reduceBNe, Int.reduceBEq, Int.reduceBNe, Int.reduceLT, Int.reduceLE, Par.a, Opr.a, Ans.a, Evt.a, nul, t0, t3, hlt', hgj, hgy, hk, hv, hp, hm, hy', List.length_map, Int.toNat_natCast, hw] | refine calling (cl) ?_ | refine callingH (cl) ?_ | refine And.intro (by omega) ?_ | refine And.intro (fun d hd => by (repeat (rcases hd with rfl | hd; · exact ⟨rfl, rfl⟩)); cases hd) ?_))
        all_goals (repeat refine And.intro (by omega) ?_)
        all_goals rw [hr]; rfl
      · (repeat (first | simp (maxSteps := 4000000) only [go_sem, ↓reduceIte, reduceCtorEq, Nat.reduceEqDiff, Nat.reduceBEq, Nat.reduceAdd, Nat.reduceSub, Nat.reduceMul, Nat.reduceLT, Nat.reduceLeDiff, Nat.reduceBNe, Int.reduceBEq, Int.reduceBNe, Int.reduceLT, Int.reduceLE, Par.a, Opr.a, Ans.a, Evt.a, nul, t0, t3, hlt', hgj, hgy, hk, hv, hp, hm, hy', List.length_map, Int.toNat_natCast, hw] | refine calling (cl) ?_ | refine callingH (cl) ?_ | refine And.intro (by omega) ?_ | refine And.intro (fun d hd => by (repeat (rcases hd with rfl | hd; · exact ⟨rfl, rfl⟩)); cases hd) ?_))
        refine ⟨l.length - (j + 1), by omega, j + 1, by omega, rfl, ?_, ?_, by rw [hr]; simp⟩
        · simp (maxSteps := 4000000) only [go_sem, ↓reduceIte, reduceCtorEq, Nat.reduceEqDiff, Nat.reduceBEq, Nat.reduceAdd, Nat.reduceSub, Nat.reduceMul, Nat.reduceLT, Nat.reduceLeDiff, Nat.reduceBNe, Int.reduceBEq, Int.reduceBNe, Int.reduceLT, Int.reduceLE, Par.a, Opr.a, Ans.a, Evt.a, nul, t0]
        · simp (maxSteps := 4000000) only [go_sem, ↓reduceIte, reduceCtorEq, Nat.reduceEqDiff, Nat.reduceBEq, Nat.reduceAdd, Nat.reduceSub, Nat.reduceMul, Nat.reduceLT, Nat.reduceLeDiff, Nat.reduceBNe, Int.reduceBEq, Int.reduceBNe, Int.reduceLT, Int.reduceLE, Par.a, Opr.a, Ans.a, Evt.a, nul, hw]
  · have hlt' : ¬ (j : Int) < (l.length : Int) := by omega
    obtain rfl : j = l.length := by omega
    simp (maxSteps := 4000000) only [go_sem, ↓reduceIte, reduceCtorEq, Nat.reduceEqDiff, Nat.reduceBEq, Nat.reduceAdd, Nat.reduceSub, Nat.reduceMul, Nat.reduceLT, Nat.reduceLeDiff, Nat.reduceBNe, Int.reduceBEq, Int.reduceBNe, Int.reduceLT, Int.reduceLE, Par.a, Opr.a, Ans.a, Evt.a, nul, t0, t3, hlt', List.length_map]
    rw [hr, rightG_end]
theorem fourB {s1 s2 : Bool} {A : Prop} (h : A ∨ ¬A) : (s1 = false ∧ (A ∨ ¬A)) ∨ (s1 = true ∧ s2 = false ∧ (A ∨ ¬A)) ∨ (s1 = true ∧ s2 = true ∧ A) ∨ (s1 = true ∧ s2 = true ∧ ¬A) := by
  rcases h with h | h <;> cases s1 <;> cases s2 <;> simp [h]
set_option maxHeartbeats 4000000 in
theorem rTold_ok (e : Evt) (h : FitE e) : AFn Tryd.prog 24 [e.a] (.bool (toldB e)) := by
  refine fn_rTold rfl ?_
  have l1 := sumN_len (f := Par.bulk) (fun x => by unfold Par.bulk; omega) e.ans.prs
  have l2 := h.s
  have l3 : ∀ p, p ∈ e.ans.prs → p.key.size ≤ 281474976710656 := fun p hp => by
    have := sumN_mem (f := Par.bulk) hp
    have q : p.bulk = 1 + p.key.size + p.val.size := rfl
    omega
  have n1 := near_ok e.client
  have n2 := near_ok e.began
  have n3 := near_ok e.point
  have n4 := near_ok e.ended
  have cR := rRight_ok e.op (by have := h.k; omega) (by have := h.h; omega)
  have hT : toldB e = (nearB e.client && nearB e.began && nearB e.point && nearB e.ended && (eqO e.op Opr.zero || e.op.right) &&
    (sameA e.ans (wantA e) && nearB (wantA e).err && decide (((wantA e).val.size : Int) ≤ 16) && rightP (wantA e).prs)) := by
    unfold toldB
    rw [decide_eq_decide.2 (show (wantA e).val.size ≤ 16 ↔ ((wantA e).val.size : Int) ≤ 16 by omega)]
  have hw : ∃ a : Ans, wantA e = a ∧ (a.prs = e.ans.prs ∨ a.prs = []) := by
    refine ⟨_, rfl, ?_⟩
    unfold wantA
    (repeat' split) <;> first | exact .inl rfl | exact .inr rfl
  have cS := rSame10_ok e.ans (wantA e) (by omega) (by obtain ⟨a, e1, e2⟩ := hw; rw [e1]; rcases e2 with e2 | e2 <;> rw [e2] <;> first | omega | exact Nat.zero_le _)
  have n5 := near_ok (wantA e).err
  have c9 := rRight9_ok (wantA e).prs (by obtain ⟨a, e1, e2⟩ := hw; rw [e1]; rcases e2 with e2 | e2 <;> rw [e2] <;> first | omega | exact Nat.zero_le _) (by
    obtain ⟨a, e1, e2⟩ := hw; rw [e1]; rcases e2 with e2 | e2 <;> rw [e2]
    · exact l3
    · intro p hp; cases hp)
  rw [hT]
  have h2 : eqO e.op Opr.zero = ((e.op.kind == 0) && ((e.op.key.toList == (⟨#[]⟩ : ByteArray).toList) && ((e.op.hi.toList == (⟨#[]⟩ : ByteArray).toList) && ((e.op.op == false) && ((e.op.val.toList == (⟨#[]⟩ : ByteArray).toList) && (e.op.lim == 0)))))) := by
    unfold eqO; simp only [Bool.and_assoc]; rfl
  replace h2 := h2.symm
  have hsz : ((wantA e).val.size : Int) ≤ 16 ∨ ¬ ((wantA e).val.size : Int) ≤ 16 := Classical.em _
  clear hw hT l1 l2 l3 h
  generalize eqO e.op Opr.zero = oz at *
  generalize e.op.right = orr at *
  generalize nearB e.client = b1 at *
  generalize nearB e.began = b2 at *
  generalize nearB e.point = b3 at *
  generalize nearB e.ended = b4 at *
  obtain ⟨client, op, ans, began, point, ended, done⟩ := e
  obtain ⟨kind, key, hi, opn, val, lim⟩ := op
  obtain ⟨err, has, v, prs⟩ := ans
  simp only at h2 n1 n2 n3 n4 cR cS
  cases b1
  · (repeat (first | simp (maxSteps := 4000000) only [go_sem, ↓reduceIte, reduceCtorEq, Nat.reduceEqDiff, Nat.reduceBEq, Nat.reduceAdd, Nat.reduceSub, Nat.reduceMul, Nat.reduceLT, Nat.reduceLeDiff, Nat.reduceBNe, Int.reduceBEq, Int.reduceBNe, Int.reduceLT, Int.reduceLE, Par.a, Opr.a, Ans.a, Evt.a, nul] | refine calling (n1) ?_ | refine callingH (n1) ?_ | refine And.intro (by omega) ?_ | refine And.intro (fun d hd => by (repeat (rcases hd with rfl | hd; · exact ⟨rfl, rfl⟩)); cases hd) ?_))
  cases b2
  · (repeat (first | simp (maxSteps := 4000000) only [go_sem, ↓reduceIte, reduceCtorEq, Nat.reduceEqDiff, Nat.reduceBEq, Nat.reduceAdd, Nat.reduceSub, Nat.reduceMul, Nat.reduceLT, Nat.reduceLeDiff, Nat.reduceBNe, Int.reduceBEq, Int.reduceBNe, Int.reduceLT, Int.reduceLE, Par.a, Opr.a, Ans.a, Evt.a, nul] | refine calling (n1) ?_ | refine callingH (n1) ?_ | refine calling (n2) ?_ | refine callingH (n2) ?_ | refine And.intro (by omega) ?_ | refine And.intro (fun d hd => by (repeat (rcases hd with rfl | hd; · exact ⟨rfl, rfl⟩)); cases hd) ?_))
  cases b3
  · (repeat (first | simp (maxSteps := 4000000) only [go_sem, ↓reduceIte, reduceCtorEq, Nat.reduceEqDiff, Nat.reduceBEq, Nat.reduceAdd, Nat.reduceSub, Nat.reduceMul, Nat.reduceLT, Nat.reduceLeDiff, Nat.reduceBNe, Int.reduceBEq, Int.reduceBNe, Int.reduceLT, Int.reduceLE, Par.a, Opr.a, Ans.a, Evt.a, nul] | refine calling (n1) ?_ | refine callingH (n1) ?_ | refine calling (n2) ?_ | refine callingH (n2) ?_ | refine calling (n3) ?_ | refine callingH (n3) ?_ | refine And.intro (by omega) ?_ | refine And.intro (fun d hd => by (repeat (rcases hd with rfl | hd; · exact ⟨rfl, rfl⟩)); cases hd) ?_))
  cases b4
  · (repeat (first | simp (maxSteps := 4000000) only [go_sem, ↓reduceIte, reduceCtorEq, Nat.reduceEqDiff, Nat.reduceBEq, Nat.reduceAdd, Nat.reduceSub, Nat.reduceMul, Nat.reduceLT, Nat.reduceLeDiff, Nat.reduceBNe, Int.reduceBEq, Int.reduceBNe, Int.reduceLT, Int.reduceLE, Par.a, Opr.a, Ans.a, Evt.a, nul] | refine calling (n1) ?_ | refine callingH (n1) ?_ | refine calling (n2) ?_ | refine callingH (n2) ?_ | refine calling (n3) ?_ | refine callingH (n3) ?_ | refine calling (n4) ?_ | refine callingH (n4) ?_ | refine And.intro (by omega) ?_ | refine And.intro (fun d hd => by (repeat (rcases hd with rfl | hd; · exact ⟨rfl, rfl⟩)); cases hd) ?_))
  have hq : (oz = false ∧ orr = false) ∨ oz = true ∨ (oz = false ∧ orr = true) := by cases oz <;> cases orr <;> simp
  rcases hq with ⟨rfl, rfl⟩ | hq
  · (repeat (first | simp (maxSteps := 4000000) only [go_sem, ↓reduceIte, reduceCtorEq, Nat.reduceEqDiff, Nat.reduceBEq, Nat.reduceAdd, Nat.reduceSub, Nat.reduceMul, Nat.reduceLT, Nat.reduceLeDiff, Nat.reduceBNe, Int.reduceBEq, Int.reduceBNe, Int.reduceLT, Int.reduceLE, Par.a, Opr.a, Ans.a, Evt.a, nul, h2] | refine calling (n1) ?_ | refine callingH (n1) ?_ | refine calling (n2) ?_ | refine callingH (n2) ?_ | refine calling (n3) ?_ | refine callingH (n3) ?_ | refine calling (n4) ?_ | refine callingH (n4) ?_ | refine calling (cR) ?_ | refine callingH (cR) ?_ | refine And.intro (by omega) ?_ | refine And.intro (fun d hd => by (repeat (rcases hd with rfl | hd; · exact ⟨rfl, rfl⟩)); cases hd) ?_))
  have hor : (oz || orr) = true := by rcases hq with rfl | ⟨rfl, rfl⟩ <;> simp
  rw [hor]
  clear hor
  rcases hq with rfl | ⟨rfl, rfl⟩
  all_goals
    cases done
    · -- not done
      have hW : wantA ⟨client, ⟨kind, key, hi, opn, val, lim⟩, ⟨err, has, v, prs⟩, began, point, ended, false⟩ = Ans.zero := by rfl
      rw [hW] at cS n5 c9 hsz ⊢
      simp only [Ans.zero] at cS n5 c9 hsz ⊢
      generalize sameA _ _ = s1 at *
      generalize nearB _ = s2 at *
      generalize rightP _ = s4 at *
      clear hW
      rcases fourB (s1 := s1) (s2 := s2) hsz with ⟨rfl, hsz⟩ | ⟨rfl, rfl, hsz⟩ | ⟨rfl, rfl, hsz⟩ | ⟨rfl, rfl, hsz⟩
      all_goals (repeat (first | simp (maxSteps := 4000000) only [go_sem, ↓reduceIte, reduceCtorEq, Nat.reduceEqDiff, Nat.reduceBEq, Nat.reduceAdd, Nat.reduceSub, Nat.reduceMul, Nat.reduceLT, Nat.reduceLeDiff, Nat.reduceBNe, Int.reduceBEq, Int.reduceBNe, Int.reduceLT, Int.reduceLE, Par.a, Opr.a, Ans.a, Evt.a, nul, h2, hsz, Bool.and_true] | refine calling (n1) ?_ | refine callingH (n1) ?_ | refine calling (n2) ?_ | refine callingH (n2) ?_ | refine calling (n3) ?_ | refine callingH (n3) ?_ | refine calling (n4) ?_ | refine callingH (n4) ?_ | refine calling (cR) ?_ | refine callingH (cR) ?_ | refine calling (cS) ?_ | refine callingH (cS) ?_ | refine calling (n5) ?_ | refine callingH (n5) ?_ | refine calling (c9) ?_ | refine callingH (c9) ?_ | refine And.intro (by omega) ?_ | refine And.intro (fun d hd => by (repeat (rcases hd with rfl | hd; · exact ⟨rfl, rfl⟩)); cases hd) ?_))
      all_goals first | rfl | exact absurd (by decide) hsz
    by_cases e0 : err = 0
    case neg =>
      have f0 : (err == 0) = false := by simp [e0]
      have hW : wantA ⟨client, ⟨kind, key, hi, opn, val, lim⟩, ⟨err, has, v, prs⟩, began, point, ended, true⟩ = ⟨err, false, nul, []⟩ := by simp [wantA, e0]
      rw [hW] at cS n5 c9 hsz ⊢
      simp only [Ans.zero] at cS n5 c9 hsz ⊢
      generalize sameA _ _ = s1 at *
      generalize nearB _ = s2 at *
      generalize rightP _ = s4 at *
      clear hW
      rcases fourB (s1 := s1) (s2 := s2) hsz with ⟨rfl, hsz⟩ | ⟨rfl, rfl, hsz⟩ | ⟨rfl, rfl, hsz⟩ | ⟨rfl, rfl, hsz⟩
      all_goals (repeat (first | simp (maxSteps := 4000000) only [go_sem, ↓reduceIte, reduceCtorEq, Nat.reduceEqDiff, Nat.reduceBEq, Nat.reduceAdd, Nat.reduceSub, Nat.reduceMul, Nat.reduceLT, Nat.reduceLeDiff, Nat.reduceBNe, Int.reduceBEq, Int.reduceBNe, Int.reduceLT, Int.reduceLE, Par.a, Opr.a, Ans.a, Evt.a, nul, h2, hsz, f0] | refine calling (n1) ?_ | refine callingH (n1) ?_ | refine calling (n2) ?_ | refine callingH (n2) ?_ | refine calling (n3) ?_ | refine callingH (n3) ?_ | refine calling (n4) ?_ | refine callingH (n4) ?_ | refine calling (cR) ?_ | refine callingH (cR) ?_ | refine calling (cS) ?_ | refine callingH (cS) ?_ | refine calling (n5) ?_ | refine callingH (n5) ?_ | refine calling (c9) ?_ | refine callingH (c9) ?_ | refine And.intro (by omega) ?_ | refine And.intro (fun d hd => by (repeat (rcases hd with rfl | hd; · exact ⟨rfl, rfl⟩)); cases hd) ?_))
      all_goals first | rfl | exact absurd (by decide) hsz
    subst e0
    have f0 : ((0 : Int) == 0) = true := rfl
    by_cases e5 : kind = 5
    · have f5 : (kind == 5) = true := by simp [e5]
      have f6 : (kind == 6) = false := by simp [e5]
      cases has
      · -- nothing
        have hW : wantA ⟨client, ⟨kind, key, hi, opn, val, lim⟩, ⟨0, false, v, prs⟩, began, point, ended, true⟩ = Ans.zero := by simp [wantA, e5]
        rw [hW] at cS n5 c9 hsz ⊢
        simp only [Ans.zero] at cS n5 c9 hsz ⊢
        generalize sameA _ _ = s1 at *
        generalize nearB _ = s2 at *
        generalize rightP _ = s4 at *
        clear hW
        rcases fourB (s1 := s1) (s2 := s2) hsz with ⟨rfl, hsz⟩ | ⟨rfl, rfl, hsz⟩ | ⟨rfl, rfl, hsz⟩ | ⟨rfl, rfl, hsz⟩
        all_goals (repeat (first | simp (maxSteps := 4000000) only [go_sem, ↓reduceIte, reduceCtorEq, Nat.reduceEqDiff, Nat.reduceBEq, Nat.reduceAdd, Nat.reduceSub, Nat.reduceMul, Nat.reduceLT, Nat.reduceLeDiff, Nat.reduceBNe, Int.reduceBEq, Int.reduceBNe, Int.reduceLT, Int.reduceLE, Par.a, Opr.a, Ans.a, Evt.a, nul, h2, hsz, f0, f5, f6] | refine calling (n1) ?_ | refine callingH (n1) ?_ | refine calling (n2) ?_ | refine callingH (n2) ?_ | refine calling (n3) ?_ | refine callingH (n3) ?_ | refine calling (n4) ?_ | refine callingH (n4) ?_ | refine calling (cR) ?_ | refine callingH (cR) ?_ | refine calling (cS) ?_ | refine callingH (cS) ?_ | refine calling (n5) ?_ | refine callingH (n5) ?_ | refine calling (c9) ?_ | refine callingH (c9) ?_ | refine And.intro (by omega) ?_ | refine And.intro (fun d hd => by (repeat (rcases hd with rfl | hd; · exact ⟨rfl, rfl⟩)); cases hd) ?_))
        all_goals first | rfl | exact absurd (by decide) hsz
      · -- a value
        have hW : wantA ⟨client, ⟨kind, key, hi, opn, val, lim⟩, ⟨0, true, v, prs⟩, began, point, ended, true⟩ = ⟨0, true, v, []⟩ := by simp [wantA, e5]
        rw [hW] at cS n5 c9 hsz ⊢
        simp only [Ans.zero] at cS n5 c9 hsz ⊢
        generalize sameA _ _ = s1 at *
        generalize nearB _ = s2 at *
        generalize rightP _ = s4 at *
        clear hW
        rcases fourB (s1 := s1) (s2 := s2) hsz with ⟨rfl, hsz⟩ | ⟨rfl, rfl, hsz⟩ | ⟨rfl, rfl, hsz⟩ | ⟨rfl, rfl, hsz⟩
        all_goals (repeat (first | simp (maxSteps := 4000000) only [go_sem, ↓reduceIte, reduceCtorEq, Nat.reduceEqDiff, Nat.reduceBEq, Nat.reduceAdd, Nat.reduceSub, Nat.reduceMul, Nat.reduceLT, Nat.reduceLeDiff, Nat.reduceBNe, Int.reduceBEq, Int.reduceBNe, Int.reduceLT, Int.reduceLE, Par.a, Opr.a, Ans.a, Evt.a, nul, h2, hsz, f0, f5, f6] | refine calling (n1) ?_ | refine callingH (n1) ?_ | refine calling (n2) ?_ | refine callingH (n2) ?_ | refine calling (n3) ?_ | refine callingH (n3) ?_ | refine calling (n4) ?_ | refine callingH (n4) ?_ | refine calling (cR) ?_ | refine callingH (cR) ?_ | refine calling (cS) ?_ | refine callingH (cS) ?_ | refine calling (n5) ?_ | refine callingH (n5) ?_ | refine calling (c9) ?_ | refine callingH (c9) ?_ | refine And.intro (by omega) ?_ | refine And.intro (fun d hd => by (repeat (rcases hd with rfl | hd; · exact ⟨rfl, rfl⟩)); cases hd) ?_))
        all_goals first | rfl | exact absurd (by decide) hsz
    have f5 : (kind == 5) = false := by simp [e5]
    by_cases e6 : kind = 6
    · have f6 : (kind == 6) = true := by simp [e6]
      have hW : wantA ⟨client, ⟨kind, key, hi, opn, val, lim⟩, ⟨0, has, v, prs⟩, began, point, ended, true⟩ = ⟨0, false, nul, prs⟩ := by simp [wantA, e6]
      rw [hW] at cS n5 c9 hsz ⊢
      simp only [Ans.zero] at cS n5 c9 hsz ⊢
      generalize sameA _ _ = s1 at *
      generalize nearB _ = s2 at *
      generalize rightP _ = s4 at *
      clear hW
      rcases fourB (s1 := s1) (s2 := s2) hsz with ⟨rfl, hsz⟩ | ⟨rfl, rfl, hsz⟩ | ⟨rfl, rfl, hsz⟩ | ⟨rfl, rfl, hsz⟩
      all_goals (repeat (first | simp (maxSteps := 4000000) only [go_sem, ↓reduceIte, reduceCtorEq, Nat.reduceEqDiff, Nat.reduceBEq, Nat.reduceAdd, Nat.reduceSub, Nat.reduceMul, Nat.reduceLT, Nat.reduceLeDiff, Nat.reduceBNe, Int.reduceBEq, Int.reduceBNe, Int.reduceLT, Int.reduceLE, Par.a, Opr.a, Ans.a, Evt.a, nul, h2, hsz, f0, f5, f6] | refine calling (n1) ?_ | refine callingH (n1) ?_ | refine calling (n2) ?_ | refine callingH (n2) ?_ | refine calling (n3) ?_ | refine callingH (n3) ?_ | refine calling (n4) ?_ | refine callingH (n4) ?_ | refine calling (cR) ?_ | refine callingH (cR) ?_ | refine calling (cS) ?_ | refine callingH (cS) ?_ | refine calling (n5) ?_ | refine callingH (n5) ?_ | refine calling (c9) ?_ | refine callingH (c9) ?_ | refine And.intro (by omega) ?_ | refine And.intro (fun d hd => by (repeat (rcases hd with rfl | hd; · exact ⟨rfl, rfl⟩)); cases hd) ?_))
      all_goals first | rfl | exact absurd (by decide) hsz
    · have f6 : (kind == 6) = false := by simp [e6]
      have hW : wantA ⟨client, ⟨kind, key, hi, opn, val, lim⟩, ⟨0, has, v, prs⟩, began, point, ended, true⟩ = Ans.zero := by simp [wantA, e5, e6]
      rw [hW] at cS n5 c9 hsz ⊢
      simp only [Ans.zero] at cS n5 c9 hsz ⊢
      generalize sameA _ _ = s1 at *
      generalize nearB _ = s2 at *
      generalize rightP _ = s4 at *
      clear hW
      rcases fourB (s1 := s1) (s2 := s2) hsz with ⟨rfl, hsz⟩ | ⟨rfl, rfl, hsz⟩ | ⟨rfl, rfl, hsz⟩ | ⟨rfl, rfl, hsz⟩
      all_goals (repeat (first | simp (maxSteps := 4000000) only [go_sem, ↓reduceIte, reduceCtorEq, Nat.reduceEqDiff, Nat.reduceBEq, Nat.reduceAdd, Nat.reduceSub, Nat.reduceMul, Nat.reduceLT, Nat.reduceLeDiff, Nat.reduceBNe, Int.reduceBEq, Int.reduceBNe, Int.reduceLT, Int.reduceLE, Par.a, Opr.a, Ans.a, Evt.a, nul, h2, hsz, f0, f5, f6] | refine calling (n1) ?_ | refine callingH (n1) ?_ | refine calling (n2) ?_ | refine callingH (n2) ?_ | refine calling (n3) ?_ | refine callingH (n3) ?_ | refine calling (n4) ?_ | refine callingH (n4) ?_ | refine calling (cR) ?_ | refine callingH (cR) ?_ | refine calling (cS) ?_ | refine callingH (cS) ?_ | refine calling (n5) ?_ | refine callingH (n5) ?_ | refine calling (c9) ?_ | refine callingH (c9) ?_ | refine And.intro (by omega) ?_ | refine And.intro (fun d hd => by (repeat (rcases hd with rfl | hd; · exact ⟨rfl, rfl⟩)); cases hd) ?_))
      all_goals first | rfl | exact absurd (by decide) hsz
end
section
/-
  Traces: nodes as lines: the code, walked.
-/
open Go.RowKit
set_option linter.unusedVariables false
set_option linter.unusedSimpArgs false
set_option maxRecDepth 100000
attribute [local go_sem ↓] runOp headOp
attribute [local go_sem ↓] ir_tNode
attribute [local go_sem] res_tNode e_tNode_0 e_tNode_1 t_tNode_1 e_tNode_2 e_tNode_3 e_tNode_4 t_tNode_4 e_tNode_5 t_tNode_5 e_tNode_6 e_tNode_7 t_tNode_7 e_tNode_8 t_tNode_8 e_tNode_9 e_tNode_11 t_tNode_11 h_tNode_11
theorem msgLine_size (m : Msg) (hs : -9223372036854775808 ≤ m.stamp ∧ m.stamp ≤ 9223372036854775807) (h1 : m.key.size ≤ 2000) (h2 : m.hi.size ≤ 2000) (h3 : m.val.size ≤ 2000) : m.line.size ≤ 24100 := by
  have d1 := decS_small m.stamp hs.1 hs.2
  have q1 := quoteF_size m.key
  have q2 := quoteF_size m.hi
  have q3 := quoteF_size m.val
  have e : (⟨#[32]⟩ : ByteArray).size = 1 := rfl
  have hl : ([decS m.stamp, m.word, quoteF m.key] ++ m.rest).length ≤ 4 := by
    unfold Msg.rest
    repeat' split
    all_goals simp
  have h := joinB_size (⟨#[32]⟩ : ByteArray) 6002 ([decS m.stamp, m.word, quoteF m.key] ++ m.rest) (fun x hx => by
    rw [e]
    rcases List.mem_append.1 hx with hx | hx
    · simp only [List.mem_cons, List.not_mem_nil, or_false] at hx
      rcases hx with rfl | rfl | rfl
      · omega
      · unfold Msg.word
        repeat' split
        all_goals decide
      · omega
    · unfold Msg.rest at hx
      split at hx
      · rw [List.mem_singleton.1 hx]; omega
      · split at hx
        · split at hx
          · rw [List.mem_singleton.1 hx]; decide
          · rw [List.mem_singleton.1 hx]; omega
        · cases hx)
  have h2 := Nat.mul_le_mul_right 6002 hl
  unfold Msg.line
  omega
def msgsT (n : Nd) (j : Nat) : ByteArray := (⟨#[109, 115, 103, 115]⟩ : ByteArray) ++ (⟨#[32]⟩ : ByteArray) ++ decS n.msgs.length ++ catF (fun m => (⟨#[32, 44, 32]⟩ : ByteArray) ++ m.line) (n.msgs.take j)
theorem msgsT_size {n : Nd} (h : n.Fit) (j : Nat) : (msgsT n j).size ≤ 49000000 := by
  have d1 := decS_small n.msgs.length (by have := h.nmsg; omega) (by have := h.nmsg; omega)
  have hc := catF_take_size (fun m : Msg => (⟨#[32, 44, 32]⟩ : ByteArray) ++ m.line) 24103 n.msgs j (fun m hm => by
    obtain ⟨a, b, c⟩ := h.ms m hm
    have := msgLine_size m (h.ok.msgs.2 m hm).stamp a b c
    have e : (⟨#[32, 44, 32]⟩ : ByteArray).size = 3 := rfl
    show (_ ++ _ : ByteArray).size ≤ _
    rw [ByteArray.size_append, e]; omega)
  have h2 := Nat.mul_le_mul_right 24103 h.nmsg
  have e1 : (⟨#[109, 115, 103, 115]⟩ : ByteArray).size = 4 := rfl
  have e2 : (⟨#[32]⟩ : ByteArray).size = 1 := rfl
  unfold msgsT
  rw [ByteArray.size_append, ByteArray.size_append, ByteArray.size_append, e1, e2]
  omega
theorem below_size {n : Nd} (h : n.Fit) : n.below.size ≤ 61000000 := by
  have e : (⟨#[32]⟩ : ByteArray).size = 1 := rfl
  unfold Nd.below
  split
  · have hp := fit_pairs h.nrow h.rws
    have := joinB_size (⟨#[32]⟩ : ByteArray) 30000001 [(⟨#[114, 111, 119, 115]⟩ : ByteArray), pairsF n.rows] (fun x hx => by
      simp only [List.mem_cons, List.not_mem_nil, or_false] at hx
      rcases hx with rfl | rfl
      · decide
      · rw [e]; omega)
    simp only [List.length_cons, List.length_nil] at this
    omega
  · have hc := catF_size (fun y : ByteArray => (⟨#[32]⟩ : ByteArray) ++ y) 6002 (kidsW n.pivots 0 n.kids) (fun x hx => by
      have := kidsW_size n.pivots h.pivs n.kids 0 h.ok.kids.2 x hx
      show (_ ++ _ : ByteArray).size ≤ _
      rw [ByteArray.size_append, e]; omega)
    have hl := kidsW_len n.pivots n.kids 0
    have := Nat.mul_le_mul_right 6002 hl
    have h3 := Nat.mul_le_mul_right 12004 h.nkid
    have e1 : (⟨#[107, 105, 100, 115]⟩ : ByteArray).size = 4 := rfl
    rw [ByteArray.size_append, e1]; omega
def tnInv (n : Nd) (e : ByteArray) (k : Nat) (σ : St) : Prop :=
  ∃ j : Nat, j ≤ n.msgs.length ∧ k = n.msgs.length - j ∧ σ.T 1 = .ptr 1 0 0 ∧ σ.H 1 = some ⟨10, 34, [n.a], 0⟩ ∧ σ.T 3 = .str e ∧ σ.T 4 = .str (msgsT n j) ∧ σ.T 19 = .sl (n.msgs.map Msg.a) ∧ σ.T 20 = .int .i64 n.msgs.length ∧ σ.T 21 = .int .i64 j
theorem tNode_core (n : Nd) (h : n.Fit) (e : ByteArray) (he : e = if n.top then (⟨#[42]⟩ : ByteArray) else quoteF n.high) : AFn Tryd.prog 50 [n.a] (.str n.line) := by
  refine fn_tNode rfl ?_
  have hnm := h.nmsg
  have d0 := decS_small n.msgs.length (by omega) (by omega)
  have qh := quoteF_size n.high
  have hh := h.hi
  have es : e.size ≤ 6001 := by
    rw [he]; split
    · decide
    · omega
  have c0 := quote_ok n.high (by omega)
  have c1 := dec_ok n.msgs.length ⟨by omega, by omega⟩
  have c2 := tLine_ok [(⟨#[109, 115, 103, 115]⟩ : ByteArray), decS n.msgs.length] 100 (by simp) (by omega) (by simp [baz]; omega)
  have e2 : joinB [(⟨#[109, 115, 103, 115]⟩ : ByteArray), decS n.msgs.length] (⟨#[32]⟩ : ByteArray) = msgsT n 0 := by
    rw [joinB2]; unfold msgsT; exact (ba_nil _).symm
  rw [e2] at c2
  have cb := tBelow_ok n h
  have bs := below_size h
  have ms := msgsT_size h n.msgs.length
  have em : msgsT n n.msgs.length = msgsF n.msgs := by unfold msgsT msgsF; rw [List.take_length]
  have k1 := dec_ok n.slot h.ok.slot
  have k2 := dec_ok n.level h.ok.level
  have k3 := dec_ok n.seen h.ok.seen
  have k4 := dec_ok n.right h.ok.right
  have z1 := decS_small n.slot h.ok.slot.1 h.ok.slot.2
  have z2 := decS_small n.level h.ok.level.1 h.ok.level.2
  have z3 := decS_small n.seen h.ok.seen.1 h.ok.seen.2
  have z4 := decS_small n.right h.ok.right.1 h.ok.right.2
  have cl := tLine_ok [(⟨#[110, 111, 100, 101]⟩ : ByteArray), decS n.slot, decS n.level, decS n.seen, decS n.right, e, (⟨#[58]⟩ : ByteArray), n.below, (⟨#[58]⟩ : ByteArray), msgsT n n.msgs.length] 100000000 (by simp) (by omega) (by simp [baz]; omega)
  have el : n.line = joinB [(⟨#[110, 111, 100, 101]⟩ : ByteArray), decS n.slot, decS n.level, decS n.seen, decS n.right, e, (⟨#[58]⟩ : ByteArray), n.below, (⟨#[58]⟩ : ByteArray), msgsT n n.msgs.length] (⟨#[32]⟩ : ByteArray) := by
    unfold Nd.line; rw [em, he]
  rw [el]
  cases ht : n.top with
  | true =>
    rw [ht] at he
    simp only [if_true] at he
    (repeat (first | simp (maxSteps := 4000000) only [go_sem, ↓reduceIte, reduceCtorEq, Nat.reduceEqDiff, Nat.reduceBEq, Nat.reduceAdd, Nat.reduceSub, Nat.reduceMul, Nat.reduceLT, Nat.reduceLeDiff, Nat.reduceBNe, Int.reduceBEq, Int.reduceBNe, Int.reduceLT, Int.reduceLE, Msg.a, Par.a, Nd.a, ht, List.length_map] | refine calling (c0) ?_ | refine callingH (c0) ?_ | refine calling (c1) ?_ | refine callingH (c1) ?_ | refine calling (c2) ?_ | refine callingH (c2) ?_ | refine And.intro (by omega) ?_ | refine And.intro (fun d hd => by (repeat (rcases hd with rfl | hd; · exact ⟨rfl, rfl⟩)); cases hd) ?_))
    refine run_loop (tnInv n e) (k := n.msgs.length) ⟨0, by omega, rfl, ?_, ?_, ?_, ?_, ?_, ?_, ?_⟩ ?_
    · simp (maxSteps := 4000000) only [go_sem, ↓reduceIte, reduceCtorEq, Nat.reduceEqDiff, Nat.reduceBEq, Nat.reduceAdd, Nat.reduceSub, Nat.reduceMul, Nat.reduceLT, Nat.reduceLeDiff, Nat.reduceBNe, Int.reduceBEq, Int.reduceBNe, Int.reduceLT, Int.reduceLE, Msg.a, Par.a, Nd.a]
    · simp (maxSteps := 4000000) only [go_sem, ↓reduceIte, reduceCtorEq, Nat.reduceEqDiff, Nat.reduceBEq, Nat.reduceAdd, Nat.reduceSub, Nat.reduceMul, Nat.reduceLT, Nat.reduceLeDiff, Nat.reduceBNe, Int.reduceBEq, Int.reduceBNe, Int.reduceLT, Int.reduceLE, Msg.a, Par.a, Nd.a, ht]
    · simp (maxSteps := 4000000) only [go_sem, ↓reduceIte, reduceCtorEq, Nat.reduceEqDiff, Nat.reduceBEq, Nat.reduceAdd, Nat.reduceSub, Nat.reduceMul, Nat.reduceLT, Nat.reduceLeDiff, Nat.reduceBNe, Int.reduceBEq, Int.reduceBNe, Int.reduceLT, Int.reduceLE, Msg.a, Par.a, Nd.a, he]
    · simp (maxSteps := 4000000) only [go_sem, ↓reduceIte, reduceCtorEq, Nat.reduceEqDiff, Nat.reduceBEq, Nat.reduceAdd, Nat.reduceSub, Nat.reduceMul, Nat.reduceLT, Nat.reduceLeDiff, Nat.reduceBNe, Int.reduceBEq, Int.reduceBNe, Int.reduceLT, Int.reduceLE, Msg.a, Par.a, Nd.a]
    · simp (maxSteps := 4000000) only [go_sem, ↓reduceIte, reduceCtorEq, Nat.reduceEqDiff, Nat.reduceBEq, Nat.reduceAdd, Nat.reduceSub, Nat.reduceMul, Nat.reduceLT, Nat.reduceLeDiff, Nat.reduceBNe, Int.reduceBEq, Int.reduceBNe, Int.reduceLT, Int.reduceLE, Msg.a, Par.a, Nd.a]
    · simp (maxSteps := 4000000) only [go_sem, ↓reduceIte, reduceCtorEq, Nat.reduceEqDiff, Nat.reduceBEq, Nat.reduceAdd, Nat.reduceSub, Nat.reduceMul, Nat.reduceLT, Nat.reduceLeDiff, Nat.reduceBNe, Int.reduceBEq, Int.reduceBNe, Int.reduceLT, Int.reduceLE, Msg.a, Par.a, Nd.a, List.length_map]
    · simp (maxSteps := 4000000) only [go_sem, ↓reduceIte, reduceCtorEq, Nat.reduceEqDiff, Nat.reduceBEq, Nat.reduceAdd, Nat.reduceSub, Nat.reduceMul, Nat.reduceLT, Nat.reduceLeDiff, Nat.reduceBNe, Int.reduceBEq, Int.reduceBNe, Int.reduceLT, Int.reduceLE, Msg.a, Par.a, Nd.a]
      rfl
    rintro k σ ⟨j, hj, rfl, t1, o1, t3, t4, t19, t20, t21⟩
    simp only [r_tNode_l10]
    by_cases hlt : j < n.msgs.length
    · have hlt' : (j : Int) < (n.msgs.length : Int) := by omega
      obtain ⟨x, hx⟩ := get_lt hlt
      have hgj := at_map (f := Msg.a) hx
      simp only [Msg.a] at hgj
      have hw := wrapS (j := j) (by omega)
      obtain ⟨s1, s2, s3⟩ := h.ms x (List.mem_of_getElem? hx)
      have st := (h.ok.msgs.2 x (List.mem_of_getElem? hx)).stamp
      have c4 := tMsg_ok x st s1 s2 s3
      have ls := msgLine_size x st s1 s2 s3
      have ts := msgsT_size h j
      have c5 := tLine_ok [msgsT n j, (⟨#[44]⟩ : ByteArray), x.line] 50000000 (by simp) (by omega) (by simp [baz]; omega)
      have e5 : joinB [msgsT n j, (⟨#[44]⟩ : ByteArray), x.line] (⟨#[32]⟩ : ByteArray) = msgsT n (j + 1) := by
        rw [joinB3]
        unfold msgsT
        rw [take_at hx, catF_snoc]
        have e6 : (⟨#[32]⟩ : ByteArray) ++ (⟨#[44]⟩ : ByteArray) ++ (⟨#[32]⟩ : ByteArray) = (⟨#[32, 44, 32]⟩ : ByteArray) := by decide +kernel
        rw [← e6]
        simp only [ba_assoc]
      rw [e5] at c5
      (repeat (first | simp (maxSteps := 4000000) only [go_sem, ↓reduceIte, reduceCtorEq, Nat.reduceEqDiff, Nat.reduceBEq, Nat.reduceAdd, Nat.reduceSub, Nat.reduceMul, Nat.reduceLT, Nat.reduceLeDiff, Nat.reduceBNe, Int.reduceBEq, Int.reduceBNe, Int.reduceLT, Int.reduceLE, Msg.a, Par.a, Nd.a, t1, o1, t3, t4, t19, t20, t21, hlt', hgj, List.length_map, Int.toNat_natCast] | refine calling (c4) ?_ | refine callingH (c4) ?_ | refine calling (c5) ?_ | refine callingH (c5) ?_ | refine And.intro (by omega) ?_ | refine And.intro (fun d hd => by (repeat (rcases hd with rfl | hd; · exact ⟨rfl, rfl⟩)); cases hd) ?_))
      refine ⟨n.msgs.length - (j + 1), by omega, j + 1, by omega, rfl, ?_, ?_, ?_, ?_, ?_, ?_, ?_⟩ <;>
        (simp (maxSteps := 4000000) only [go_sem, ↓reduceIte, reduceCtorEq, Nat.reduceEqDiff, Nat.reduceBEq, Nat.reduceAdd, Nat.reduceSub, Nat.reduceMul, Nat.reduceLT, Nat.reduceLeDiff, Nat.reduceBNe, Int.reduceBEq, Int.reduceBNe, Int.reduceLT, Int.reduceLE, Msg.a, Par.a, Nd.a, t1, o1, t3, t4, t19, t20, t21, hw])
    · have hlt' : ¬ (j : Int) < (n.msgs.length : Int) := by omega
      obtain rfl : j = n.msgs.length := by omega
      (repeat (first | simp (maxSteps := 4000000) only [go_sem, ↓reduceIte, reduceCtorEq, Nat.reduceEqDiff, Nat.reduceBEq, Nat.reduceAdd, Nat.reduceSub, Nat.reduceMul, Nat.reduceLT, Nat.reduceLeDiff, Nat.reduceBNe, Int.reduceBEq, Int.reduceBNe, Int.reduceLT, Int.reduceLE, Msg.a, Par.a, Nd.a, t1, o1, t3, t4, t19, t20, t21, hlt', List.length_map, Int.toNat_natCast] | refine calling (k1) ?_ | refine callingH (k1) ?_ | refine calling (k2) ?_ | refine callingH (k2) ?_ | refine calling (k3) ?_ | refine callingH (k3) ?_ | refine calling (k4) ?_ | refine callingH (k4) ?_ | refine calling (cb) ?_ | refine callingH (cb) ?_ | refine calling (cl) ?_ | refine callingH (cl) ?_ | refine And.intro (by omega) ?_ | refine And.intro (fun d hd => by (repeat (rcases hd with rfl | hd; · exact ⟨rfl, rfl⟩)); cases hd) ?_))
  | false =>
    rw [ht] at he
    simp only [Bool.false_eq_true, if_false] at he
    (repeat (first | simp (maxSteps := 4000000) only [go_sem, ↓reduceIte, reduceCtorEq, Nat.reduceEqDiff, Nat.reduceBEq, Nat.reduceAdd, Nat.reduceSub, Nat.reduceMul, Nat.reduceLT, Nat.reduceLeDiff, Nat.reduceBNe, Int.reduceBEq, Int.reduceBNe, Int.reduceLT, Int.reduceLE, Msg.a, Par.a, Nd.a, ht, List.length_map] | refine calling (c0) ?_ | refine callingH (c0) ?_ | refine calling (c1) ?_ | refine callingH (c1) ?_ | refine calling (c2) ?_ | refine callingH (c2) ?_ | refine And.intro (by omega) ?_ | refine And.intro (fun d hd => by (repeat (rcases hd with rfl | hd; · exact ⟨rfl, rfl⟩)); cases hd) ?_))
    refine run_loop (tnInv n e) (k := n.msgs.length) ⟨0, by omega, rfl, ?_, ?_, ?_, ?_, ?_, ?_, ?_⟩ ?_
    · simp (maxSteps := 4000000) only [go_sem, ↓reduceIte, reduceCtorEq, Nat.reduceEqDiff, Nat.reduceBEq, Nat.reduceAdd, Nat.reduceSub, Nat.reduceMul, Nat.reduceLT, Nat.reduceLeDiff, Nat.reduceBNe, Int.reduceBEq, Int.reduceBNe, Int.reduceLT, Int.reduceLE, Msg.a, Par.a, Nd.a]
    · simp (maxSteps := 4000000) only [go_sem, ↓reduceIte, reduceCtorEq, Nat.reduceEqDiff, Nat.reduceBEq, Nat.reduceAdd, Nat.reduceSub, Nat.reduceMul, Nat.reduceLT, Nat.reduceLeDiff, Nat.reduceBNe, Int.reduceBEq, Int.reduceBNe, Int.reduceLT, Int.reduceLE, Msg.a, Par.a, Nd.a, ht]
    · simp (maxSteps := 4000000) only [go_sem, ↓reduceIte, reduceCtorEq, Nat.reduceEqDiff, Nat.reduceBEq, Nat.reduceAdd, Nat.reduceSub, Nat.reduceMul, Nat.reduceLT, Nat.reduceLeDiff, Nat.reduceBNe, Int.reduceBEq, Int.reduceBNe, Int.reduceLT, Int.reduceLE, Msg.a, Par.a, Nd.a, he]
    · simp (maxSteps := 4000000) only [go_sem, ↓reduceIte, reduceCtorEq, Nat.reduceEqDiff, Nat.reduceBEq, Nat.reduceAdd, Nat.reduceSub, Nat.reduceMul, Nat.reduceLT, Nat.reduceLeDiff, Nat.reduceBNe, Int.reduceBEq, Int.reduceBNe, Int.reduceLT, Int.reduceLE, Msg.a, Par.a, Nd.a]
    · simp (maxSteps := 4000000) only [go_sem, ↓reduceIte, reduceCtorEq, Nat.reduceEqDiff, Nat.reduceBEq, Nat.reduceAdd, Nat.reduceSub, Nat.reduceMul, Nat.reduceLT, Nat.reduceLeDiff, Nat.reduceBNe, Int.reduceBEq, Int.reduceBNe, Int.reduceLT, Int.reduceLE, Msg.a, Par.a, Nd.a]
    · simp (maxSteps := 4000000) only [go_sem, ↓reduceIte, reduceCtorEq, Nat.reduceEqDiff, Nat.reduceBEq, Nat.reduceAdd, Nat.reduceSub, Nat.reduceMul, Nat.reduceLT, Nat.reduceLeDiff, Nat.reduceBNe, Int.reduceBEq, Int.reduceBNe, Int.reduceLT, Int.reduceLE, Msg.a, Par.a, Nd.a, List.length_map]
    · simp (maxSteps := 4000000) only [go_sem, ↓reduceIte, reduceCtorEq, Nat.reduceEqDiff, Nat.reduceBEq, Nat.reduceAdd, Nat.reduceSub, Nat.reduceMul, Nat.reduceLT, Nat.reduceLeDiff, Nat.reduceBNe, Int.reduceBEq, Int.reduceBNe, Int.reduceLT, Int.reduceLE, Msg.a, Par.a, Nd.a]
      rfl
    rintro k σ ⟨j, hj, rfl, t1, o1, t3, t4, t19, t20, t21⟩
    simp only [r_tNode_l10]
    by_cases hlt : j < n.msgs.length
    · have hlt' : (j : Int) < (n.msgs.length : Int) := by omega
      obtain ⟨x, hx⟩ := get_lt hlt
      have hgj := at_map (f := Msg.a) hx
      simp only [Msg.a] at hgj
      have hw := wrapS (j := j) (by omega)
      obtain ⟨s1, s2, s3⟩ := h.ms x (List.mem_of_getElem? hx)
      have st := (h.ok.msgs.2 x (List.mem_of_getElem? hx)).stamp
      have c4 := tMsg_ok x st s1 s2 s3
      have ls := msgLine_size x st s1 s2 s3
      have ts := msgsT_size h j
      have c5 := tLine_ok [msgsT n j, (⟨#[44]⟩ : ByteArray), x.line] 50000000 (by simp) (by omega) (by simp [baz]; omega)
      have e5 : joinB [msgsT n j, (⟨#[44]⟩ : ByteArray), x.line] (⟨#[32]⟩ : ByteArray) = msgsT n (j + 1) := by
        rw [joinB3]
        unfold msgsT
        rw [take_at hx, catF_snoc]
        have e6 : (⟨#[32]⟩ : ByteArray) ++ (⟨#[44]⟩ : ByteArray) ++ (⟨#[32]⟩ : ByteArray) = (⟨#[32, 44, 32]⟩ : ByteArray) := by decide +kernel
        rw [← e6]
        simp only [ba_assoc]
      rw [e5] at c5
      (repeat (first | simp (maxSteps := 4000000) only [go_sem, ↓reduceIte, reduceCtorEq, Nat.reduceEqDiff, Nat.reduceBEq, Nat.reduceAdd, Nat.reduceSub, Nat.reduceMul, Nat.reduceLT, Nat.reduceLeDiff, Nat.reduceBNe, Int.reduceBEq, Int.reduceBNe, Int.reduceLT, Int.reduceLE, Msg.a, Par.a, Nd.a, t1, o1, t3, t4, t19, t20, t21, hlt', hgj, List.length_map, Int.toNat_natCast] | refine calling (c4) ?_ | refine callingH (c4) ?_ | refine calling (c5) ?_ | refine callingH (c5) ?_ | refine And.intro (by omega) ?_ | refine And.intro (fun d hd => by (repeat (rcases hd with rfl | hd; · exact ⟨rfl, rfl⟩)); cases hd) ?_))
      refine ⟨n.msgs.length - (j + 1), by omega, j + 1, by omega, rfl, ?_, ?_, ?_, ?_, ?_, ?_, ?_⟩ <;>
        (simp (maxSteps := 4000000) only [go_sem, ↓reduceIte, reduceCtorEq, Nat.reduceEqDiff, Nat.reduceBEq, Nat.reduceAdd, Nat.reduceSub, Nat.reduceMul, Nat.reduceLT, Nat.reduceLeDiff, Nat.reduceBNe, Int.reduceBEq, Int.reduceBNe, Int.reduceLT, Int.reduceLE, Msg.a, Par.a, Nd.a, t1, o1, t3, t4, t19, t20, t21, hw])
    · have hlt' : ¬ (j : Int) < (n.msgs.length : Int) := by omega
      obtain rfl : j = n.msgs.length := by omega
      (repeat (first | simp (maxSteps := 4000000) only [go_sem, ↓reduceIte, reduceCtorEq, Nat.reduceEqDiff, Nat.reduceBEq, Nat.reduceAdd, Nat.reduceSub, Nat.reduceMul, Nat.reduceLT, Nat.reduceLeDiff, Nat.reduceBNe, Int.reduceBEq, Int.reduceBNe, Int.reduceLT, Int.reduceLE, Msg.a, Par.a, Nd.a, t1, o1, t3, t4, t19, t20, t21, hlt', List.length_map, Int.toNat_natCast] | refine calling (k1) ?_ | refine callingH (k1) ?_ | refine calling (k2) ?_ | refine callingH (k2) ?_ | refine calling (k3) ?_ | refine callingH (k3) ?_ | refine calling (k4) ?_ | refine callingH (k4) ?_ | refine calling (cb) ?_ | refine callingH (cb) ?_ | refine calling (cl) ?_ | refine callingH (cl) ?_ | refine And.intro (by omega) ?_ | refine And.intro (fun d hd => by (repeat (rcases hd with rfl | hd; · exact ⟨rfl, rfl⟩)); cases hd) ?_))
theorem tNode_ok (n : Nd) (h : n.Fit) : AFn Tryd.prog 50 [n.a] (.str n.line) := tNode_core n h _ rfl
end
section
/-
  The law TraceEvents, and its examples.
-/
open Go.RowKit Go.Lib
set_option linter.unusedVariables false
set_option linter.unusedSimpArgs false
set_option maxRecDepth 100000
attribute [local go_sem ↓] runOp headOp
def Evt.light (most : Int) (e : Evt) : Bool := e.op.long most && decide ((e.ans.val.size : Int) ≤ most) && decide ((sumN Par.bulk e.ans.prs : Int) ≤ most)
def lightE (l : List Evt) (n most : Int) : Bool := decide ((l.length : Int) ≤ n) && l.all (Evt.light most)
def lightEInv (l : List Evt) (n most : Int) (r : Bool) (k : Nat) (σ : St) : Prop :=
  ∃ j : Nat, j ≤ l.length ∧ k = l.length - j ∧ σ.T 0 = .sl (l.map Evt.a) ∧ σ.T 2 = .int .i64 most ∧ σ.T 7 = .int .i64 j ∧ (l.drop j).all (Evt.light most) = r
attribute [local go_sem ↓] ir_rLight38
attribute [local go_sem] res_rLight38 e_rLight38_0 e_rLight38_1 t_rLight38_1 e_rLight38_2 e_rLight38_3 e_rLight38_4 t_rLight38_4 e_rLight38_5 t_rLight38_5 e_rLight38_6 e_rLight38_7 t_rLight38_7 e_rLight38_9
set_option maxHeartbeats 1000000 in
theorem rLight38_ok (l : List Evt) (n most : Int) (h1 : 0 ≤ most) (h2 : most ≤ 1000000) (hs : ∀ x, x ∈ l → x.ok) (hl : l.length ≤ 281474976710656) :
    AFn Tryd.prog 19 [.sl (l.map Evt.a), .int .i64 n, .int .i64 most] (.bool (lightE l n most)) := by
  refine fn_rLight38 rfl ?_
  unfold lightE
  by_cases hn : (l.length : Int) ≤ n
  case neg =>
    have hn' : n < (l.length : Int) := by omega
    rw [decide_eq_false hn]
    simp (maxSteps := 4000000) only [go_sem, ↓reduceIte, reduceCtorEq, Nat.reduceEqDiff, Nat.reduceBEq, Nat.reduceAdd, Nat.reduceSub, Nat.reduceMul, Nat.reduceLT, Nat.reduceLeDiff, Nat.reduceBNe, Int.reduceBEq, Int.reduceBNe, Int.reduceLT, Int.reduceLE, Par.a, Opr.a, Ans.a, Evt.a, nul, hn', List.length_map, Bool.false_and]
  have hn' : ¬ n < (l.length : Int) := by omega
  rw [decide_eq_true hn]
  obtain ⟨R, hR⟩ : ∃ R, l.all (Evt.light most) = R := ⟨_, rfl⟩
  rw [hR]
  simp (maxSteps := 4000000) only [go_sem, ↓reduceIte, reduceCtorEq, Nat.reduceEqDiff, Nat.reduceBEq, Nat.reduceAdd, Nat.reduceSub, Nat.reduceMul, Nat.reduceLT, Nat.reduceLeDiff, Nat.reduceBNe, Int.reduceBEq, Int.reduceBNe, Int.reduceLT, Int.reduceLE, Par.a, Opr.a, Ans.a, Evt.a, nul, hn', List.length_map, Bool.true_and]
  refine run_loop (lightEInv l n most R) (k := l.length) ⟨0, by omega, rfl, rfl, rfl, rfl, hR⟩ ?_
  clear hR
  rintro k σ ⟨j, hj, rfl, t0, t2, t7, hr⟩
  simp only [r_rLight38_l8]
  by_cases hlt : j < l.length
  · have hlt' : (j : Int) < (l.length : Int) := by omega
    obtain ⟨x, hx⟩ := get_lt hlt
    have hgj := at_map (f := Evt.a) hx
    have hw := wrapS (j := j) (by omega)
    have ok := hs x (List.mem_of_getElem? hx)
    have c1 := rLong_ok x.op most
    have c2 := rLong9_ok x.ans.prs most h1 h2 (fun m hm => ⟨(ok.ans.prs.2 m hm).key, (ok.ans.prs.2 m hm).val⟩) ok.ans.prs.1
    rw [drop_at hx, List.all_cons] at hr
    unfold Evt.light at hr
    obtain ⟨client, op, ans, began, point, ended, done⟩ := x
    obtain ⟨kind, key, hi, opn, val, lim⟩ := op
    obtain ⟨err, has, v, prs⟩ := ans
    simp only [Evt.a] at hgj
    simp only at hr c1 c2
    generalize Opr.long ⟨kind, key, hi, opn, val, lim⟩ most = b1 at *
    generalize decide ((sumN Par.bulk prs : Int) ≤ most) = b3 at *
    have z0 : IntKind.i64.wrap (j : Int) = (j : Int) := IntWalk.i64_in _ (by omega)
    cases b1
    · simp only [Bool.false_and] at hr
      (repeat (first | simp (maxSteps := 4000000) only [go_sem, ↓reduceIte, reduceCtorEq, Nat.reduceEqDiff, Nat.reduceBEq, Nat.reduceAdd, Nat.reduceSub, Nat.reduceMul, Nat.reduceLT, Nat.reduceLeDiff, Nat.reduceBNe, Int.reduceBEq, Int.reduceBNe, Int.reduceLT, Int.reduceLE, Par.a, Opr.a, Ans.a, Evt.a, nul, t0, t2, t7, hlt', hgj, List.length_map, Int.toNat_natCast, ← hr] | refine calling (c1) ?_ | refine callingH (c1) ?_ | refine And.intro (by omega) ?_ | refine And.intro (fun d hd => by (repeat (rcases hd with rfl | hd; · exact ⟨rfl, rfl⟩)); cases hd) ?_))
    by_cases q2 : (v.size : Int) ≤ most
    case neg =>
      rw [decide_eq_false q2] at hr
      have q2' : most < (v.size : Int) := by omega
      simp only [Bool.false_and, Bool.and_false] at hr
      (repeat (first | simp (maxSteps := 4000000) only [go_sem, ↓reduceIte, reduceCtorEq, Nat.reduceEqDiff, Nat.reduceBEq, Nat.reduceAdd, Nat.reduceSub, Nat.reduceMul, Nat.reduceLT, Nat.reduceLeDiff, Nat.reduceBNe, Int.reduceBEq, Int.reduceBNe, Int.reduceLT, Int.reduceLE, Par.a, Opr.a, Ans.a, Evt.a, nul, t0, t2, t7, hlt', hgj, List.length_map, Int.toNat_natCast, q2', ← hr] | refine calling (c1) ?_ | refine callingH (c1) ?_ | refine And.intro (by omega) ?_ | refine And.intro (fun d hd => by (repeat (rcases hd with rfl | hd; · exact ⟨rfl, rfl⟩)); cases hd) ?_))
      all_goals omega
    rw [decide_eq_true q2] at hr
    have q2' : ¬ most < (v.size : Int) := by omega
    cases b3
    · simp only [Bool.false_and, Bool.and_false] at hr
      (repeat (first | simp (maxSteps := 4000000) only [go_sem, ↓reduceIte, reduceCtorEq, Nat.reduceEqDiff, Nat.reduceBEq, Nat.reduceAdd, Nat.reduceSub, Nat.reduceMul, Nat.reduceLT, Nat.reduceLeDiff, Nat.reduceBNe, Int.reduceBEq, Int.reduceBNe, Int.reduceLT, Int.reduceLE, Par.a, Opr.a, Ans.a, Evt.a, nul, t0, t2, t7, hlt', hgj, List.length_map, Int.toNat_natCast, q2', ← hr] | refine calling (c1) ?_ | refine callingH (c1) ?_ | refine calling (c2) ?_ | refine callingH (c2) ?_ | refine And.intro (by omega) ?_ | refine And.intro (fun d hd => by (repeat (rcases hd with rfl | hd; · exact ⟨rfl, rfl⟩)); cases hd) ?_))
    · simp only [Bool.true_and, Bool.and_true] at hr
      (repeat (first | simp (maxSteps := 4000000) only [go_sem, ↓reduceIte, reduceCtorEq, Nat.reduceEqDiff, Nat.reduceBEq, Nat.reduceAdd, Nat.reduceSub, Nat.reduceMul, Nat.reduceLT, Nat.reduceLeDiff, Nat.reduceBNe, Int.reduceBEq, Int.reduceBNe, Int.reduceLT, Int.reduceLE, Par.a, Opr.a, Ans.a, Evt.a, nul, t0, t2, t7, hlt', hgj, List.length_map, Int.toNat_natCast, q2', hw] | refine calling (c1) ?_ | refine callingH (c1) ?_ | refine calling (c2) ?_ | refine callingH (c2) ?_ | refine And.intro (by omega) ?_ | refine And.intro (fun d hd => by (repeat (rcases hd with rfl | hd; · exact ⟨rfl, rfl⟩)); cases hd) ?_))
      refine ⟨l.length - (j + 1), by omega, j + 1, by omega, rfl, ?_, ?_, ?_, hr⟩ <;> (simp (maxSteps := 4000000) only [go_sem, ↓reduceIte, reduceCtorEq, Nat.reduceEqDiff, Nat.reduceBEq, Nat.reduceAdd, Nat.reduceSub, Nat.reduceMul, Nat.reduceLT, Nat.reduceLeDiff, Nat.reduceBNe, Int.reduceBEq, Int.reduceBNe, Int.reduceLT, Int.reduceLE, Par.a, Opr.a, Ans.a, Evt.a, nul, t0, t2, t7, hw])
  · have hlt' : ¬ (j : Int) < (l.length : Int) := by omega
    rw [List.drop_eq_nil_of_le (by omega)] at hr
    simp (maxSteps := 4000000) only [go_sem, ↓reduceIte, reduceCtorEq, Nat.reduceEqDiff, Nat.reduceBEq, Nat.reduceAdd, Nat.reduceSub, Nat.reduceMul, Nat.reduceLT, Nat.reduceLeDiff, Nat.reduceBNe, Int.reduceBEq, Int.reduceBNe, Int.reduceLT, Int.reduceLE, Par.a, Opr.a, Ans.a, Evt.a, nul, t0, t2, t7, hlt', List.length_map, ← hr, List.all_nil]
theorem dec1' (d : Nat) (h : d < 10) : decS (d : Int) = ⟨#[UInt8.ofNat (48 + d)]⟩ := by
  unfold decS
  rw [itoa_nn (by omega), Int.toNat_natCast, dd_small d h]
def opX : Opr := ⟨1, ⟨#[97]⟩, ⟨#[]⟩, false, ⟨#[49]⟩, 0⟩
def evX : Evt := ⟨0, opX, Ans.zero, 1, 3, 3, true⟩
theorem evX_line : evF evX = (⟨#[48, 32, 49, 32, 51, 32, 51, 32, 121, 101, 115, 32, 58, 32, 112, 117, 116, 32, 97, 32, 49, 32, 58, 32, 111, 107]⟩ : ByteArray) := by
  have d0 : decS evX.client = (⟨#[48]⟩ : ByteArray) := dec1' 0 (by omega)
  have d1 : decS evX.began = (⟨#[49]⟩ : ByteArray) := dec1' 1 (by omega)
  have d2 : decS evX.point = (⟨#[51]⟩ : ByteArray) := dec1' 3 (by omega)
  have d3 : decS evX.ended = (⟨#[51]⟩ : ByteArray) := dec1' 3 (by omega)
  have hr : opX.right = true := by decide +kernel
  have d4 : lineX evX.op = (⟨#[112, 117, 116, 32, 97, 32, 49]⟩ : ByteArray) := by
    show lineX opX = _
    unfold lineX lineO
    rw [if_pos hr]
    decide +kernel
  have d5 : tailL evX = (⟨#[111, 107]⟩ : ByteArray) := ansL_ok opX Ans.zero rfl (by decide) (by decide)
  rw [← evF_flat, d0, d1, d2, d3, d4, d5]
  decide +kernel
theorem evX_fit : FitE evX := ⟨⟨by decide, by decide⟩, ⟨by decide, by decide⟩, ⟨by decide, by decide⟩, ⟨by decide, by decide⟩, by decide, by decide, ⟨by decide, by decide⟩, by decide, by decide⟩
theorem evX_told : toldB evX = true := by decide +kernel
def ndX : Nd := ⟨1, 0, [], [], ⟨#[109]⟩, false, 2, 2, [], [⟨⟨#[97]⟩, ⟨#[49]⟩⟩]⟩
theorem ndX_fit : ndX.Fit := by
  have hp : ∀ p, p ∈ ndX.rows → p.key.size ≤ 2000 ∧ p.val.size ≤ 2000 := by
    intro p hp
    rw [List.mem_singleton.1 hp]; decide
  refine ⟨⟨by decide, by decide, ⟨by decide, fun z hz => (by cases hz)⟩, ⟨by decide, fun z hz => (by cases hz)⟩, by decide, trivial, by decide, by decide, ⟨by decide, fun z hz => (by cases hz)⟩, ⟨by decide, fun z hz => ?_⟩⟩, fun z hz => (by cases hz), by decide, by decide, by decide, by decide, hp, by decide, fun z hz => (by cases hz)⟩
  obtain ⟨a, b⟩ := hp z hz
  exact ⟨by omega, by omega⟩
theorem ndX_line : ndX.line = (⟨#[110, 111, 100, 101, 32, 49, 32, 48, 32, 50, 32, 50, 32, 109, 32, 58, 32, 114, 111, 119, 115, 32, 49, 32, 97, 61, 49, 32, 58, 32, 109, 115, 103, 115, 32, 48]⟩ : ByteArray) := by
  have d0 : decS 0 = (⟨#[48]⟩ : ByteArray) := dec1' 0 (by omega)
  have d1 : decS 1 = (⟨#[49]⟩ : ByteArray) := dec1' 1 (by omega)
  have d2 : decS 2 = (⟨#[50]⟩ : ByteArray) := dec1' 2 (by omega)
  have e0 : decS ((([] : List Msg).length : Nat) : Int) = (⟨#[48]⟩ : ByteArray) := d0
  have e1 : decS ((([(⟨⟨#[97]⟩, ⟨#[49]⟩⟩ : Par)] : List Par).length : Nat) : Int) = (⟨#[49]⟩ : ByteArray) := d1
  unfold Nd.line Nd.below msgsF pairsF Par.w
  simp only [ndX, e0, e1, d0, d1, d2, Bool.false_eq_true, if_false, if_true, catF]
  decide +kernel
/-! ### percolate/percolatelaw46.awake -/
def r_awake46_0 : Reg := ⟨[], [⟨(.mv (.c (.bool false))), (some 0), none, [], []⟩], [], [], false⟩
def t_awake46_1 : List ROp := [⟨(.bld [(.int .i64 0), (.str ⟨#[]⟩), (.str ⟨#[]⟩), (.bool false), (.str ⟨#[]⟩), (.int .i64 0)] [⟨0, 1, (.c (.int .i64 1))⟩, ⟨1, 1, (.c (.str ⟨#[97]⟩))⟩, ⟨4, 1, (.c (.str ⟨#[49]⟩))⟩]), (some 4), none, [1], []⟩, ⟨(.bld [(.int .i64 0), (.int .i64 0), (.str ⟨#[]⟩), (.str ⟨#[]⟩), (.bool false), (.str ⟨#[]⟩), (.int .i64 0), (.int .i64 0), (.bool false), (.str ⟨#[]⟩), (.sl []), (.int .i64 0), (.int .i64 0), (.int .i64 0), (.bool false)] [⟨1, 6, (.t 4)⟩, ⟨11, 1, (.c (.int .i64 1))⟩, ⟨12, 1, (.c (.int .i64 3))⟩, ⟨13, 1, (.c (.int .i64 3))⟩, ⟨14, 1, (.c (.bool true))⟩]), (some 5), none, [1], []⟩, ⟨(.alloc 15 48 (.agg [(.int .i64 0), (.int .i64 0), (.str ⟨#[]⟩), (.str ⟨#[]⟩), (.bool false), (.str ⟨#[]⟩), (.int .i64 0), (.int .i64 0), (.bool false), (.str ⟨#[]⟩), (.sl []), (.int .i64 0), (.int .i64 0), (.int .i64 0), (.bool false)])), (some 1), none, [], []⟩, ⟨(.store 15 (.t 1) (.t 5)), none, none, [], []⟩]
def r_awake46_1 : Reg := ⟨[], t_awake46_1, [1], [], false⟩
def t_awake46_2 : List ROp := [⟨(.callv (.c (.clo 22 [] [])) [(.c (.str ⟨#[48, 32, 49, 32, 51, 32, 51, 32, 121, 101, 115, 32, 58, 32, 112, 117, 116, 32, 97, 32, 49, 32, 58, 32, 111, 107]⟩))]), (some 7), none, [2], []⟩, ⟨(.mv (.t 7)), (some 6), none, [2], []⟩, ⟨(.ext 0 (.t 6)), (some 8), none, [2], []⟩, ⟨(.ext 1 (.t 6)), (some 9), none, [2], []⟩, ⟨(.alloc 15 48 (.agg [(.int .i64 0), (.int .i64 0), (.str ⟨#[]⟩), (.str ⟨#[]⟩), (.bool false), (.str ⟨#[]⟩), (.int .i64 0), (.int .i64 0), (.bool false), (.str ⟨#[]⟩), (.sl []), (.int .i64 0), (.int .i64 0), (.int .i64 0), (.bool false)])), (some 2), none, [], []⟩, ⟨(.store 15 (.t 2) (.t 8)), none, none, [], []⟩, ⟨(.mv (.t 9)), (some 3), none, [], []⟩]
def r_awake46_2 : Reg := ⟨[], t_awake46_2, [7, 2], [], false⟩
def t_awake46_3 : List ROp := [⟨(.load 15 true (.t 1)), (some 10), none, [11, 19, 23, 25], []⟩, ⟨(.callv (.c (.clo 21 [] [])) [(.t 10)]), (some 11), none, [19, 23, 25], []⟩, ⟨(.bin .eql (.t 11) (.c (.str ⟨#[48, 32, 49, 32, 51, 32, 51, 32, 121, 101, 115, 32, 58, 32, 112, 117, 116, 32, 97, 32, 49, 32, 58, 32, 111, 107]⟩))), (some 12), none, [19, 23, 25], []⟩, ⟨(.mv (.t 12)), (some 13), none, [19, 23, 25], []⟩, ⟨(.mv (.t 3)), (some 14), (some (13, true)), [19, 23, 25], []⟩, ⟨(.pick (.t 13) (.t 14) (.c (.bool false))), (some 15), none, [19, 23, 25], []⟩, ⟨(.mv (.t 15)), (some 16), none, [19, 23, 25], []⟩, ⟨(.load 15 true (.t 2)), (some 17), (some (16, true)), [19, 23, 25], []⟩, ⟨(.load 15 true (.t 1)), (some 18), (some (16, true)), [19, 23, 25], []⟩, ⟨(.callv (.c (.clo 25 [] [])) [(.t 17), (.t 18)]), (some 19), (some (16, true)), [23, 25], []⟩, ⟨(.pick (.t 16) (.t 19) (.c (.bool false))), (some 20), none, [23, 25], []⟩, ⟨(.mv (.t 20)), (some 21), none, [23, 25], []⟩, ⟨(.bld [(.str ⟨#[]⟩), (.str ⟨#[]⟩)] [⟨0, 1, (.c (.str ⟨#[97]⟩))⟩, ⟨1, 1, (.c (.str ⟨#[49]⟩))⟩]), (some 22), (some (21, true)), [23, 25], []⟩, ⟨(.bsl 2 77 [(.t 22)]), (some 23), (some (21, true)), [25], []⟩, ⟨(.bld [(.int .i64 0), (.int .i64 0), (.sl []), (.sl []), (.str ⟨#[]⟩), (.bool false), (.int .i64 0), (.int .i64 0), (.sl []), (.sl [])] [⟨0, 1, (.c (.int .i64 1))⟩, ⟨4, 1, (.c (.str ⟨#[109]⟩))⟩, ⟨6, 1, (.c (.int .i64 2))⟩, ⟨7, 1, (.c (.int .i64 2))⟩, ⟨9, 1, (.t 23)⟩]), (some 24), (some (21, true)), [25], []⟩, ⟨(.callv (.c (.clo 50 [] [])) [(.t 24)]), (some 25), (some (21, true)), [], []⟩, ⟨(.bin .eql (.t 25) (.c (.str ⟨#[110, 111, 100, 101, 32, 49, 32, 48, 32, 50, 32, 50, 32, 109, 32, 58, 32, 114, 111, 119, 115, 32, 49, 32, 97, 61, 49, 32, 58, 32, 109, 115, 103, 115, 32, 48]⟩))), (some 26), (some (21, true)), [], []⟩, ⟨(.pick (.t 21) (.t 26) (.c (.bool false))), (some 27), none, [], []⟩, ⟨(.mv (.t 27)), (some 0), none, [], []⟩]
def r_awake46_3 : Reg := ⟨[], t_awake46_3, [11, 19, 23, 25], [], false⟩
def ir_awake46 : IR := (.seq (.reg r_awake46_0)
  (.seq (.reg r_awake46_1)
  (.seq (.reg r_awake46_2)
  (.seq (.reg r_awake46_3)
  .ret))))
def res_awake46 : List RDesc := [(.tmp 0)]
theorem e_awake46_0 (C : FuncId → List AV → AV → Prop) (σ : St) (K : St → Prop) : runReg C r_awake46_0 σ K = runOps C [⟨(.mv (.c (.bool false))), (some 0), none, [], []⟩] (σ.kills []) K := rfl
theorem e_awake46_1 (C : FuncId → List AV → AV → Prop) (σ : St) (K : St → Prop) : runReg C r_awake46_1 σ K = runOps C t_awake46_1 (σ.kills [1]) K := rfl
theorem e_awake46_2 (C : FuncId → List AV → AV → Prop) (σ : St) (K : St → Prop) : runReg C r_awake46_2 σ K = runOps C t_awake46_2 (σ.kills [7, 2]) K := rfl
theorem e_awake46_3 (C : FuncId → List AV → AV → Prop) (σ : St) (K : St → Prop) : runReg C r_awake46_3 σ K = runOps C t_awake46_3 (σ.kills [11, 19, 23, 25]) K := rfl
theorem fn_awake46 {args : List AV} {r : AV} (ha : args.length.ble Tryd.f20.ntmps = true) (h : run (AFn Tryd.prog) ir_awake46 (endQ res_awake46 r) (initSt args)) : AFn Tryd.prog 20 args r :=
  AFn.of_code (pv := false) (hint := fun _ => []) (c := Tryd.f20.body.getD .skip) (by kernel_rfl) (by kernel_rfl) Tryd.func20 (by kernel_rfl) (by kernel_rfl) (by kernel_rfl) (of_decide_eq_true (by kernel_rfl)) (Nat.le_of_ble_eq_true ha) (Nat.le_of_ble_eq_true (by kernel_rfl)) (run_ok h)
/-! ### percolate/percolatelaw46.TraceEvents -/
def r_traceEvents_0 : Reg := ⟨[], [⟨(.box 15 48 (.t 0)), (some 2), none, [], []⟩, ⟨(.mv (.c (.bool false))), (some 4), none, [], []⟩], [2], [], false⟩
def t_traceEvents_1 : List ROp := [⟨(.load 15 true (.t 2)), (some 10), none, [11, 12], []⟩, ⟨(.bsl 15 48 [(.t 10)]), (some 11), none, [12], []⟩, ⟨(.callv (.c (.clo 19 [] [])) [(.t 11), (.c (.int .i64 1)), (.c (.int .i64 1000))]), (some 12), none, [], []⟩, ⟨(.un .not (.t 12)), (some 13), none, [], []⟩, ⟨(.mv (.t 13)), (some 14), none, [], []⟩, ⟨(.mv (.t 1)), (some 15), (some (14, false)), [], []⟩, ⟨(.len true (.t 15)), (some 16), (some (14, false)), [], []⟩, ⟨(.bin .gtr (.t 16) (.c (.int .i64 1000))), (some 17), (some (14, false)), [], []⟩, ⟨(.pick (.t 14) (.c (.bool true)) (.t 17)), (some 18), none, [], []⟩]
def r_traceEvents_1 : Reg := ⟨[], t_traceEvents_1, [11, 12], [], false⟩
def r_traceEvents_2 : Reg := ⟨[], [⟨(.callv (.c (.clo 20 [] [])) []), (some 19), none, [], []⟩, ⟨(.mv (.t 19)), (some 4), none, [], []⟩], [19], [], false⟩
def t_traceEvents_3 : List ROp := [⟨(.load 15 true (.t 2)), (some 20), none, [21], []⟩, ⟨(.callv (.c (.clo 21 [] [])) [(.t 20)]), (some 21), none, [], []⟩, ⟨(.mv (.t 21)), (some 5), none, [], []⟩]
def r_traceEvents_3 : Reg := ⟨[], t_traceEvents_3, [21], [], false⟩
def t_traceEvents_4 : List ROp := [⟨(.mv (.t 5)), (some 23), none, [24, 6], []⟩, ⟨(.callv (.c (.clo 22 [] [])) [(.t 23)]), (some 24), none, [6], []⟩, ⟨(.mv (.t 24)), (some 22), none, [6], []⟩, ⟨(.ext 0 (.t 22)), (some 25), none, [6], []⟩, ⟨(.ext 1 (.t 22)), (some 26), none, [6], []⟩, ⟨(.alloc 15 48 (.agg [(.int .i64 0), (.int .i64 0), (.str ⟨#[]⟩), (.str ⟨#[]⟩), (.bool false), (.str ⟨#[]⟩), (.int .i64 0), (.int .i64 0), (.bool false), (.str ⟨#[]⟩), (.sl []), (.int .i64 0), (.int .i64 0), (.int .i64 0), (.bool false)])), (some 6), none, [], []⟩, ⟨(.store 15 (.t 6) (.t 25)), none, none, [], []⟩, ⟨(.mv (.t 26)), (some 7), none, [], []⟩]
def r_traceEvents_4 : Reg := ⟨[], t_traceEvents_4, [24, 6], [], false⟩
def t_traceEvents_5 : List ROp := [⟨(.mv (.t 5)), (some 27), none, [29, 33, 40], []⟩, ⟨(.load 15 true (.t 2)), (some 28), none, [29, 33, 40], []⟩, ⟨(.callv (.c (.clo 23 [] [])) [(.t 28)]), (some 29), none, [33, 40], []⟩, ⟨(.bin .neq (.t 27) (.t 29)), (some 30), none, [33, 40], []⟩, ⟨(.mv (.t 30)), (some 31), none, [33, 40], []⟩, ⟨(.load 15 true (.t 2)), (some 32), (some (31, false)), [33, 40], []⟩, ⟨(.callv (.c (.clo 24 [] [])) [(.t 32)]), (some 33), (some (31, false)), [40], []⟩, ⟨(.mv (.t 33)), (some 34), (some (31, false)), [40], []⟩, ⟨(.mv (.t 7)), (some 35), (some (34, true)), [40], []⟩, ⟨(.un .not (.t 35)), (some 36), (some (34, true)), [40], []⟩, ⟨(.mv (.t 36)), (some 37), (some (34, true)), [40], []⟩, ⟨(.load 15 true (.t 6)), (some 38), (some (37, false)), [40], []⟩, ⟨(.load 15 true (.t 2)), (some 39), (some (37, false)), [40], []⟩, ⟨(.callv (.c (.clo 25 [] [])) [(.t 38), (.t 39)]), (some 40), (some (37, false)), [], []⟩, ⟨(.un .not (.t 40)), (some 41), (some (37, false)), [], []⟩, ⟨(.pick (.t 37) (.c (.bool true)) (.t 41)), (some 42), (some (34, true)), [], []⟩, ⟨(.pick (.t 34) (.t 42) (.c (.bool false))), (some 43), (some (31, false)), [], []⟩, ⟨(.pick (.t 31) (.c (.bool true)) (.t 43)), (some 44), none, [], []⟩]
def r_traceEvents_5 : Reg := ⟨[], t_traceEvents_5, [29, 33, 40], [], false⟩
def r_traceEvents_6 : Reg := ⟨[], [⟨(.mv (.c (.bool false))), (some 4), none, [], []⟩], [], [], false⟩
def t_traceEvents_7 : List ROp := [⟨(.mv (.t 1)), (some 46), none, [47, 8], []⟩, ⟨(.callv (.c (.clo 22 [] [])) [(.t 46)]), (some 47), none, [8], []⟩, ⟨(.mv (.t 47)), (some 45), none, [8], []⟩, ⟨(.ext 0 (.t 45)), (some 48), none, [8], []⟩, ⟨(.ext 1 (.t 45)), (some 49), none, [8], []⟩, ⟨(.alloc 15 48 (.agg [(.int .i64 0), (.int .i64 0), (.str ⟨#[]⟩), (.str ⟨#[]⟩), (.bool false), (.str ⟨#[]⟩), (.int .i64 0), (.int .i64 0), (.bool false), (.str ⟨#[]⟩), (.sl []), (.int .i64 0), (.int .i64 0), (.int .i64 0), (.bool false)])), (some 8), none, [], []⟩, ⟨(.store 15 (.t 8) (.t 48)), none, none, [], []⟩, ⟨(.mv (.t 49)), (some 9), none, [], []⟩]
def r_traceEvents_7 : Reg := ⟨[], t_traceEvents_7, [47, 8], [], false⟩
def r_traceEvents_8 : Reg := ⟨[], [⟨(.mv (.t 9)), (some 50), none, [], []⟩, ⟨(.un .not (.t 50)), (some 51), none, [], []⟩], [], [], false⟩
def t_traceEvents_9 : List ROp := [⟨(.load 15 true (.t 8)), (some 52), none, [54, 56], []⟩, ⟨(.bld [(.int .i64 0), (.int .i64 0), (.str ⟨#[]⟩), (.str ⟨#[]⟩), (.bool false), (.str ⟨#[]⟩), (.int .i64 0), (.int .i64 0), (.bool false), (.str ⟨#[]⟩), (.sl []), (.int .i64 0), (.int .i64 0), (.int .i64 0), (.bool false)] []), (some 53), none, [54, 56], []⟩, ⟨(.callv (.c (.clo 25 [] [])) [(.t 52), (.t 53)]), (some 54), none, [56], []⟩, ⟨(.mv (.t 54)), (some 55), none, [56], []⟩, ⟨(.callv (.c (.clo 20 [] [])) []), (some 56), (some (55, true)), [], []⟩, ⟨(.pick (.t 55) (.t 56) (.c (.bool false))), (some 57), none, [], []⟩, ⟨(.mv (.t 57)), (some 4), none, [], []⟩]
def r_traceEvents_9 : Reg := ⟨[], t_traceEvents_9, [54, 56], [], false⟩
def t_traceEvents_10 : List ROp := [⟨(.load 15 true (.t 8)), (some 58), none, [59, 62, 67], []⟩, ⟨(.callv (.c (.clo 24 [] [])) [(.t 58)]), (some 59), none, [62, 67], []⟩, ⟨(.mv (.t 59)), (some 60), none, [62, 67], []⟩, ⟨(.load 15 true (.t 8)), (some 61), (some (60, true)), [62, 67], []⟩, ⟨(.callv (.c (.clo 23 [] [])) [(.t 61)]), (some 62), (some (60, true)), [67], []⟩, ⟨(.mv (.t 1)), (some 63), (some (60, true)), [67], []⟩, ⟨(.bin .eql (.t 62) (.t 63)), (some 64), (some (60, true)), [67], []⟩, ⟨(.pick (.t 60) (.t 64) (.c (.bool false))), (some 65), none, [67], []⟩, ⟨(.mv (.t 65)), (some 66), none, [67], []⟩, ⟨(.callv (.c (.clo 20 [] [])) []), (some 67), (some (66, true)), [], []⟩, ⟨(.pick (.t 66) (.t 67) (.c (.bool false))), (some 68), none, [], []⟩, ⟨(.mv (.t 68)), (some 4), none, [], []⟩]
def r_traceEvents_10 : Reg := ⟨[], t_traceEvents_10, [59, 62, 67], [], false⟩
def ir_traceEvents : IR := (.seq (.reg r_traceEvents_0)
  (.seq (.seq (.reg r_traceEvents_1)
  (.cond (.t 18) (.seq (.reg r_traceEvents_2)
  .ret)
  .skip))
  (.seq (.reg r_traceEvents_3)
  (.seq (.reg r_traceEvents_4)
  (.seq (.seq (.reg r_traceEvents_5)
  (.cond (.t 44) (.seq (.reg r_traceEvents_6)
  .ret)
  .skip))
  (.seq (.reg r_traceEvents_7)
  (.seq (.seq (.reg r_traceEvents_8)
  (.cond (.t 51) (.seq (.reg r_traceEvents_9)
  .ret)
  .skip))
  (.seq (.reg r_traceEvents_10)
  .ret))))))))
def res_traceEvents : List RDesc := [(.tmp 4)]
theorem e_traceEvents_0 (C : FuncId → List AV → AV → Prop) (σ : St) (K : St → Prop) : runReg C r_traceEvents_0 σ K = runOps C [⟨(.box 15 48 (.t 0)), (some 2), none, [], []⟩, ⟨(.mv (.c (.bool false))), (some 4), none, [], []⟩] (σ.kills [2]) K := rfl
theorem e_traceEvents_1 (C : FuncId → List AV → AV → Prop) (σ : St) (K : St → Prop) : runReg C r_traceEvents_1 σ K = runOps C t_traceEvents_1 (σ.kills [11, 12]) K := rfl
theorem e_traceEvents_2 (C : FuncId → List AV → AV → Prop) (σ : St) (K : St → Prop) : runReg C r_traceEvents_2 σ K = runOps C [⟨(.callv (.c (.clo 20 [] [])) []), (some 19), none, [], []⟩, ⟨(.mv (.t 19)), (some 4), none, [], []⟩] (σ.kills [19]) K := rfl
theorem e_traceEvents_3 (C : FuncId → List AV → AV → Prop) (σ : St) (K : St → Prop) : runReg C r_traceEvents_3 σ K = runOps C t_traceEvents_3 (σ.kills [21]) K := rfl
theorem e_traceEvents_4 (C : FuncId → List AV → AV → Prop) (σ : St) (K : St → Prop) : runReg C r_traceEvents_4 σ K = runOps C t_traceEvents_4 (σ.kills [24, 6]) K := rfl
theorem e_traceEvents_5 (C : FuncId → List AV → AV → Prop) (σ : St) (K : St → Prop) : runReg C r_traceEvents_5 σ K = runOps C t_traceEvents_5 (σ.kills [29, 33, 40]) K := rfl
theorem e_traceEvents_6 (C : FuncId → List AV → AV → Prop) (σ : St) (K : St → Prop) : runReg C r_traceEvents_6 σ K = runOps C [⟨(.mv (.c (.bool false))), (some 4), none, [], []⟩] (σ.kills []) K := rfl
theorem e_traceEvents_7 (C : FuncId → List AV → AV → Prop) (σ : St) (K : St → Prop) : runReg C r_traceEvents_7 σ K = runOps C t_traceEvents_7 (σ.kills [47, 8]) K := rfl
theorem e_traceEvents_8 (C : FuncId → List AV → AV → Prop) (σ : St) (K : St → Prop) : runReg C r_traceEvents_8 σ K = runOps C [⟨(.mv (.t 9)), (some 50), none, [], []⟩, ⟨(.un .not (.t 50)), (some 51), none, [], []⟩] (σ.kills []) K := rfl
theorem e_traceEvents_9 (C : FuncId → List AV → AV → Prop) (σ : St) (K : St → Prop) : runReg C r_traceEvents_9 σ K = runOps C t_traceEvents_9 (σ.kills [54, 56]) K := rfl
theorem e_traceEvents_10 (C : FuncId → List AV → AV → Prop) (σ : St) (K : St → Prop) : runReg C r_traceEvents_10 σ K = runOps C t_traceEvents_10 (σ.kills [59, 62, 67]) K := rfl
theorem fn_traceEvents {args : List AV} {r : AV} (ha : args.length.ble Tryd.f6.ntmps = true) (h : run (AFn Tryd.prog) ir_traceEvents (endQ res_traceEvents r) (initSt args)) : AFn Tryd.prog 6 args r :=
  AFn.of_code (pv := false) (hint := fun _ => []) (c := Tryd.f6.body.getD .skip) (by kernel_rfl) (by kernel_rfl) Tryd.func6 (by kernel_rfl) (by kernel_rfl) (by kernel_rfl) (of_decide_eq_true (by kernel_rfl)) (Nat.le_of_ble_eq_true ha) (Nat.le_of_ble_eq_true (by kernel_rfl)) (run_ok h)
attribute [local go_sem ↓] ir_awake46
attribute [local go_sem] res_awake46 e_awake46_0 e_awake46_1 t_awake46_1 e_awake46_2 t_awake46_2 e_awake46_3 t_awake46_3
attribute [local go_sem ↓] ir_traceEvents
attribute [local go_sem] res_traceEvents e_traceEvents_0 e_traceEvents_1 t_traceEvents_1 e_traceEvents_2 e_traceEvents_3 t_traceEvents_3 e_traceEvents_4 t_traceEvents_4 e_traceEvents_5 t_traceEvents_5 e_traceEvents_6 e_traceEvents_7 t_traceEvents_7 e_traceEvents_8 e_traceEvents_9 t_traceEvents_9 e_traceEvents_10 t_traceEvents_10
theorem awake46_ok : AFn Tryd.prog 20 [] (.bool true) := by
  refine fn_awake46 rfl ?_
  have c1 := tParse_ok (evF evX) (by rw [evX_line]; decide)
  rw [told_read evX_told] at c1
  have c2 := tEvent_ok evX evX_fit
  rw [evX_line] at c1 c2
  have c3 := rSame38_ok evX evX (by decide) (by decide)
  rw [sameE_refl] at c3
  have c4 := tNode_ok ndX ndX_fit
  rw [ndX_line] at c4
  simp only [ndX, Nd.a, Par.a, List.map_cons, List.map_nil] at c4
  simp only [evX, opX, Ans.zero] at c1 c2 c3
  (repeat (first | simp (maxSteps := 4000000) only [go_sem, ↓reduceIte, reduceCtorEq, Nat.reduceEqDiff, Nat.reduceBEq, Nat.reduceAdd, Nat.reduceSub, Nat.reduceMul, Nat.reduceLT, Nat.reduceLeDiff, Nat.reduceBNe, Int.reduceBEq, Int.reduceBNe, Int.reduceLT, Int.reduceLE, Par.a, Opr.a, Ans.a, Evt.a, nul, beq_self_eq_true] | refine calling (c1) ?_ | refine callingH (c1) ?_ | refine calling (c2) ?_ | refine callingH (c2) ?_ | refine calling (c3) ?_ | refine callingH (c3) ?_ | refine calling (c4) ?_ | refine callingH (c4) ?_ | refine And.intro (by omega) ?_ | refine And.intro (fun d hd => by (repeat (rcases hd with rfl | hd; · exact ⟨rfl, rfl⟩)); cases hd) ?_))
theorem ansL_small (o : Opr) (a : Ans) (he : inI a.err) (hv : a.val.size ≤ 1000) (hp : sumN Par.bulk a.prs ≤ 1000) : (ansL o a).size ≤ 50000 := by
  have hn := sumN_len (f := Par.bulk) (fun x => by unfold Par.bulk; omega) a.prs
  have q0 := quoteF_size a.val
  have d0 := decS_small a.err he.1 he.2
  have d1 := outP_size a.prs a.prs.length (by omega)
  have e1 : (⟨#[32]⟩ : ByteArray).size = 1 := rfl
  have e2 : hasB.size = 3 := rfl
  have e3 : noneB.size = 4 := rfl
  have e4 : okB.size = 2 := rfl
  have e5 : errB.size = 5 := rfl
  have j1 : ∀ b : ByteArray, joinB [b] (⟨#[32]⟩ : ByteArray) = b := fun b => by rw [joinB_cat]; exact ba_nil _
  unfold ansL ansW
  split
  · split
    · split
      · rw [joinB2, ByteArray.size_append, ByteArray.size_append]; omega
      · rw [j1]; omega
    · split
      · rw [← outP_line]; omega
      · rw [j1]; omega
  · rw [joinB2, ByteArray.size_append, ByteArray.size_append]; omega
theorem evF_size (e : Evt) (h : FitE e) (hv : e.ans.val.size ≤ 1000) (hp : sumN Par.bulk e.ans.prs ≤ 1000) : (evF e).size ≤ 300000 := by
  have d1 := decS_small e.client h.c.1 h.c.2
  have d2 := decS_small e.began h.b.1 h.b.2
  have d3 := decS_small e.point h.p.1 h.p.2
  have d4 := decS_small e.ended h.n.1 h.n.2
  have d5 := lineX_size e.op
  have d6 : (tailL e).size ≤ 50000 := by
    unfold tailL
    split
    · exact ansL_small _ _ h.r hv hp
    · have : dashB.size = 1 := rfl
      omega
  have d7 : (if e.done then yesB else noB).size ≤ 3 := by cases e.done <;> decide
  have d8 : sep3.size = 3 := rfl
  have d9 : (⟨#[32]⟩ : ByteArray).size = 1 := rfl
  rw [← evF_flat]
  simp only [ByteArray.size_append]
  omega
theorem parseE_fit {s : ByteArray} {y : Evt} (hs : s.size ≤ 300000) (h : parseE s = (y, true)) : FitE y := by
  by_cases h3 : (splitL s sep3).length = 3
  case neg => rw [parseE_other h3] at h; cases h
  obtain ⟨a, o, t, hL⟩ : ∃ a o t, splitL s sep3 = [a, o, t] := by
    generalize splitL s sep3 = L at h3
    match L, h3 with
    | [h, o, t], _ => exact ⟨h, o, t, rfl⟩
  rw [parseE_three hL] at h
  split at h
  · cases h
    have := split3_small (s := s) (x := t) (by rw [hL]; simp)
    exact readE_fit _ _ _ (by omega)
  · cases h
theorem fitE_of {e : Evt} (ok : e.ok) (h : e.light 1000 = true) : FitE e ∧ e.ans.val.size ≤ 1000 ∧ sumN Par.bulk e.ans.prs ≤ 1000 := by
  unfold Evt.light Opr.long at h
  simp only [Bool.and_eq_true, decide_eq_true_eq] at h
  obtain ⟨⟨⟨⟨h1, h2⟩, h3⟩, h4⟩, h5⟩ := h
  exact ⟨⟨ok.client, ok.began, ok.point, ok.ended, by omega, by omega, ok.ans.err, by omega, by omega⟩, by omega, by omega⟩
theorem zero_same : sameE Evt.zero Evt.zero = true := sameE_refl _
set_option maxHeartbeats 4000000 in
theorem traceEvents_law (e : Evt) (s : ByteArray) (ok : e.ok) : AFn Tryd.prog 6 [e.a, .str s] (.bool true) := by
  refine fn_traceEvents rfl ?_
  have c1 := rLight38_ok [e] 1 1000 (by omega) (by omega) (fun x hx => by rw [List.mem_singleton.1 hx]; exact ok) (by simp)
  have aw := awake46_ok
  have e1 : lightE [e] 1 1000 = e.light 1000 := by unfold lightE; simp
  rw [e1] at c1
  simp only [List.map_cons, List.map_nil] at c1
  cases q1 : e.light 1000 with
  | false =>
    rw [q1] at c1
    (repeat (first | simp (maxSteps := 4000000) only [go_sem, ↓reduceIte, reduceCtorEq, Nat.reduceEqDiff, Nat.reduceBEq, Nat.reduceAdd, Nat.reduceSub, Nat.reduceMul, Nat.reduceLT, Nat.reduceLeDiff, Nat.reduceBNe, Int.reduceBEq, Int.reduceBNe, Int.reduceLT, Int.reduceLE, Par.a, Opr.a, Ans.a, Evt.a, nul] | refine calling (c1) ?_ | refine callingH (c1) ?_ | refine calling (aw) ?_ | refine callingH (aw) ?_ | refine And.intro (by omega) ?_ | refine And.intro (fun d hd => by (repeat (rcases hd with rfl | hd; · exact ⟨rfl, rfl⟩)); cases hd) ?_))
  | true =>
    rw [q1] at c1
    by_cases hs : (1000 : Int) < (s.size : Int)
    · (repeat (first | simp (maxSteps := 4000000) only [go_sem, ↓reduceIte, reduceCtorEq, Nat.reduceEqDiff, Nat.reduceBEq, Nat.reduceAdd, Nat.reduceSub, Nat.reduceMul, Nat.reduceLT, Nat.reduceLeDiff, Nat.reduceBNe, Int.reduceBEq, Int.reduceBNe, Int.reduceLT, Int.reduceLE, Par.a, Opr.a, Ans.a, Evt.a, nul, hs] | refine calling (c1) ?_ | refine callingH (c1) ?_ | refine calling (aw) ?_ | refine callingH (aw) ?_ | refine And.intro (by omega) ?_ | refine And.intro (fun d hd => by (repeat (rcases hd with rfl | hd; · exact ⟨rfl, rfl⟩)); cases hd) ?_))
    obtain ⟨fit, f1, f2⟩ := fitE_of ok q1
    have c2 := tEvent_ok e fit
    have c3 := tParse_ok (evF e) (evF_size e fit f1 f2)
    have c4 := rEvent_ok e fit
    have c5 := rTold_ok e fit
    have hlen : e.ans.prs.length ≤ 1000000 := by
      have := sumN_len (f := Par.bulk) (fun x => by unfold Par.bulk; omega) e.ans.prs
      omega
    have c6 := rSame38_ok e e (by omega) (by omega)
    rw [sameE_refl] at c6
    have c7 := tParse_ok s (by omega)
    have hto : toldB e = true → parseE (evF e) = (e, true) := told_read
    cases hq : parseE s with
    | mk y is =>
    have c8 : is = true → AFn Tryd.prog 24 [y.a] (.bool true) ∧ AFn Tryd.prog 23 [y.a] (.str s) := by
      rintro rfl
      obtain ⟨r1, r2⟩ := read_told hq
      have f := parseE_fit (by omega) hq
      have k1 := rTold_ok y f
      have k2 := rEvent_ok y f
      rw [r1] at k1
      rw [r2] at k2
      exact ⟨k1, k2⟩
    have c9 : is = false → y = Evt.zero := by
      intro hi
      have := parse_noE (s := s) (by rw [hq]; exact hi)
      rw [hq] at this; exact this
    have c10 := rSame38_ok Evt.zero Evt.zero (by decide) (by decide)
    rw [zero_same] at c10
    rw [hq] at c7
    clear hq ok q1 fit f1 f2 hlen e1
    have c3' : toldB e = true → AFn Tryd.prog 22 [.str (evF e)] (.tup [e.a, .bool true]) := by
      intro h
      rw [hto h] at c3; exact c3
    clear hto
    have nq : (evF e).toList == (evF e).toList := beq_self_eq_true _
    generalize (parseE (evF e)).1 = x at *
    generalize (parseE (evF e)).2 = xb at *
    generalize toldB e = told at *
    generalize evF e = E at *
    simp only [Evt.zero, Opr.zero, Ans.zero] at c10 c9
    cases told
    · cases is
      · have c9 := c9 rfl
        subst c9
        (repeat (first | simp (maxSteps := 4000000) only [go_sem, ↓reduceIte, reduceCtorEq, Nat.reduceEqDiff, Nat.reduceBEq, Nat.reduceAdd, Nat.reduceSub, Nat.reduceMul, Nat.reduceLT, Nat.reduceLeDiff, Nat.reduceBNe, Int.reduceBEq, Int.reduceBNe, Int.reduceLT, Int.reduceLE, Par.a, Opr.a, Ans.a, Evt.a, nul, hs, bne_self_eq_false, beq_self_eq_true, nq] | refine calling (c1) ?_ | refine callingH (c1) ?_ | refine calling (c2) ?_ | refine callingH (c2) ?_ | refine calling (c3) ?_ | refine callingH (c3) ?_ | refine calling (c4) ?_ | refine callingH (c4) ?_ | refine calling (c5) ?_ | refine callingH (c5) ?_ | refine calling (c7) ?_ | refine callingH (c7) ?_ | refine calling (c10) ?_ | refine callingH (c10) ?_ | refine calling (aw) ?_ | refine callingH (aw) ?_ | refine And.intro (by omega) ?_ | refine And.intro (fun d hd => by (repeat (rcases hd with rfl | hd; · exact ⟨rfl, rfl⟩)); cases hd) ?_))
      · obtain ⟨k1, k2⟩ := c8 rfl
        (repeat (first | simp (maxSteps := 4000000) only [go_sem, ↓reduceIte, reduceCtorEq, Nat.reduceEqDiff, Nat.reduceBEq, Nat.reduceAdd, Nat.reduceSub, Nat.reduceMul, Nat.reduceLT, Nat.reduceLeDiff, Nat.reduceBNe, Int.reduceBEq, Int.reduceBNe, Int.reduceLT, Int.reduceLE, Par.a, Opr.a, Ans.a, Evt.a, nul, hs, bne_self_eq_false, beq_self_eq_true, nq] | refine calling (c1) ?_ | refine callingH (c1) ?_ | refine calling (c2) ?_ | refine callingH (c2) ?_ | refine calling (c3) ?_ | refine callingH (c3) ?_ | refine calling (c4) ?_ | refine callingH (c4) ?_ | refine calling (c5) ?_ | refine callingH (c5) ?_ | refine calling (c7) ?_ | refine callingH (c7) ?_ | refine calling (k1) ?_ | refine callingH (k1) ?_ | refine calling (k2) ?_ | refine callingH (k2) ?_ | refine calling (aw) ?_ | refine callingH (aw) ?_ | refine And.intro (by omega) ?_ | refine And.intro (fun d hd => by (repeat (rcases hd with rfl | hd; · exact ⟨rfl, rfl⟩)); cases hd) ?_))
    · have c3 := c3' rfl
      cases is
      · have c9 := c9 rfl
        subst c9
        (repeat (first | simp (maxSteps := 4000000) only [go_sem, ↓reduceIte, reduceCtorEq, Nat.reduceEqDiff, Nat.reduceBEq, Nat.reduceAdd, Nat.reduceSub, Nat.reduceMul, Nat.reduceLT, Nat.reduceLeDiff, Nat.reduceBNe, Int.reduceBEq, Int.reduceBNe, Int.reduceLT, Int.reduceLE, Par.a, Opr.a, Ans.a, Evt.a, nul, hs, bne_self_eq_false, beq_self_eq_true, nq] | refine calling (c1) ?_ | refine callingH (c1) ?_ | refine calling (c2) ?_ | refine callingH (c2) ?_ | refine calling (c3) ?_ | refine callingH (c3) ?_ | refine calling (c4) ?_ | refine callingH (c4) ?_ | refine calling (c5) ?_ | refine callingH (c5) ?_ | refine calling (c6) ?_ | refine callingH (c6) ?_ | refine calling (c7) ?_ | refine callingH (c7) ?_ | refine calling (c10) ?_ | refine callingH (c10) ?_ | refine calling (aw) ?_ | refine callingH (aw) ?_ | refine And.intro (by omega) ?_ | refine And.intro (fun d hd => by (repeat (rcases hd with rfl | hd; · exact ⟨rfl, rfl⟩)); cases hd) ?_))
      · obtain ⟨k1, k2⟩ := c8 rfl
        (repeat (first | simp (maxSteps := 4000000) only [go_sem, ↓reduceIte, reduceCtorEq, Nat.reduceEqDiff, Nat.reduceBEq, Nat.reduceAdd, Nat.reduceSub, Nat.reduceMul, Nat.reduceLT, Nat.reduceLeDiff, Nat.reduceBNe, Int.reduceBEq, Int.reduceBNe, Int.reduceLT, Int.reduceLE, Par.a, Opr.a, Ans.a, Evt.a, nul, hs, bne_self_eq_false, beq_self_eq_true, nq] | refine calling (c1) ?_ | refine callingH (c1) ?_ | refine calling (c2) ?_ | refine callingH (c2) ?_ | refine calling (c3) ?_ | refine callingH (c3) ?_ | refine calling (c4) ?_ | refine callingH (c4) ?_ | refine calling (c5) ?_ | refine callingH (c5) ?_ | refine calling (c6) ?_ | refine callingH (c6) ?_ | refine calling (c7) ?_ | refine callingH (c7) ?_ | refine calling (k1) ?_ | refine callingH (k1) ?_ | refine calling (k2) ?_ | refine callingH (k2) ?_ | refine calling (aw) ?_ | refine callingH (aw) ?_ | refine And.intro (by omega) ?_ | refine And.intro (fun d hd => by (repeat (rcases hd with rfl | hd; · exact ⟨rfl, rfl⟩)); cases hd) ?_))
theorem reads_agg' {w : World} {fs : List Ty} {c : Array Value} {ds : List AV} (h : ReadsAs w (.st fs) c.toList ds) : VR (fun b _ => b < w.heap.size) w (.agg ds) (.agg c) := by
  have := VR.agg (Pr := fun b _ => b < w.heap.size) (w := w) ds c.toList h.2.1 h.2.2
  simpa using this
theorem traceEvents_walk (c0 : Array Value) (s : ByteArray) (w : World) (hG : Glob w) (f0 : ∃ ds, ReadsAs w EvtT c0.toList ds) (f1 : s.size ≤ 281474976710656) :
    Calls Tryd.prog 6 #[.agg c0, .string s] w fun e w' => e = .returned (.bool true) ∧ Below w.heap.size w w' := by
  obtain ⟨d0, r0⟩ := f0
  obtain ⟨n, e0, on⟩ := Evt.of r0.1
  have v0 := reads_agg' r0
  rw [e0] at v0
  refine run_args (vs := [.agg c0, .string s]) hG rfl (fun j d u hj hu => ?_) (traceEvents_law n s on)
  match j with
  | 0 => cases hj; cases hu; exact v0
  | 1 => cases hj; cases hu; exact .str s
  | j + 2 => simp at hj
end
section
/-
  'Rows.TraceEventsSaid' is proved: the law percolatelaw46.TraceEvents returns true at every input, and its arguments read as they did. No condition.
-/
namespace traceEvents
open Go.ChangeShapes Go.WideShapes Go.ChangeAt Go.RowKit
open Go.ChangeMaps (open_string shut_string)
set_option linter.unusedVariables false
set_option maxRecDepth 100000 in
theorem lifted (os : Os) (started : os.Started) (H : Type) (enc : TypeId × Value → H) :
    ReturnsInHanded {} Tryd.checked os 6 .any (fun w args => (Rows.traceEventsSpec.pre enc Tryd.prog Tryd.f6 [] false w args ∧ laidMetH Tryd.prog Rows.traceEventsRow.laid w) ∧ sizedMet enc Tryd.prog Tryd.f6 (OpenSpec.ofChange Rows.traceEventsSpec) false w args) (Rows.traceEventsSpec.post enc Tryd.prog Tryd.f6 false true false false) := by
  refine returnsInHanded_of_row (C := Tryd.checked) (s := OpenSpec.ofChange Rows.traceEventsSpec) (F := fun _ _ _ => 0) ownK started (by kernel_rfl) Tryd.func6
    (ChangeSpec.witness_shaped (enc := enc) (C := Tryd.checked) (os := os) (X := fun w _ => laidMetH Tryd.prog Rows.traceEventsRow.laid w) false (World.laidAll Tryd.prog os Rows.traceEventsRow.laid) #[.agg #[.int .i64 0, .int .i64 0, .string .empty, .string .empty, .bool false, .string .empty, .int .i64 0, .int .i64 0, .bool false, .string .empty, .slice none 0 0, .int .i64 0, .int .i64 0, .int .i64 0, .bool false], .string .empty] 8 (World.laidAll_os _ _ _)
      (World.shaped_of_ZipB (by kernel_rfl) (by kernel_rfl)) (by kernel_rfl) (by kernel_rfl) (by kernel_rfl)
      (by rw [MakeChecks.laidMetH_plain _ _ _ (by kernel_rfl)]; exact laidMet_laidAll _ (by kernel_rfl) (by kernel_rfl))) ?_
  intro W base args ds gs before hval0 hW hcnd hk hsz hL hsh _
  have hval : ∀ (j : Nat) t v, Tryd.f6.params[j]? = some t → args[j]? = some v → Value.okWide Tryd.prog W .any base t v := hval0
  have hW' := hW
  obtain ⟨p, q, hA0, hV, rfl, hfz, hnd⟩ := hW
  have hA : DataW.TrodAll enc Tryd.prog W 0 (fun _ => true) true Tryd.f6.params.toList args.toList ds p := hA0
  rw [Tryd.params6] at hA hval
  obtain ⟨v0, vs0, d0, ds0, p0, q0, hargs, rfl, rfl, h0, r0⟩ := trodAll_cons hA
  obtain ⟨v1, vs1, d1, ds1, p1, q1, rfl, rfl, rfl, h1, r1⟩ := trodAll_cons r0
  obtain ⟨rfl, rfl, rfl⟩ := trodAll_nil r1
  obtain rfl : args = #[v0, v1] := by cases args; simp_all
  obtain ⟨rfl, rfl⟩ := trodVars_none hV
  have hw0 : (d0.weights Tryd.prog 48).all (· ≤ reachBytes) = true := weightsEach_mem hsz 0 48 d0 rfl rfl
  obtain ⟨c0, rfl, hc0⟩ := okWide_struct Tryd.underlying48 (hval 0 48 v0 rfl rfl)
  obtain ⟨fu0, ht0⟩ := h0
  have f0 : ∃ ds, ReadsAs W (EvtT) c0.toList ds := typed_in 8 (x := (d0, p0)) (by kernel_rfl) hw0 ht0
  have hw1 : (d1.weights Tryd.prog 9).all (· ≤ reachBytes) = true := weightsEach_mem hsz 1 9 d1 rfl rfl
  obtain ⟨a1, rfl, hd1, hp1, w1⟩ := open_string Tryd.underlying9 (hval 1 9 v1 rfl rfl) h1
  rw [hd1] at hw1
  have f1 := str_reach hw1
  have hL' := hL
  rw [MakeChecks.laidMetH_plain _ _ _ (by kernel_rfl)] at hL'
  have hL3 : laidMet Tryd.prog (("internal/strconv.uint64pow10", Rows.laid_internal_strconv_uint64pow10) :: [("unicode/utf8.acceptRanges", Rows.laid_unicode_utf8_acceptRanges), ("unicode/utf8.first", Rows.laid_unicode_utf8_first)]) W := (laidMet.tail (laidMet.tail hL'))
  rw [show (Rows.laid_internal_strconv_uint64pow10 : DataW Unit) = Lib.tabData .u64 Lib.pow10Tab by kernel_rfl] at hL3
  have htab : PowTab W := Lib.tabIs_of_head (g := 1) (t := 200) (e := 174) (n := 20) (by kernel_rfl) (by kernel_rfl) Tryd.underlying200 Tryd.underlying174 (by kernel_rfl) (by kernel_rfl) hL3
  refine (traceEvents_walk c0 a1 W (Glob.start hsh htab) f0 f1).mono fun e W' ⟨he, hb⟩ => ?_
  subst he
  exact ⟨_, rfl, post_law laidOut hW' rfl rfl rfl rfl rfl Tryd.underlying4 (by intro t ht; rw [Tryd.params6] at ht; simp only [List.mem_cons, List.not_mem_nil, or_false] at ht; rcases ht with rfl | rfl <;> exact ⟨by kernel_rfl, of_decide_eq_true (by kernel_rfl)⟩) hb⟩
theorem holds : Rows.TraceEventsSaid :=
  OpenClaim.holds_of_wide 6 Tryd.f6 rfl rfl rfl rfl rfl rfl rfl ⟨rfl, rfl, rfl, rfl, rfl⟩ rfl rfl rfl rfl rfl (by kernel_rfl) Tryd.func6 (by kernel_rfl)
    (of_decide_eq_true (by kernel_rfl)) (by unfold Func.isWrapper; first | (rw [if_pos (by decide +kernel)]; kernel_rfl) | (rw [if_neg (by decide +kernel)]; exact ⟨rfl, rfl⟩))
    (fun os started H enc _ => lifted os started H enc)
theorem proved : Rows.TraceEventsCardSaid :=
  Claim7.holds_tied_plain_at .later [] [.data, .data, .data, .data, .pinned] true (true, "567d2a5f6848e9ed1f9ea116f8d40affbfd8f0c329bf341947ef914d5dac31ea") false holds (fun _ h => by cases h) (by kernel_rfl) (fun _ h => by cases h) traceEvents_row_tie rfl ⟨rfl, rfl⟩ (by kernel_rfl) rfl
    (fun f fn hf hfn => by
      obtain rfl : f = 6 := Option.some.inj ((show Tryd.prog.funcNamed "percolate/percolatelaw46.TraceEvents" = some 6 by kernel_rfl).symm.trans hf) |>.symm
      obtain rfl : fn = Tryd.f6 := (Option.some.inj (Tryd.func6.symm.trans hfn)).symm
      exact ⟨by kernel_rfl, fun j t ht => by
        rw [Tryd.params6] at ht
        have hm : t ∈ [48, 9] := by simpa using Array.mem_of_getElem? ht
        have hall : ([48, 9].all fun u => !Tryd.prog.wantsStandIn u) = true := by kernel_rfl
        exact (show Tryd.prog.wantsStandIn t = false by simpa using List.all_eq_true.1 hall t hm)⟩)
    (by kernel_rfl)
end traceEvents
end
end Go.Proofs.YthfdbjocpicbmaaDoor
