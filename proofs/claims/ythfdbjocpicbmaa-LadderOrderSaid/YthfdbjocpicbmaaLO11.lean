/-
  Part 11 of a proof: TeB, TeC.
-/
import Derived.Test.YthfdbjocpicbmaaLO10
namespace Go.Proofs.Ythfdbjocpicbmaa
attribute [local go_sem] ev0 ev1 ev2 ev3 ev4 evA stHOk.eq_1 stHOk.eq_2 stHSt.eq_1 stHSt.eq_2 okV valV fzV okF valF okBld valBld mxOk.eq_1 mxOk.eq_2 mxVal.eq_1 mxVal.eq_2 cellFit.eq_1 cellFit.eq_2 cellFit.eq_3 cellEq.eq_1 cellEq.eq_2 cellEq.eq_3 upd_at AV.flatB AV.flatBs binIok binIV binSok binSV cellsOk.eq_1 cellsOk.eq_2 cellsVal.eq_1 cellsVal.eq_2 objCells.eq_1 objCells.eq_2 objZ.eq_1 objZ.eq_2 objProt.eq_1 objProt.eq_2 oneObj ptrOk.eq_1 ptrOk.eq_2 ptrOk.eq_3 ptrCells.eq_1 ptrCells.eq_2 ptrCells.eq_3 lenOk.eq_1 lenOk.eq_2 lenOk.eq_3 lenOk.eq_4 lenVal.eq_1 lenVal.eq_2 lenVal.eq_3 lenVal.eq_4 faOk.eq_1 faOk.eq_2 faOk.eq_3 faVal.eq_1 faVal.eq_2 faVal.eq_3 iaOk.eq_1 iaOk.eq_2 iaOk.eq_3 iaVal.eq_1 iaVal.eq_2 iaVal.eq_3 slcLen.eq_1 slcLen.eq_2 slcLen.eq_3 slcLen.eq_4 bdOk.eq_1 bdOk.eq_2 bdVal.eq_1 bdVal.eq_2 slcOk.eq_1 slcOk.eq_2 slcOk.eq_3 slcOk.eq_4 slcVal.eq_1 slcVal.eq_2 slcVal.eq_3 slcVal.eq_4 slcFz.eq_1 slcFz.eq_2 loK.eq_1 loK.eq_2 loK.eq_3 rsVal.eq_1 rsVal.eq_2 rsVal.eq_3 byOk.eq_1 byOk.eq_2 byOk.eq_3 byOk.eq_4 byOk.eq_5 byOk.eq_6 byOk.eq_7 byOk.eq_8 byVal.eq_1 byVal.eq_2 byVal.eq_3 byFz.eq_1 byFz.eq_2 byFz.eq_3 byOks byVals byFzs allOne resSt.eq_1 resSt.eq_2 resName.eq_1 resName.eq_2 stOk.eq_1 stOk.eq_2 stArr.eq_1 stArr.eq_2 stSt.eq_1 stSt.eq_2 AV.patch nameOk_none gB.eq_1 gB.eq_2 gB.eq_3 gIs.eq_1 gIs.eq_2 gIs.eq_3 retV resV resVs evalV cellsV St.byval List.getD_cons_zero List.getD_cons_succ List.getD_nil List.map_cons List.map_nil List.length_cons List.length_nil List.take_succ_cons List.take_zero List.drop_succ_cons List.drop_zero List.headD_cons List.set_cons_zero List.append_nil List.nil_append List.cons_append List.contains_cons List.contains_nil List.elem_cons List.elem_nil List.all_cons List.all_nil List.getElem?_cons_zero List.getElem?_cons_succ List.filterMap_cons List.filterMap_nil Option.isSome_some Option.isSome_none Option.map_some Option.map_none Option.some.injEq AV.int.injEq AV.bool.injEq AV.str.injEq AV.tup.injEq AV.agg.injEq AV.sl.injEq List.cons.injEq Bool.false_eq_true Bool.true_eq_false Bool.not_true Bool.not_false Bool.and_true Bool.true_and Bool.or_false Bool.or_true Bool.false_or Bool.true_or Bool.or_self Bool.and_self Bool.not_eq_true' Bool.not_eq_false' Bool.not_not beq_self_eq_true true_and and_true false_and and_false and_self not_true_eq_false not_false_eq_true forall_const true_implies false_implies implies_true imp_self Nat.lt_add_one Nat.le_refl Nat.zero_le Nat.add_zero Nat.zero_add decide_true decide_false decide_eq_true_eq decide_eq_false_iff_not exists_eq_left exists_eq_left' ge_iff_le gt_iff_lt ite_branch ite_branch' nilOk.eq_1 nilOk.eq_2 nilMay.eq_1 nilMay.eq_2 AV.isSl.eq_1 objTy'.eq_1 objTy'.eq_2 apSt.eq_1 apArr.eq_1 apArr.eq_2 apTwo.eq_1 apTwo.eq_2 apSt2.eq_1 apArr2.eq_1 apArr2.eq_2 slOf.eq_1 fitsV List.mem_cons List.not_mem_nil Bool.false_and Bool.and_false primOk.eq_1 primOk.eq_2 primOk.eq_3 primOk.eq_4 primOk.eq_5 primVal.eq_1 primVal.eq_2 primVal.eq_3 primVal.eq_4 primVal.eq_5 mOk.eq_1 mOk.eq_2 mVal.eq_1 mVal.eq_2 mFz.eq_1 mFz.eq_2 mOks mVals mFzs mCalOk.eq_1 mCalOk.eq_2 mFn.eq_1 mFn.eq_2 mArgs.eq_1 mArgs.eq_2 ckOk.eq_1 ckOk.eq_2 cloOk.eq_1 ptrAt.eq_1 sh.eq_1 sh.eq_2 sh.eq_3 sh.eq_4 sh.eq_5 sh.eq_6 retM shH_small evM entOk.eq_1 entOk.eq_2 ents.eq_1 ents.eq_2 kI.eq_1 mpOk.eq_1 mpR.eq_1 lkV.eq_1 lkV.eq_2 remp.eq_2 evP pvOk.eq_1 pvOk.eq_2 pvVal.eq_1 pvVal.eq_2 plOk.eq_1 plOk.eq_2 plOk.eq_3 plV.eq_1 plV.eq_2 plF.eq_1 plF.eq_2 plVal.eq_1 plVal.eq_2 plFz.eq_1 plFz.eq_2 lpOk.eq_1 lpOk.eq_2 lpVal.eq_1 lpVal.eq_2 lpFz.eq_1 lpFz.eq_2 stpOk.eq_1 stpOk.eq_2 stpSt.eq_1 stpSt.eq_2 stpArr.eq_1
section
/-
  Trees of the document: messages cut, and lists of them laid one behind the other: walked.
-/
open Go.RowKit
set_option linter.unusedVariables false
set_option linter.unusedSimpArgs false
set_option maxRecDepth 100000
attribute [local go_sem ↓] runOp headOp
/-! ### percolate/percolateref05.Clip -/
def t_clip5_0 : List ROp := [⟨(.box 6 130 (.t 0)), (some 2), none, [3, 4], []⟩, ⟨(.box 3 38 (.t 1)), (some 3), none, [4], []⟩, ⟨(.alloc 6 130 (.agg [(.int .i64 0), (.int .i64 0), (.str ⟨#[]⟩), (.str ⟨#[]⟩), (.bool false), (.str ⟨#[]⟩)])), (some 4), none, [], []⟩, ⟨(.mv (.c (.bool false))), (some 5), none, [], []⟩]
def r_clip5_0 : Reg := ⟨[], t_clip5_0, [2, 3, 4], [], false⟩
def h_clip5_1 : List ROp := [⟨(.load 6 true (.t 2)), (some 7), none, [8, 10, 6], []⟩, ⟨(.callv (.c (.clo 120 [] [])) [(.t 7)]), (some 8), none, [10, 6], []⟩, ⟨(.load 3 true (.t 3)), (some 9), none, [8, 10, 6], []⟩, ⟨(.callv (.c (.clo 54 [] [])) [(.t 8), (.t 9)]), (some 10), none, [6], []⟩, ⟨(.alloc 3 38 (.agg [(.str ⟨#[]⟩), (.str ⟨#[]⟩), (.bool false)])), (some 6), none, [8, 10], []⟩]
def r_clip5_1 : Reg := ⟨h_clip5_1, [⟨(.store 3 (.t 6) (.t 10)), none, none, [], [6]⟩], [8, 10, 6], [], true⟩
def t_clip5_2 : List ROp := [⟨(.load 3 true (.t 6)), (some 11), none, [12], []⟩, ⟨(.callv (.c (.clo 121 [] [])) [(.t 11)]), (some 12), none, [], []⟩]
def r_clip5_2 : Reg := ⟨[], t_clip5_2, [12], [], false⟩
def t_clip5_3 : List ROp := [⟨(.bld [(.int .i64 0), (.int .i64 0), (.str ⟨#[]⟩), (.str ⟨#[]⟩), (.bool false), (.str ⟨#[]⟩)] []), (some 13), none, [], []⟩, ⟨(.store 6 (.t 4) (.t 13)), none, none, [], []⟩, ⟨(.mv (.c (.bool false))), (some 5), none, [], []⟩]
def r_clip5_3 : Reg := ⟨[], t_clip5_3, [], [], false⟩
def t_clip5_4 : List ROp := [⟨(.faddr 1 (.t 2)), (some 14), none, [], []⟩, ⟨(.load 1 false (.t 14)), (some 15), none, [], []⟩, ⟨(.bin .eql (.t 15) (.c (.int .i64 4))), (some 16), none, [], []⟩]
def r_clip5_4 : Reg := ⟨[], t_clip5_4, [], [], false⟩
def t_clip5_5 : List ROp := [⟨(.faddr 0 (.t 6)), (some 17), none, [], []⟩, ⟨(.load 1 false (.t 17)), (some 18), none, [], []⟩, ⟨(.faddr 2 (.t 2)), (some 19), none, [], []⟩, ⟨(.store 1 (.t 19) (.t 18)), none, none, [], []⟩]
def r_clip5_5 : Reg := ⟨[], t_clip5_5, [], [], false⟩
def t_clip5_6 : List ROp := [⟨(.faddr 1 (.t 6)), (some 20), none, [], []⟩, ⟨(.load 1 false (.t 20)), (some 21), none, [], []⟩, ⟨(.faddr 3 (.t 2)), (some 22), none, [], []⟩, ⟨(.store 1 (.t 22) (.t 21)), none, none, [], []⟩]
def r_clip5_6 : Reg := ⟨[], t_clip5_6, [], [], false⟩
def t_clip5_7 : List ROp := [⟨(.faddr 2 (.t 6)), (some 23), none, [], []⟩, ⟨(.load 1 false (.t 23)), (some 24), none, [], []⟩, ⟨(.faddr 4 (.t 2)), (some 25), none, [], []⟩, ⟨(.store 1 (.t 25) (.t 24)), none, none, [], []⟩]
def r_clip5_7 : Reg := ⟨[], t_clip5_7, [], [], false⟩
def t_clip5_8 : List ROp := [⟨(.load 6 true (.t 2)), (some 26), none, [], []⟩, ⟨(.store 6 (.t 4) (.t 26)), none, none, [], []⟩, ⟨(.mv (.c (.bool true))), (some 5), none, [], []⟩]
def r_clip5_8 : Reg := ⟨[], t_clip5_8, [], [], false⟩
def ir_clip5 : IR := (.seq (.reg r_clip5_0)
  (.seq (.reg r_clip5_1)
  (.seq (.seq (.reg r_clip5_2)
  (.cond (.t 12) (.seq (.reg r_clip5_3)
  .ret)
  .skip))
  (.seq (.seq (.reg r_clip5_4)
  (.cond (.t 16) (.seq (.reg r_clip5_5)
  (.seq (.reg r_clip5_6)
  (.reg r_clip5_7)))
  .skip))
  (.seq (.reg r_clip5_8)
  .ret)))))
def res_clip5 : List RDesc := [(.cell 4 6 true), (.tmp 5)]
theorem e_clip5_0 (C : FuncId → List AV → AV → Prop) (σ : St) (K : St → Prop) : runReg C r_clip5_0 σ K = runOps C t_clip5_0 (σ.kills [2, 3, 4]) K := rfl
theorem e_clip5_1 (C : FuncId → List AV → AV → Prop) (σ : St) (K : St → Prop) : runReg C r_clip5_1 σ K = runHead C [] [⟨(.store 3 (.t 6) (.t 10)), none, none, [], [6]⟩] h_clip5_1 (σ.kills [8, 10, 6]) K := rfl
theorem e_clip5_2 (C : FuncId → List AV → AV → Prop) (σ : St) (K : St → Prop) : runReg C r_clip5_2 σ K = runOps C t_clip5_2 (σ.kills [12]) K := rfl
theorem e_clip5_3 (C : FuncId → List AV → AV → Prop) (σ : St) (K : St → Prop) : runReg C r_clip5_3 σ K = runOps C t_clip5_3 (σ.kills []) K := rfl
theorem e_clip5_4 (C : FuncId → List AV → AV → Prop) (σ : St) (K : St → Prop) : runReg C r_clip5_4 σ K = runOps C t_clip5_4 (σ.kills []) K := rfl
theorem e_clip5_5 (C : FuncId → List AV → AV → Prop) (σ : St) (K : St → Prop) : runReg C r_clip5_5 σ K = runOps C t_clip5_5 (σ.kills []) K := rfl
theorem e_clip5_6 (C : FuncId → List AV → AV → Prop) (σ : St) (K : St → Prop) : runReg C r_clip5_6 σ K = runOps C t_clip5_6 (σ.kills []) K := rfl
theorem e_clip5_7 (C : FuncId → List AV → AV → Prop) (σ : St) (K : St → Prop) : runReg C r_clip5_7 σ K = runOps C t_clip5_7 (σ.kills []) K := rfl
theorem e_clip5_8 (C : FuncId → List AV → AV → Prop) (σ : St) (K : St → Prop) : runReg C r_clip5_8 σ K = runOps C t_clip5_8 (σ.kills []) K := rfl
theorem fn_clip5 {args : List AV} {r : AV} (ha : args.length.ble Try.f93.ntmps = true) (h : run (AFn Try.prog) ir_clip5 (endQ res_clip5 r) (initSt args)) : AFn Try.prog 93 args r :=
  AFn.of_code (pv := false) (hint := fun _ => []) (c := Try.f93.body.getD .skip) (by kernel_rfl) (by kernel_rfl) Try.func93 (by kernel_rfl) (by kernel_rfl) (by kernel_rfl) (of_decide_eq_true (by kernel_rfl)) (Nat.le_of_ble_eq_true ha) (Nat.le_of_ble_eq_true (by kernel_rfl)) (run_ok h)
/-! ### percolate/percolateref18.Clip -/
def r_clip18_0 : Reg := ⟨[], [⟨(.box 3 38 (.t 1)), (some 3), none, [4], []⟩, ⟨(.mknil 6 130), (some 4), none, [], []⟩], [3, 4], [], false⟩
def r_clip18_1 : Reg := ⟨[], [⟨(.mknil 6 130), (some 5), none, [], []⟩], [5], [], false⟩
def r_clip18_2 : Reg := ⟨[], [⟨(.mv (.c (.int .i64 0))), (some 6), none, [], []⟩], [], [], false⟩
def t_clip18_3 : List ROp := [⟨(.mv (.t 6)), (some 9), none, [], []⟩, ⟨(.mv (.t 0)), (some 10), none, [], []⟩, ⟨(.len false (.t 10)), (some 11), none, [], []⟩, ⟨(.bin .lss (.t 9) (.t 11)), (some 12), none, [], []⟩]
def r_clip18_3 : Reg := ⟨[], t_clip18_3, [], [], false⟩
def h_clip18_4 : List ROp := [⟨(.mv (.t 0)), (some 16), none, [21, 7], []⟩, ⟨(.mv (.t 6)), (some 17), none, [21, 7], []⟩, ⟨(.iaddr 6 (.t 16) (.t 17)), (some 18), none, [21, 7], []⟩, ⟨(.load 6 true (.t 18)), (some 19), none, [21, 7], []⟩, ⟨(.load 3 true (.t 3)), (some 20), none, [21, 7], []⟩, ⟨(.callv (.c (.clo 93 [] [])) [(.t 19), (.t 20)]), (some 21), none, [7], []⟩, ⟨(.mv (.t 21)), (some 15), none, [7], []⟩, ⟨(.ext 0 (.t 15)), (some 22), none, [7], []⟩, ⟨(.ext 1 (.t 15)), (some 23), none, [7, 7], []⟩, ⟨(.alloc 6 130 (.agg [(.int .i64 0), (.int .i64 0), (.str ⟨#[]⟩), (.str ⟨#[]⟩), (.bool false), (.str ⟨#[]⟩)])), (some 7), none, [21], []⟩, ⟨(.store 6 (.t 7) (.t 22)), none, none, [], [7]⟩]
def r_clip18_4 : Reg := ⟨h_clip18_4, [⟨(.mv (.t 23)), (some 8), none, [], []⟩], [21, 7], [], true⟩
def r_clip18_5 : Reg := ⟨[], [⟨(.mv (.t 8)), (some 24), none, [], []⟩], [], [], false⟩
def t_clip18_6 : List ROp := [⟨(.mv (.t 5)), (some 25), none, [27], []⟩, ⟨(.load 6 true (.t 7)), (some 26), none, [27], []⟩, ⟨(.bsl 6 130 [(.t 26)]), (some 27), none, [], []⟩, ⟨(.append 6 130 72 (.t 25) (.t 27)), (some 28), none, [], []⟩, ⟨(.mv (.t 28)), (some 5), none, [], []⟩]
def r_clip18_6 : Reg := ⟨[], t_clip18_6, [27], [], false⟩
def t_clip18_7 : List ROp := [⟨(.mv (.t 6)), (some 13), none, [], []⟩, ⟨(.bin .add (.t 13) (.c (.int .i64 1))), (some 14), none, [], []⟩, ⟨(.mv (.t 14)), (some 6), none, [], []⟩]
def r_clip18_7 : Reg := ⟨[], t_clip18_7, [], [], false⟩
def r_clip18_l8 : IR := (.seq (.seq (.reg r_clip18_3)
  (.cond (.t 12) .skip
  (.exit 0)))
  (.seq (.block 1 (.seq (.reg r_clip18_4)
  (.seq (.reg r_clip18_5)
  (.cond (.t 24) (.reg r_clip18_6)
  .skip))))
  (.reg r_clip18_7)))
def r_clip18_9 : Reg := ⟨[], [⟨(.mv (.t 5)), (some 29), none, [], []⟩, ⟨(.mv (.t 29)), (some 4), none, [], []⟩], [], [], false⟩
def ir_clip18 : IR := (.seq (.reg r_clip18_0)
  (.seq (.reg r_clip18_1)
  (.seq (.seq (.reg r_clip18_2)
  (.block 0 (.loop r_clip18_l8)))
  (.seq (.reg r_clip18_9)
  .ret))))
def res_clip18 : List RDesc := [(.tmp 4)]
theorem e_clip18_0 (C : FuncId → List AV → AV → Prop) (σ : St) (K : St → Prop) : runReg C r_clip18_0 σ K = runOps C [⟨(.box 3 38 (.t 1)), (some 3), none, [4], []⟩, ⟨(.mknil 6 130), (some 4), none, [], []⟩] (σ.kills [3, 4]) K := rfl
theorem e_clip18_1 (C : FuncId → List AV → AV → Prop) (σ : St) (K : St → Prop) : runReg C r_clip18_1 σ K = runOps C [⟨(.mknil 6 130), (some 5), none, [], []⟩] (σ.kills [5]) K := rfl
theorem e_clip18_2 (C : FuncId → List AV → AV → Prop) (σ : St) (K : St → Prop) : runReg C r_clip18_2 σ K = runOps C [⟨(.mv (.c (.int .i64 0))), (some 6), none, [], []⟩] (σ.kills []) K := rfl
theorem e_clip18_3 (C : FuncId → List AV → AV → Prop) (σ : St) (K : St → Prop) : runReg C r_clip18_3 σ K = runOps C t_clip18_3 (σ.kills []) K := rfl
theorem e_clip18_4 (C : FuncId → List AV → AV → Prop) (σ : St) (K : St → Prop) : runReg C r_clip18_4 σ K = runHead C [] [⟨(.mv (.t 23)), (some 8), none, [], []⟩] h_clip18_4 (σ.kills [21, 7]) K := rfl
theorem e_clip18_5 (C : FuncId → List AV → AV → Prop) (σ : St) (K : St → Prop) : runReg C r_clip18_5 σ K = runOps C [⟨(.mv (.t 8)), (some 24), none, [], []⟩] (σ.kills []) K := rfl
theorem e_clip18_6 (C : FuncId → List AV → AV → Prop) (σ : St) (K : St → Prop) : runReg C r_clip18_6 σ K = runOps C t_clip18_6 (σ.kills [27]) K := rfl
theorem e_clip18_7 (C : FuncId → List AV → AV → Prop) (σ : St) (K : St → Prop) : runReg C r_clip18_7 σ K = runOps C t_clip18_7 (σ.kills []) K := rfl
theorem e_clip18_9 (C : FuncId → List AV → AV → Prop) (σ : St) (K : St → Prop) : runReg C r_clip18_9 σ K = runOps C [⟨(.mv (.t 5)), (some 29), none, [], []⟩, ⟨(.mv (.t 29)), (some 4), none, [], []⟩] (σ.kills []) K := rfl
theorem fn_clip18 {args : List AV} {r : AV} (ha : args.length.ble Try.f57.ntmps = true) (h : run (AFn Try.prog) ir_clip18 (endQ res_clip18 r) (initSt args)) : AFn Try.prog 57 args r :=
  AFn.of_code (pv := false) (hint := fun _ => []) (c := Try.f57.body.getD .skip) (by kernel_rfl) (by kernel_rfl) Try.func57 (by kernel_rfl) (by kernel_rfl) (by kernel_rfl) (of_decide_eq_true (by kernel_rfl)) (Nat.le_of_ble_eq_true ha) (Nat.le_of_ble_eq_true (by kernel_rfl)) (run_ok h)
/-! ### percolate/percolateref24.Lists -/
def r_lists_0 : Reg := ⟨[], [⟨(.mknil 6 130), (some 2), none, [], []⟩], [2], [], false⟩
def t_lists_1 : List ROp := [⟨(.mv (.t 0)), (some 7), none, [9], []⟩, ⟨(.len false (.t 7)), (some 8), none, [9], []⟩, ⟨(.call 2 [(.c (.int .i64 8)), (.c (.int .i64 1)), (.c (.int .i64 3)), (.c (.int .i64 0)), (.t 8)]), (some 9), none, [], []⟩, ⟨(.mv (.t 9)), (some 3), none, [], []⟩]
def r_lists_1 : Reg := ⟨[], t_lists_1, [9], [], false⟩
def r_lists_2 : Reg := ⟨[], [⟨(.mknil 6 130), (some 4), none, [], []⟩], [4], [], false⟩
def r_lists_3 : Reg := ⟨[], [⟨(.mv (.c (.int .i64 (-1)))), (some 5), none, [], []⟩], [], [], false⟩
def r_lists_4 : Reg := ⟨[], [⟨(.mv (.c (.int .i64 0))), (some 6), none, [], []⟩], [], [], false⟩
def t_lists_5 : List ROp := [⟨(.mv (.t 6)), (some 10), none, [], []⟩, ⟨(.mv (.t 0)), (some 11), none, [], []⟩, ⟨(.len false (.t 11)), (some 12), none, [], []⟩, ⟨(.bin .lss (.t 10) (.t 12)), (some 13), none, [], []⟩]
def r_lists_5 : Reg := ⟨[], t_lists_5, [], [], false⟩
def t_lists_6 : List ROp := [⟨(.bin .lss (.t 40) (.t 51)), (some 52), (some (29, false)), [], []⟩, ⟨(.pick (.t 29) (.c (.bool true)) (.t 52)), (some 53), (some (26, true)), [], []⟩, ⟨(.pick (.t 26) (.t 53) (.c (.bool false))), (some 54), none, [], []⟩]
def h_lists_6 : List ROp := [⟨(.mv (.t 3)), (some 16), none, [], []⟩, ⟨(.mv (.t 6)), (some 17), none, [], []⟩, ⟨(.iaddr 1 (.t 16) (.t 17)), (some 18), none, [], []⟩, ⟨(.load 1 false (.t 18)), (some 19), none, [], []⟩, ⟨(.mv (.t 0)), (some 20), none, [], []⟩, ⟨(.mv (.t 6)), (some 21), none, [], []⟩, ⟨(.iaddr 1 (.t 20) (.t 21)), (some 22), none, [], []⟩, ⟨(.load 1 false (.t 22)), (some 23), none, [], []⟩, ⟨(.len false (.t 23)), (some 24), none, [], []⟩, ⟨(.bin .lss (.t 19) (.t 24)), (some 25), none, [], []⟩, ⟨(.mv (.t 25)), (some 26), none, [], []⟩, ⟨(.mv (.t 5)), (some 27), (some (26, true)), [], []⟩, ⟨(.bin .lss (.t 27) (.c (.int .i64 0))), (some 28), (some (26, true)), [], []⟩, ⟨(.mv (.t 28)), (some 29), (some (26, true)), [], []⟩, ⟨(.mv (.t 0)), (some 30), (some (29, false)), [], []⟩, ⟨(.mv (.t 6)), (some 31), (some (29, false)), [], []⟩, ⟨(.iaddr 1 (.t 30) (.t 31)), (some 32), (some (29, false)), [], []⟩, ⟨(.load 1 false (.t 32)), (some 33), (some (29, false)), [], []⟩, ⟨(.mv (.t 3)), (some 34), (some (29, false)), [], []⟩, ⟨(.mv (.t 6)), (some 35), (some (29, false)), [], []⟩, ⟨(.iaddr 1 (.t 34) (.t 35)), (some 36), (some (29, false)), [], []⟩, ⟨(.load 1 false (.t 36)), (some 37), (some (29, false)), [], []⟩, ⟨(.iaddr 6 (.t 33) (.t 37)), (some 38), (some (29, false)), [], []⟩, ⟨(.faddr 0 (.t 38)), (some 39), (some (29, false)), [], []⟩, ⟨(.load 1 false (.t 39)), (some 40), (some (29, false)), [], []⟩, ⟨(.mv (.t 0)), (some 41), (some (29, false)), [], []⟩, ⟨(.mv (.t 5)), (some 42), (some (29, false)), [], []⟩, ⟨(.iaddr 1 (.t 41) (.t 42)), (some 43), (some (29, false)), [], []⟩, ⟨(.load 1 false (.t 43)), (some 44), (some (29, false)), [], []⟩, ⟨(.mv (.t 3)), (some 45), (some (29, false)), [], []⟩, ⟨(.mv (.t 5)), (some 46), (some (29, false)), [], []⟩, ⟨(.iaddr 1 (.t 45) (.t 46)), (some 47), (some (29, false)), [], []⟩, ⟨(.load 1 false (.t 47)), (some 48), (some (29, false)), [], []⟩, ⟨(.iaddr 6 (.t 44) (.t 48)), (some 49), (some (29, false)), [], []⟩, ⟨(.faddr 0 (.t 49)), (some 50), (some (29, false)), [], []⟩, ⟨(.load 1 false (.t 50)), (some 51), (some (29, false)), [], []⟩]
def r_lists_6 : Reg := ⟨h_lists_6, t_lists_6, [], [], true⟩
def r_lists_7 : Reg := ⟨[], [⟨(.mv (.t 6)), (some 55), none, [], []⟩, ⟨(.mv (.t 55)), (some 5), none, [], []⟩], [], [], false⟩
def t_lists_8 : List ROp := [⟨(.mv (.t 6)), (some 14), none, [], []⟩, ⟨(.bin .add (.t 14) (.c (.int .i64 1))), (some 15), none, [], []⟩, ⟨(.mv (.t 15)), (some 6), none, [], []⟩]
def r_lists_8 : Reg := ⟨[], t_lists_8, [], [], false⟩
def r_lists_l9 : IR := (.seq (.seq (.reg r_lists_5)
  (.cond (.t 13) .skip
  (.exit 2)))
  (.seq (.block 3 (.seq (.reg r_lists_6)
  (.cond (.t 54) (.reg r_lists_7)
  .skip)))
  (.reg r_lists_8)))
def r_lists_10 : Reg := ⟨[], [⟨(.mv (.t 5)), (some 56), none, [], []⟩, ⟨(.bin .lss (.t 56) (.c (.int .i64 0))), (some 57), none, [], []⟩], [], [], false⟩
def r_lists_11 : Reg := ⟨[], [⟨(.mv (.t 4)), (some 58), none, [], []⟩, ⟨(.mv (.t 58)), (some 2), none, [], []⟩], [], [], false⟩
def h_lists_12 : List ROp := [⟨(.mv (.t 4)), (some 59), none, [70], []⟩, ⟨(.mv (.t 0)), (some 60), none, [70], []⟩, ⟨(.mv (.t 5)), (some 61), none, [70], []⟩, ⟨(.iaddr 1 (.t 60) (.t 61)), (some 62), none, [70], []⟩, ⟨(.load 1 false (.t 62)), (some 63), none, [70], []⟩, ⟨(.mv (.t 3)), (some 64), none, [70], []⟩, ⟨(.mv (.t 5)), (some 65), none, [70], []⟩, ⟨(.iaddr 1 (.t 64) (.t 65)), (some 66), none, [70], []⟩, ⟨(.load 1 false (.t 66)), (some 67), none, [70], []⟩, ⟨(.iaddr 6 (.t 63) (.t 67)), (some 68), none, [70], []⟩, ⟨(.load 6 true (.t 68)), (some 69), none, [70], []⟩, ⟨(.bsl 6 130 [(.t 69)]), (some 70), none, [], []⟩]
def r_lists_12 : Reg := ⟨h_lists_12, [⟨(.append 6 130 72 (.t 59) (.t 70)), (some 71), none, [], []⟩, ⟨(.mv (.t 71)), (some 4), none, [], []⟩], [70], [], true⟩
def t_lists_13 : List ROp := [⟨(.mv (.t 3)), (some 72), none, [], []⟩, ⟨(.mv (.t 5)), (some 73), none, [], []⟩, ⟨(.iaddr 1 (.t 72) (.t 73)), (some 74), none, [], []⟩, ⟨(.load 1 false (.t 74)), (some 75), none, [], []⟩, ⟨(.bin .add (.t 75) (.c (.int .i64 1))), (some 76), none, [], []⟩, ⟨(.iaddr 1 (.t 72) (.t 73)), (some 77), none, [], []⟩, ⟨(.store 1 (.t 77) (.t 76)), none, none, [], []⟩]
def r_lists_13 : Reg := ⟨[], t_lists_13, [], [], false⟩
def r_lists_l14 : IR := (.block 1 (.seq (.reg r_lists_3)
  (.seq (.seq (.reg r_lists_4)
  (.block 2 (.loop r_lists_l9)))
  (.seq (.seq (.reg r_lists_10)
  (.cond (.t 57) (.seq (.reg r_lists_11)
  .ret)
  .skip))
  (.seq (.reg r_lists_12)
  (.reg r_lists_13))))))
def ir_lists : IR := (.seq (.reg r_lists_0)
  (.seq (.reg r_lists_1)
  (.seq (.reg r_lists_2)
  (.block 0 (.loop r_lists_l14)))))
def res_lists : List RDesc := [(.tmp 2)]
theorem e_lists_0 (C : FuncId → List AV → AV → Prop) (σ : St) (K : St → Prop) : runReg C r_lists_0 σ K = runOps C [⟨(.mknil 6 130), (some 2), none, [], []⟩] (σ.kills [2]) K := rfl
theorem e_lists_1 (C : FuncId → List AV → AV → Prop) (σ : St) (K : St → Prop) : runReg C r_lists_1 σ K = runOps C t_lists_1 (σ.kills [9]) K := rfl
theorem e_lists_2 (C : FuncId → List AV → AV → Prop) (σ : St) (K : St → Prop) : runReg C r_lists_2 σ K = runOps C [⟨(.mknil 6 130), (some 4), none, [], []⟩] (σ.kills [4]) K := rfl
theorem e_lists_3 (C : FuncId → List AV → AV → Prop) (σ : St) (K : St → Prop) : runReg C r_lists_3 σ K = runOps C [⟨(.mv (.c (.int .i64 (-1)))), (some 5), none, [], []⟩] (σ.kills []) K := rfl
theorem e_lists_4 (C : FuncId → List AV → AV → Prop) (σ : St) (K : St → Prop) : runReg C r_lists_4 σ K = runOps C [⟨(.mv (.c (.int .i64 0))), (some 6), none, [], []⟩] (σ.kills []) K := rfl
theorem e_lists_5 (C : FuncId → List AV → AV → Prop) (σ : St) (K : St → Prop) : runReg C r_lists_5 σ K = runOps C t_lists_5 (σ.kills []) K := rfl
theorem e_lists_6 (C : FuncId → List AV → AV → Prop) (σ : St) (K : St → Prop) : runReg C r_lists_6 σ K = runHead C [] t_lists_6 h_lists_6 (σ.kills []) K := rfl
theorem e_lists_7 (C : FuncId → List AV → AV → Prop) (σ : St) (K : St → Prop) : runReg C r_lists_7 σ K = runOps C [⟨(.mv (.t 6)), (some 55), none, [], []⟩, ⟨(.mv (.t 55)), (some 5), none, [], []⟩] (σ.kills []) K := rfl
theorem e_lists_8 (C : FuncId → List AV → AV → Prop) (σ : St) (K : St → Prop) : runReg C r_lists_8 σ K = runOps C t_lists_8 (σ.kills []) K := rfl
theorem e_lists_10 (C : FuncId → List AV → AV → Prop) (σ : St) (K : St → Prop) : runReg C r_lists_10 σ K = runOps C [⟨(.mv (.t 5)), (some 56), none, [], []⟩, ⟨(.bin .lss (.t 56) (.c (.int .i64 0))), (some 57), none, [], []⟩] (σ.kills []) K := rfl
theorem e_lists_11 (C : FuncId → List AV → AV → Prop) (σ : St) (K : St → Prop) : runReg C r_lists_11 σ K = runOps C [⟨(.mv (.t 4)), (some 58), none, [], []⟩, ⟨(.mv (.t 58)), (some 2), none, [], []⟩] (σ.kills []) K := rfl
theorem e_lists_12 (C : FuncId → List AV → AV → Prop) (σ : St) (K : St → Prop) : runReg C r_lists_12 σ K = runHead C [] [⟨(.append 6 130 72 (.t 59) (.t 70)), (some 71), none, [], []⟩, ⟨(.mv (.t 71)), (some 4), none, [], []⟩] h_lists_12 (σ.kills [70]) K := rfl
theorem e_lists_13 (C : FuncId → List AV → AV → Prop) (σ : St) (K : St → Prop) : runReg C r_lists_13 σ K = runOps C t_lists_13 (σ.kills []) K := rfl
theorem fn_lists {args : List AV} {r : AV} (ha : args.length.ble Try.f56.ntmps = true) (h : run (AFn Try.prog) ir_lists (endQ res_lists r) (initSt args)) : AFn Try.prog 56 args r :=
  AFn.of_code (pv := false) (hint := fun _ => []) (c := Try.f56.body.getD .skip) (by kernel_rfl) (by kernel_rfl) Try.func56 (by kernel_rfl) (by kernel_rfl) (by kernel_rfl) (of_decide_eq_true (by kernel_rfl)) (Nat.le_of_ble_eq_true ha) (Nat.le_of_ble_eq_true (by kernel_rfl)) (run_ok h)
attribute [local go_sem ↓] ir_clip5
attribute [local go_sem] res_clip5 e_clip5_0 t_clip5_0 e_clip5_1 h_clip5_1 e_clip5_2 t_clip5_2 e_clip5_3 t_clip5_3 e_clip5_4 t_clip5_4 e_clip5_5 t_clip5_5 e_clip5_6 t_clip5_6 e_clip5_7 t_clip5_7 e_clip5_8 t_clip5_8
attribute [local go_sem ↓] ir_clip18
attribute [local go_sem] res_clip18 e_clip18_0 e_clip18_1 e_clip18_2 e_clip18_3 t_clip18_3 e_clip18_4 h_clip18_4 e_clip18_5 e_clip18_6 t_clip18_6 e_clip18_7 t_clip18_7 e_clip18_9
attribute [local go_sem ↓] ir_lists
attribute [local go_sem] res_lists e_lists_0 e_lists_1 t_lists_1 e_lists_2 e_lists_3 e_lists_4 e_lists_5 t_lists_5 e_lists_6 t_lists_6 h_lists_6 e_lists_7 e_lists_8 t_lists_8 e_lists_10 e_lists_11 e_lists_12 h_lists_12 e_lists_13 t_lists_13
def clipM (m : Msg) (s : Spn) : Msg × Bool :=
  if (m.span.meet s).empty then (Msg.zero, false) else (if m.kind = 4 then ⟨m.stamp, m.kind, (m.span.meet s).lo, (m.span.meet s).hi, (m.span.meet s).op, m.val⟩ else m, true)
/-- texts of at most so many bytes -/
def Spn.le (s : Spn) (n : Nat) : Prop := s.lo.size ≤ n ∧ s.hi.size ≤ n
theorem maxS_le {a b : ByteArray} {n : Nat} (ha : a.size ≤ n) (hb : b.size ≤ n) : (maxS a b).size ≤ n := by unfold maxS; split <;> assumption
theorem minS_le {a b : ByteArray} {n : Nat} (ha : a.size ≤ n) (hb : b.size ≤ n) : (minS a b).size ≤ n := by unfold minS; split <;> assumption
theorem norm_le {s : Spn} {n : Nat} (h : s.le n) : s.norm.le n := by
  unfold Spn.norm
  split
  · exact ⟨Nat.zero_le _, Nat.zero_le _⟩
  · split
    · exact ⟨h.1, Nat.zero_le _⟩
    · exact h
theorem meet_le {a b : Spn} {n : Nat} (ha : a.le n) (hb : b.le n) : (a.meet b).le n := by
  unfold Spn.meet
  refine norm_le ⟨maxS_le ha.1 hb.1, ?_⟩
  show (if a.op then b.hi else if b.op then a.hi else minS a.hi b.hi).size ≤ n
  split
  · exact hb.2
  · split
    · exact ha.2
    · exact minS_le ha.2 hb.2
theorem le_ok {s : Spn} {n : Nat} (h : s.le n) (hn : n ≤ 9223372036854775807) : SOk s := ⟨Nat.le_trans h.1 hn, Nat.le_trans h.2 hn⟩
/-- a message whose texts are not too long -/
def Msg.le (m : Msg) (n : Nat) : Prop := m.key.size ≤ n ∧ m.hi.size ≤ n ∧ m.val.size ≤ n
theorem msgSpan_le {m : Msg} {n : Nat} (h : m.le n) : m.span.le (n + 1) := by
  unfold Msg.span
  split
  · exact ⟨Nat.le_succ_of_le h.1, Nat.le_succ_of_le h.2.1⟩
  · refine ⟨Nat.le_succ_of_le h.1, ?_⟩
    show (m.key ++ (⟨#[0]⟩ : ByteArray)).size ≤ _
    rw [ByteArray.size_append]
    exact Nat.add_le_add_right h.1 1
theorem clip5_ok (m : Msg) (s : Spn) (n : Nat) (hn : n ≤ 1000000000) (hm : m.le n) (hs : s.le n) : AFn Try.prog 93 [m.a, s.a] (.tup [(clipM m s).1.a, .bool (clipM m s).2]) := by
  refine fn_clip5 rfl ?_
  have c1 := refSpan m (by have := hm.1; omega)
  have l1 := msgSpan_le hm
  have l2 : s.le (n + 1) := ⟨Nat.le_succ_of_le hs.1, Nat.le_succ_of_le hs.2⟩
  have c2 := refMeet m.span s (le_ok l1 (by omega)) (le_ok l2 (by omega))
  have c3 := refEmpty (m.span.meet s) (le_ok (meet_le l1 l2) (by omega))
  unfold clipM
  generalize m.span.meet s = x at *
  generalize m.span = sp at *
  generalize hb : x.empty = b at *
  obtain ⟨lo, hi, op⟩ := x
  obtain ⟨stamp, kind, key, mhi, mop, val⟩ := m
  cases b
  · by_cases h4 : kind = 4
    · have h4' : (kind == 4) = true := by simp [h4]
      subst h4
      simp only [Bool.false_eq_true, if_false, if_true]
      (repeat (first | simp (maxSteps := 4000000) only [go_sem, ↓reduceIte, reduceCtorEq, Nat.reduceEqDiff, Nat.reduceBEq, Nat.reduceAdd, Nat.reduceSub, Nat.reduceMul, Nat.reduceLT, Nat.reduceLeDiff, Nat.reduceBNe, Int.reduceBEq, Int.reduceBNe, Int.reduceLT, Int.reduceLE, Spn.a, Msg.a, Par.a, Nd.a, h4'] | refine calling (c1) ?_ | refine callingH (c1) ?_ | refine calling (c2) ?_ | refine callingH (c2) ?_ | refine calling (c3) ?_ | refine callingH (c3) ?_ | refine And.intro (by omega) ?_ | refine And.intro (fun d hd => by (repeat (rcases hd with rfl | hd; · exact ⟨rfl, rfl⟩)); cases hd) ?_))
    · have h4' : (kind == 4) = false := by simp [h4]
      simp only [Bool.false_eq_true, if_false, if_neg h4]
      (repeat (first | simp (maxSteps := 4000000) only [go_sem, ↓reduceIte, reduceCtorEq, Nat.reduceEqDiff, Nat.reduceBEq, Nat.reduceAdd, Nat.reduceSub, Nat.reduceMul, Nat.reduceLT, Nat.reduceLeDiff, Nat.reduceBNe, Int.reduceBEq, Int.reduceBNe, Int.reduceLT, Int.reduceLE, Spn.a, Msg.a, Par.a, Nd.a, h4'] | refine calling (c1) ?_ | refine callingH (c1) ?_ | refine calling (c2) ?_ | refine callingH (c2) ?_ | refine calling (c3) ?_ | refine callingH (c3) ?_ | refine And.intro (by omega) ?_ | refine And.intro (fun d hd => by (repeat (rcases hd with rfl | hd; · exact ⟨rfl, rfl⟩)); cases hd) ?_))
  · simp only [if_true]
    (repeat (first | simp (maxSteps := 4000000) only [go_sem, ↓reduceIte, reduceCtorEq, Nat.reduceEqDiff, Nat.reduceBEq, Nat.reduceAdd, Nat.reduceSub, Nat.reduceMul, Nat.reduceLT, Nat.reduceLeDiff, Nat.reduceBNe, Int.reduceBEq, Int.reduceBNe, Int.reduceLT, Int.reduceLE, Spn.a, Msg.a, Par.a, Nd.a] | refine calling (c1) ?_ | refine callingH (c1) ?_ | refine calling (c2) ?_ | refine callingH (c2) ?_ | refine calling (c3) ?_ | refine callingH (c3) ?_ | refine And.intro (by omega) ?_ | refine And.intro (fun d hd => by (repeat (rcases hd with rfl | hd; · exact ⟨rfl, rfl⟩)); cases hd) ?_))
    all_goals first | rfl | exact ⟨rfl, rfl, rfl, rfl, rfl, rfl⟩
def clipL (l : List Msg) (s : Spn) : List Msg := l.filterMap fun m => if (clipM m s).2 then some (clipM m s).1 else none
def clipInv (l : List Msg) (s : Spn) (k : Nat) (σ : St) : Prop :=
  ∃ (j : Nat) (out : List Msg), j ≤ l.length ∧ k = l.length - j ∧ out.length ≤ j ∧ σ.T 0 = .sl (l.map Msg.a) ∧ σ.T 3 = .ptr 3 0 0 ∧ σ.H 3 = some ⟨3, 38, [s.a], 0⟩ ∧ σ.T 5 = .rs 5 0 out.length ∧ σ.H 5 = some ⟨6, 130, out.map Msg.a, 0⟩ ∧ σ.T 6 = .int .i64 j ∧
    out ++ clipL (l.drop j) s = clipL l s
theorem clipL_cons (m : Msg) (l : List Msg) (s : Spn) : clipL (m :: l) s = (if (clipM m s).2 then [(clipM m s).1] else []) ++ clipL l s := by
  unfold clipL
  rw [List.filterMap_cons]
  cases (clipM m s).2 <;> rfl
theorem clipL_len : ∀ (l : List Msg) (s : Spn), (clipL l s).length ≤ l.length := fun l s => List.length_filterMap_le _ l
set_option maxHeartbeats 1000000 in
theorem clip18_ok (l : List Msg) (s : Spn) (n : Nat) (hn : n ≤ 1000000000) (hl : l.length ≤ 1000000) (hm : ∀ m, m ∈ l → m.le n) (hs : s.le n) : AFn Try.prog 57 [.sl (l.map Msg.a), s.a] (.own 6 130 ((clipL l s).map Msg.a)) := by
  refine fn_clip18 rfl ?_
  obtain ⟨lo, hi, op⟩ := s
  simp (maxSteps := 4000000) only [go_sem, ↓reduceIte, reduceCtorEq, Nat.reduceEqDiff, Nat.reduceBEq, Nat.reduceAdd, Nat.reduceSub, Nat.reduceMul, Nat.reduceLT, Nat.reduceLeDiff, Nat.reduceBNe, Int.reduceBEq, Int.reduceBNe, Int.reduceLT, Int.reduceLE, Spn.a, Msg.a, Par.a, Nd.a]
  refine run_loop (clipInv l ⟨lo, hi, op⟩) (k := l.length) ⟨0, [], by omega, rfl, by simp, rfl, ?_, ?_, ?_, ?_, rfl, rfl⟩ ?_
  · simp (maxSteps := 4000000) only [go_sem, ↓reduceIte, reduceCtorEq, Nat.reduceEqDiff, Nat.reduceBEq, Nat.reduceAdd, Nat.reduceSub, Nat.reduceMul, Nat.reduceLT, Nat.reduceLeDiff, Nat.reduceBNe, Int.reduceBEq, Int.reduceBNe, Int.reduceLT, Int.reduceLE, Spn.a, Msg.a, Par.a, Nd.a]
  · simp (maxSteps := 4000000) only [go_sem, ↓reduceIte, reduceCtorEq, Nat.reduceEqDiff, Nat.reduceBEq, Nat.reduceAdd, Nat.reduceSub, Nat.reduceMul, Nat.reduceLT, Nat.reduceLeDiff, Nat.reduceBNe, Int.reduceBEq, Int.reduceBNe, Int.reduceLT, Int.reduceLE, Spn.a, Msg.a, Par.a, Nd.a]
  · simp (maxSteps := 4000000) only [go_sem, ↓reduceIte, reduceCtorEq, Nat.reduceEqDiff, Nat.reduceBEq, Nat.reduceAdd, Nat.reduceSub, Nat.reduceMul, Nat.reduceLT, Nat.reduceLeDiff, Nat.reduceBNe, Int.reduceBEq, Int.reduceBNe, Int.reduceLT, Int.reduceLE, Spn.a, Msg.a, Par.a, Nd.a]
  · simp (maxSteps := 4000000) only [go_sem, ↓reduceIte, reduceCtorEq, Nat.reduceEqDiff, Nat.reduceBEq, Nat.reduceAdd, Nat.reduceSub, Nat.reduceMul, Nat.reduceLT, Nat.reduceLeDiff, Nat.reduceBNe, Int.reduceBEq, Int.reduceBNe, Int.reduceLT, Int.reduceLE, Spn.a, Msg.a, Par.a, Nd.a]
  rintro k σ ⟨j, out, hj, rfl, ho, t0, t3, h3, t5, h5, t6, hr⟩
  simp only [r_clip18_l8]
  by_cases hlt : j < l.length
  · have hlt' : (j : Int) < (l.length : Int) := by omega
    obtain ⟨x, hx⟩ := get_lt hlt
    have hgj := at_map (f := Msg.a) hx
    have hw := wrapS (j := j) (by omega)
    have cc := clip5_ok x ⟨lo, hi, op⟩ n hn (hm x (List.mem_of_getElem? hx)) hs
    rw [drop_at hx, clipL_cons] at hr
    have ht : List.take out.length (out.map Msg.a) = out.map Msg.a := List.take_of_length_le (by rw [List.length_map]; exact Nat.le_refl _)
    obtain ⟨y, b, hyb⟩ : ∃ y b, clipM x ⟨lo, hi, op⟩ = (y, b) := ⟨_, _, rfl⟩
    rw [hyb] at cc hr
    simp only at cc hr
    simp only [Msg.a, Spn.a] at hgj h3
    cases b
    · simp only [Bool.false_eq_true, if_false, List.nil_append] at hr
      (repeat (first | simp (maxSteps := 4000000) only [go_sem, ↓reduceIte, reduceCtorEq, Nat.reduceEqDiff, Nat.reduceBEq, Nat.reduceAdd, Nat.reduceSub, Nat.reduceMul, Nat.reduceLT, Nat.reduceLeDiff, Nat.reduceBNe, Int.reduceBEq, Int.reduceBNe, Int.reduceLT, Int.reduceLE, Spn.a, Msg.a, Par.a, Nd.a, t0, t3, h3, t5, h5, t6, hlt', hgj, List.length_map, Int.toNat_natCast, hw] | refine calling (cc) ?_ | refine callingH (cc) ?_ | refine And.intro (by omega) ?_ | refine And.intro (fun d hd => by (repeat (rcases hd with rfl | hd; · exact ⟨rfl, rfl⟩)); cases hd) ?_))
      refine ⟨l.length - (j + 1), by omega, j + 1, out, by omega, rfl, by omega, ?_, ?_, ?_, ?_, ?_, ?_, hr⟩
      · simp (maxSteps := 4000000) only [go_sem, ↓reduceIte, reduceCtorEq, Nat.reduceEqDiff, Nat.reduceBEq, Nat.reduceAdd, Nat.reduceSub, Nat.reduceMul, Nat.reduceLT, Nat.reduceLeDiff, Nat.reduceBNe, Int.reduceBEq, Int.reduceBNe, Int.reduceLT, Int.reduceLE, Spn.a, Msg.a, Par.a, Nd.a, t0]
      · simp (maxSteps := 4000000) only [go_sem, ↓reduceIte, reduceCtorEq, Nat.reduceEqDiff, Nat.reduceBEq, Nat.reduceAdd, Nat.reduceSub, Nat.reduceMul, Nat.reduceLT, Nat.reduceLeDiff, Nat.reduceBNe, Int.reduceBEq, Int.reduceBNe, Int.reduceLT, Int.reduceLE, Spn.a, Msg.a, Par.a, Nd.a, t3]
      · simp (maxSteps := 4000000) only [go_sem, ↓reduceIte, reduceCtorEq, Nat.reduceEqDiff, Nat.reduceBEq, Nat.reduceAdd, Nat.reduceSub, Nat.reduceMul, Nat.reduceLT, Nat.reduceLeDiff, Nat.reduceBNe, Int.reduceBEq, Int.reduceBNe, Int.reduceLT, Int.reduceLE, Spn.a, Msg.a, Par.a, Nd.a, h3]
      · simp (maxSteps := 4000000) only [go_sem, ↓reduceIte, reduceCtorEq, Nat.reduceEqDiff, Nat.reduceBEq, Nat.reduceAdd, Nat.reduceSub, Nat.reduceMul, Nat.reduceLT, Nat.reduceLeDiff, Nat.reduceBNe, Int.reduceBEq, Int.reduceBNe, Int.reduceLT, Int.reduceLE, Spn.a, Msg.a, Par.a, Nd.a, t5]
      · simp (maxSteps := 4000000) only [go_sem, ↓reduceIte, reduceCtorEq, Nat.reduceEqDiff, Nat.reduceBEq, Nat.reduceAdd, Nat.reduceSub, Nat.reduceMul, Nat.reduceLT, Nat.reduceLeDiff, Nat.reduceBNe, Int.reduceBEq, Int.reduceBNe, Int.reduceLT, Int.reduceLE, Spn.a, Msg.a, Par.a, Nd.a, h5]
      · simp (maxSteps := 4000000) only [go_sem, ↓reduceIte, reduceCtorEq, Nat.reduceEqDiff, Nat.reduceBEq, Nat.reduceAdd, Nat.reduceSub, Nat.reduceMul, Nat.reduceLT, Nat.reduceLeDiff, Nat.reduceBNe, Int.reduceBEq, Int.reduceBNe, Int.reduceLT, Int.reduceLE, Spn.a, Msg.a, Par.a, Nd.a, hw]
    · simp only [if_true] at hr
      (repeat (first | simp (maxSteps := 4000000) only [go_sem, ↓reduceIte, reduceCtorEq, Nat.reduceEqDiff, Nat.reduceBEq, Nat.reduceAdd, Nat.reduceSub, Nat.reduceMul, Nat.reduceLT, Nat.reduceLeDiff, Nat.reduceBNe, Int.reduceBEq, Int.reduceBNe, Int.reduceLT, Int.reduceLE, Spn.a, Msg.a, Par.a, Nd.a, t0, t3, h3, t5, h5, t6, hlt', hgj, List.length_map, Int.toNat_natCast, hw, ht] | refine calling (cc) ?_ | refine callingH (cc) ?_ | refine And.intro (by omega) ?_ | refine And.intro (fun d hd => by (repeat (rcases hd with rfl | hd; · exact ⟨rfl, rfl⟩)); cases hd) ?_ | refine And.intro (And.intro (by omega) (fun d hd => by (repeat (rcases hd with rfl | hd; · exact ⟨rfl, rfl⟩)); cases hd)) ?_))
      refine ⟨l.length - (j + 1), by omega, j + 1, out ++ [y], by omega, rfl, by simp; omega, ?_, ?_, ?_, ?_, ?_, ?_, by rw [List.append_assoc]; exact hr⟩
      · simp (maxSteps := 4000000) only [go_sem, ↓reduceIte, reduceCtorEq, Nat.reduceEqDiff, Nat.reduceBEq, Nat.reduceAdd, Nat.reduceSub, Nat.reduceMul, Nat.reduceLT, Nat.reduceLeDiff, Nat.reduceBNe, Int.reduceBEq, Int.reduceBNe, Int.reduceLT, Int.reduceLE, Spn.a, Msg.a, Par.a, Nd.a, t0]
      · simp (maxSteps := 4000000) only [go_sem, ↓reduceIte, reduceCtorEq, Nat.reduceEqDiff, Nat.reduceBEq, Nat.reduceAdd, Nat.reduceSub, Nat.reduceMul, Nat.reduceLT, Nat.reduceLeDiff, Nat.reduceBNe, Int.reduceBEq, Int.reduceBNe, Int.reduceLT, Int.reduceLE, Spn.a, Msg.a, Par.a, Nd.a, t3]
      · simp (maxSteps := 4000000) only [go_sem, ↓reduceIte, reduceCtorEq, Nat.reduceEqDiff, Nat.reduceBEq, Nat.reduceAdd, Nat.reduceSub, Nat.reduceMul, Nat.reduceLT, Nat.reduceLeDiff, Nat.reduceBNe, Int.reduceBEq, Int.reduceBNe, Int.reduceLT, Int.reduceLE, Spn.a, Msg.a, Par.a, Nd.a, h3]
      · simp (maxSteps := 4000000) only [go_sem, ↓reduceIte, reduceCtorEq, Nat.reduceEqDiff, Nat.reduceBEq, Nat.reduceAdd, Nat.reduceSub, Nat.reduceMul, Nat.reduceLT, Nat.reduceLeDiff, Nat.reduceBNe, Int.reduceBEq, Int.reduceBNe, Int.reduceLT, Int.reduceLE, Spn.a, Msg.a, Par.a, Nd.a, List.length_append]
      · simp (maxSteps := 4000000) only [go_sem, ↓reduceIte, reduceCtorEq, Nat.reduceEqDiff, Nat.reduceBEq, Nat.reduceAdd, Nat.reduceSub, Nat.reduceMul, Nat.reduceLT, Nat.reduceLeDiff, Nat.reduceBNe, Int.reduceBEq, Int.reduceBNe, Int.reduceLT, Int.reduceLE, Spn.a, Msg.a, Par.a, Nd.a, List.map_append, ht]
      · simp (maxSteps := 4000000) only [go_sem, ↓reduceIte, reduceCtorEq, Nat.reduceEqDiff, Nat.reduceBEq, Nat.reduceAdd, Nat.reduceSub, Nat.reduceMul, Nat.reduceLT, Nat.reduceLeDiff, Nat.reduceBNe, Int.reduceBEq, Int.reduceBNe, Int.reduceLT, Int.reduceLE, Spn.a, Msg.a, Par.a, Nd.a, hw]
  · have hlt' : ¬ (j : Int) < (l.length : Int) := by omega
    rw [List.drop_eq_nil_of_le (by omega)] at hr
    have hr' : out = clipL l ⟨lo, hi, op⟩ := by rw [← hr]; exact (List.append_nil _).symm
    rw [← hr']
    simp (maxSteps := 4000000) only [go_sem, ↓reduceIte, reduceCtorEq, Nat.reduceEqDiff, Nat.reduceBEq, Nat.reduceAdd, Nat.reduceSub, Nat.reduceMul, Nat.reduceLT, Nat.reduceLeDiff, Nat.reduceBNe, Int.reduceBEq, Int.reduceBNe, Int.reduceLT, Int.reduceLE, Spn.a, Msg.a, Par.a, Nd.a, t0, t3, h3, t5, h5, t6, hlt', List.length_map]
/-- two lists by rising stamps: of equals the first one's is ahead -/
def mergeM : List Msg → List Msg → List Msg
  | [], l => l
  | l, [] => l
  | x :: l, y :: m => if y.stamp < x.stamp then y :: mergeM (x :: l) m else x :: mergeM l (y :: m)
termination_by a b => a.length + b.length
theorem mergeM_nil (l : List Msg) : mergeM [] l = l := by rw [mergeM]
theorem mergeM_nil' (l : List Msg) : mergeM l [] = l := by
  cases l with
  | nil => rw [mergeM]
  | cons x l => rw [mergeM]; simp
theorem mergeM_cons (x y : Msg) (l m : List Msg) : mergeM (x :: l) (y :: m) = if y.stamp < x.stamp then y :: mergeM (x :: l) m else x :: mergeM l (y :: m) := by rw [mergeM]
theorem mergeM_len : ∀ (n : Nat) (a b : List Msg), a.length + b.length ≤ n → (mergeM a b).length = a.length + b.length
  | _, [], b, _ => by rw [mergeM_nil]; simp
  | _, x :: a, [], _ => by rw [mergeM_nil']; simp
  | 0, x :: a, y :: b, h => by simp at h
  | n + 1, x :: a, y :: b, h => by
    rw [mergeM_cons]
    simp only [List.length_cons] at h
    split
    · rw [List.length_cons, mergeM_len n (x :: a) b (by simp only [List.length_cons]; omega)]; simp only [List.length_cons]; omega
    · rw [List.length_cons, mergeM_len n a (y :: b) (by simp only [List.length_cons]; omega)]; simp only [List.length_cons]; omega
theorem mergeM_mem : ∀ (n : Nat) (a b : List Msg), a.length + b.length ≤ n → ∀ m, m ∈ mergeM a b → m ∈ a ∨ m ∈ b
  | _, [], b, _, m, h => by rw [mergeM_nil] at h; exact .inr h
  | _, x :: a, [], _, m, h => by rw [mergeM_nil'] at h; exact .inl h
  | 0, x :: a, y :: b, h, _, _ => by simp at h
  | n + 1, x :: a, y :: b, h, m, hm => by
    rw [mergeM_cons] at hm
    simp only [List.length_cons] at h
    split at hm
    · rcases List.mem_cons.1 hm with rfl | hm
      · exact .inr (List.mem_cons_self ..)
      · rcases mergeM_mem n (x :: a) b (by simp only [List.length_cons]; omega) m hm with q | q
        · exact .inl q
        · exact .inr (List.mem_cons_of_mem _ q)
    · rcases List.mem_cons.1 hm with rfl | hm
      · exact .inl (List.mem_cons_self ..)
      · rcases mergeM_mem n a (y :: b) (by simp only [List.length_cons]; omega) m hm with q | q
        · exact .inl (List.mem_cons_of_mem _ q)
        · exact .inr q
/-- which of two lists is next, when so many have been looked at -/
def bestI (a b : List Msg) : Nat → Int
  | 0 => -1
  | 1 => if a = [] then -1 else 0
  | _ => match a, b with
    | [], [] => -1
    | [], _ :: _ => 1
    | _ :: _, [] => 0
    | x :: _, y :: _ => if y.stamp < x.stamp then 1 else 0
def li2Inv (a b : List Msg) (p q : Nat) (out : List Msg) (k : Nat) (σ : St) : Prop :=
  ∃ i : Nat, i ≤ 2 ∧ k = 2 - i ∧ σ.T 0 = .sl [.sl (a.map Msg.a), .sl (b.map Msg.a)] ∧ σ.T 3 = .rs 9 0 2 ∧ σ.H 9 = some ⟨1, 3, [.int .i64 p, .int .i64 q], 0⟩ ∧ σ.T 4 = .rs 4 0 out.length ∧ σ.H 4 = some ⟨6, 130, out.map Msg.a, 0⟩ ∧
    σ.T 5 = .int .i64 (bestI (a.drop p) (b.drop q) i) ∧ σ.T 6 = .int .i64 i
def liInv (a b R : List Msg) (k : Nat) (σ : St) : Prop :=
  ∃ (p q : Nat) (out : List Msg), p ≤ a.length ∧ q ≤ b.length ∧ k = (a.length - p) + (b.length - q) ∧ out.length = p + q ∧ σ.T 0 = .sl [.sl (a.map Msg.a), .sl (b.map Msg.a)] ∧ σ.T 3 = .rs 9 0 2 ∧ σ.H 9 = some ⟨1, 3, [.int .i64 p, .int .i64 q], 0⟩ ∧ σ.T 4 = .rs 4 0 out.length ∧ σ.H 4 = some ⟨6, 130, out.map Msg.a, 0⟩ ∧
    out ++ mergeM (a.drop p) (b.drop q) = R
set_option maxHeartbeats 2000000 in
theorem best_step (C : FuncId → List AV → AV → Prop) (Q : XK → St → Prop) (a b : List Msg) (ha : a.length ≤ 1000000) (hb : b.length ≤ 1000000) (p q : Nat) (out : List Msg)
    (hQ : ∀ σ, li2Inv a b p q out 0 σ → Q (.exit 2) σ) (k : Nat) (σ : St) (hI : li2Inv a b p q out k σ) : run C r_lists_l9 (thenQ (fun σ' => ∃ m, m < k ∧ li2Inv a b p q out m σ') Q) σ := by
  obtain ⟨i, hi, rfl, t0, t3, h9, t4, h4, t5, t6⟩ := hI
  simp only [r_lists_l9]
  have z0 : Int.toNat 0 = 0 := rfl
  have z1 : Int.toNat 1 = 1 := rfl
  have c2 : ((2 : Nat) : Int) = 2 := rfl
  have w0 : IntKind.i64.wrap (0 + 1) = ((1 : Nat) : Int) := by decide
  have w1 : IntKind.i64.wrap (1 + 1) = ((2 : Nat) : Int) := by decide
  match i, hi with
  | 0, _ =>
    have t6 : σ.T 6 = .int .i64 0 := t6
    have t5 : σ.T 5 = .int .i64 (-1) := t5
    by_cases hp : p < a.length
    · have hp' : (p : Int) < (a.length : Int) := by omega
      obtain ⟨x, hx⟩ := get_lt hp
      have hne : ¬ a.drop p = [] := by rw [drop_at hx]; simp
      simp (maxSteps := 4000000) only [go_sem, ↓reduceIte, reduceCtorEq, Nat.reduceEqDiff, Nat.reduceBEq, Nat.reduceAdd, Nat.reduceSub, Nat.reduceMul, Nat.reduceLT, Nat.reduceLeDiff, Nat.reduceBNe, Int.reduceBEq, Int.reduceBNe, Int.reduceLT, Int.reduceLE, Spn.a, Msg.a, Par.a, Nd.a, t0, t3, h9, t4, h4, t5, t6, hp', z0, c2, w0, List.length_map]
      refine ⟨1, by omega, 1, by omega, rfl, ?_, ?_, ?_, ?_, ?_, ?_, ?_⟩
      · simp (maxSteps := 4000000) only [go_sem, ↓reduceIte, reduceCtorEq, Nat.reduceEqDiff, Nat.reduceBEq, Nat.reduceAdd, Nat.reduceSub, Nat.reduceMul, Nat.reduceLT, Nat.reduceLeDiff, Nat.reduceBNe, Int.reduceBEq, Int.reduceBNe, Int.reduceLT, Int.reduceLE, Spn.a, Msg.a, Par.a, Nd.a, t0]
      · simp (maxSteps := 4000000) only [go_sem, ↓reduceIte, reduceCtorEq, Nat.reduceEqDiff, Nat.reduceBEq, Nat.reduceAdd, Nat.reduceSub, Nat.reduceMul, Nat.reduceLT, Nat.reduceLeDiff, Nat.reduceBNe, Int.reduceBEq, Int.reduceBNe, Int.reduceLT, Int.reduceLE, Spn.a, Msg.a, Par.a, Nd.a, t3]
      · simp (maxSteps := 4000000) only [go_sem, ↓reduceIte, reduceCtorEq, Nat.reduceEqDiff, Nat.reduceBEq, Nat.reduceAdd, Nat.reduceSub, Nat.reduceMul, Nat.reduceLT, Nat.reduceLeDiff, Nat.reduceBNe, Int.reduceBEq, Int.reduceBNe, Int.reduceLT, Int.reduceLE, Spn.a, Msg.a, Par.a, Nd.a, h9]
      · simp (maxSteps := 4000000) only [go_sem, ↓reduceIte, reduceCtorEq, Nat.reduceEqDiff, Nat.reduceBEq, Nat.reduceAdd, Nat.reduceSub, Nat.reduceMul, Nat.reduceLT, Nat.reduceLeDiff, Nat.reduceBNe, Int.reduceBEq, Int.reduceBNe, Int.reduceLT, Int.reduceLE, Spn.a, Msg.a, Par.a, Nd.a, t4]
      · simp (maxSteps := 4000000) only [go_sem, ↓reduceIte, reduceCtorEq, Nat.reduceEqDiff, Nat.reduceBEq, Nat.reduceAdd, Nat.reduceSub, Nat.reduceMul, Nat.reduceLT, Nat.reduceLeDiff, Nat.reduceBNe, Int.reduceBEq, Int.reduceBNe, Int.reduceLT, Int.reduceLE, Spn.a, Msg.a, Par.a, Nd.a, h4]
      · simp (maxSteps := 4000000) only [go_sem, ↓reduceIte, reduceCtorEq, Nat.reduceEqDiff, Nat.reduceBEq, Nat.reduceAdd, Nat.reduceSub, Nat.reduceMul, Nat.reduceLT, Nat.reduceLeDiff, Nat.reduceBNe, Int.reduceBEq, Int.reduceBNe, Int.reduceLT, Int.reduceLE, Spn.a, Msg.a, Par.a, Nd.a, bestI, if_neg hne]
      · simp (maxSteps := 4000000) only [go_sem, ↓reduceIte, reduceCtorEq, Nat.reduceEqDiff, Nat.reduceBEq, Nat.reduceAdd, Nat.reduceSub, Nat.reduceMul, Nat.reduceLT, Nat.reduceLeDiff, Nat.reduceBNe, Int.reduceBEq, Int.reduceBNe, Int.reduceLT, Int.reduceLE, Spn.a, Msg.a, Par.a, Nd.a, w0]
      
    · have hp' : ¬ (p : Int) < (a.length : Int) := by omega
      have hne : a.drop p = [] := List.drop_eq_nil_of_le (by omega)
      simp (maxSteps := 4000000) only [go_sem, ↓reduceIte, reduceCtorEq, Nat.reduceEqDiff, Nat.reduceBEq, Nat.reduceAdd, Nat.reduceSub, Nat.reduceMul, Nat.reduceLT, Nat.reduceLeDiff, Nat.reduceBNe, Int.reduceBEq, Int.reduceBNe, Int.reduceLT, Int.reduceLE, Spn.a, Msg.a, Par.a, Nd.a, t0, t3, h9, t4, h4, t5, t6, hp', z0, c2, w0, List.length_map]
      refine ⟨1, by omega, 1, by omega, rfl, ?_, ?_, ?_, ?_, ?_, ?_, ?_⟩
      · simp (maxSteps := 4000000) only [go_sem, ↓reduceIte, reduceCtorEq, Nat.reduceEqDiff, Nat.reduceBEq, Nat.reduceAdd, Nat.reduceSub, Nat.reduceMul, Nat.reduceLT, Nat.reduceLeDiff, Nat.reduceBNe, Int.reduceBEq, Int.reduceBNe, Int.reduceLT, Int.reduceLE, Spn.a, Msg.a, Par.a, Nd.a, t0]
      · simp (maxSteps := 4000000) only [go_sem, ↓reduceIte, reduceCtorEq, Nat.reduceEqDiff, Nat.reduceBEq, Nat.reduceAdd, Nat.reduceSub, Nat.reduceMul, Nat.reduceLT, Nat.reduceLeDiff, Nat.reduceBNe, Int.reduceBEq, Int.reduceBNe, Int.reduceLT, Int.reduceLE, Spn.a, Msg.a, Par.a, Nd.a, t3]
      · simp (maxSteps := 4000000) only [go_sem, ↓reduceIte, reduceCtorEq, Nat.reduceEqDiff, Nat.reduceBEq, Nat.reduceAdd, Nat.reduceSub, Nat.reduceMul, Nat.reduceLT, Nat.reduceLeDiff, Nat.reduceBNe, Int.reduceBEq, Int.reduceBNe, Int.reduceLT, Int.reduceLE, Spn.a, Msg.a, Par.a, Nd.a, h9]
      · simp (maxSteps := 4000000) only [go_sem, ↓reduceIte, reduceCtorEq, Nat.reduceEqDiff, Nat.reduceBEq, Nat.reduceAdd, Nat.reduceSub, Nat.reduceMul, Nat.reduceLT, Nat.reduceLeDiff, Nat.reduceBNe, Int.reduceBEq, Int.reduceBNe, Int.reduceLT, Int.reduceLE, Spn.a, Msg.a, Par.a, Nd.a, t4]
      · simp (maxSteps := 4000000) only [go_sem, ↓reduceIte, reduceCtorEq, Nat.reduceEqDiff, Nat.reduceBEq, Nat.reduceAdd, Nat.reduceSub, Nat.reduceMul, Nat.reduceLT, Nat.reduceLeDiff, Nat.reduceBNe, Int.reduceBEq, Int.reduceBNe, Int.reduceLT, Int.reduceLE, Spn.a, Msg.a, Par.a, Nd.a, h4]
      · simp (maxSteps := 4000000) only [go_sem, ↓reduceIte, reduceCtorEq, Nat.reduceEqDiff, Nat.reduceBEq, Nat.reduceAdd, Nat.reduceSub, Nat.reduceMul, Nat.reduceLT, Nat.reduceLeDiff, Nat.reduceBNe, Int.reduceBEq, Int.reduceBNe, Int.reduceLT, Int.reduceLE, Spn.a, Msg.a, Par.a, Nd.a, t5, bestI, if_pos hne]
      · simp (maxSteps := 4000000) only [go_sem, ↓reduceIte, reduceCtorEq, Nat.reduceEqDiff, Nat.reduceBEq, Nat.reduceAdd, Nat.reduceSub, Nat.reduceMul, Nat.reduceLT, Nat.reduceLeDiff, Nat.reduceBNe, Int.reduceBEq, Int.reduceBNe, Int.reduceLT, Int.reduceLE, Spn.a, Msg.a, Par.a, Nd.a, w0]
  | 1, _ =>
    have t6 : σ.T 6 = .int .i64 1 := t6
    have t5 : σ.T 5 = .int .i64 (if a.drop p = [] then -1 else 0) := t5
    by_cases hq : q < b.length
    · have hq' : (q : Int) < (b.length : Int) := by omega
      obtain ⟨y, hy⟩ := get_lt hq
      have hgy := at_map (f := Msg.a) hy
      simp only [Msg.a] at hgy
      by_cases hp : p < a.length
      · have hp' : (p : Int) < (a.length : Int) := by omega
        obtain ⟨x, hx⟩ := get_lt hp
        have hgx := at_map (f := Msg.a) hx
        simp only [Msg.a] at hgx
        rw [if_neg (by rw [drop_at hx]; simp)] at t5
        by_cases hs : y.stamp < x.stamp
        · simp (maxSteps := 4000000) only [go_sem, ↓reduceIte, reduceCtorEq, Nat.reduceEqDiff, Nat.reduceBEq, Nat.reduceAdd, Nat.reduceSub, Nat.reduceMul, Nat.reduceLT, Nat.reduceLeDiff, Nat.reduceBNe, Int.reduceBEq, Int.reduceBNe, Int.reduceLT, Int.reduceLE, Spn.a, Msg.a, Par.a, Nd.a, t0, t3, h9, t4, h4, t5, t6, hp', hq', hgx, hgy, hs, z0, z1, c2, w1, List.length_map, Int.toNat_natCast]
          (repeat refine And.intro (by omega) ?_)
          refine ⟨0, by omega, 2, by omega, rfl, ?_, ?_, ?_, ?_, ?_, ?_, ?_⟩
          · simp (maxSteps := 4000000) only [go_sem, ↓reduceIte, reduceCtorEq, Nat.reduceEqDiff, Nat.reduceBEq, Nat.reduceAdd, Nat.reduceSub, Nat.reduceMul, Nat.reduceLT, Nat.reduceLeDiff, Nat.reduceBNe, Int.reduceBEq, Int.reduceBNe, Int.reduceLT, Int.reduceLE, Spn.a, Msg.a, Par.a, Nd.a, t0]
          · simp (maxSteps := 4000000) only [go_sem, ↓reduceIte, reduceCtorEq, Nat.reduceEqDiff, Nat.reduceBEq, Nat.reduceAdd, Nat.reduceSub, Nat.reduceMul, Nat.reduceLT, Nat.reduceLeDiff, Nat.reduceBNe, Int.reduceBEq, Int.reduceBNe, Int.reduceLT, Int.reduceLE, Spn.a, Msg.a, Par.a, Nd.a, t3]
          · simp (maxSteps := 4000000) only [go_sem, ↓reduceIte, reduceCtorEq, Nat.reduceEqDiff, Nat.reduceBEq, Nat.reduceAdd, Nat.reduceSub, Nat.reduceMul, Nat.reduceLT, Nat.reduceLeDiff, Nat.reduceBNe, Int.reduceBEq, Int.reduceBNe, Int.reduceLT, Int.reduceLE, Spn.a, Msg.a, Par.a, Nd.a, h9]
          · simp (maxSteps := 4000000) only [go_sem, ↓reduceIte, reduceCtorEq, Nat.reduceEqDiff, Nat.reduceBEq, Nat.reduceAdd, Nat.reduceSub, Nat.reduceMul, Nat.reduceLT, Nat.reduceLeDiff, Nat.reduceBNe, Int.reduceBEq, Int.reduceBNe, Int.reduceLT, Int.reduceLE, Spn.a, Msg.a, Par.a, Nd.a, t4]
          · simp (maxSteps := 4000000) only [go_sem, ↓reduceIte, reduceCtorEq, Nat.reduceEqDiff, Nat.reduceBEq, Nat.reduceAdd, Nat.reduceSub, Nat.reduceMul, Nat.reduceLT, Nat.reduceLeDiff, Nat.reduceBNe, Int.reduceBEq, Int.reduceBNe, Int.reduceLT, Int.reduceLE, Spn.a, Msg.a, Par.a, Nd.a, h4]
          · simp (maxSteps := 4000000) only [go_sem, ↓reduceIte, reduceCtorEq, Nat.reduceEqDiff, Nat.reduceBEq, Nat.reduceAdd, Nat.reduceSub, Nat.reduceMul, Nat.reduceLT, Nat.reduceLeDiff, Nat.reduceBNe, Int.reduceBEq, Int.reduceBNe, Int.reduceLT, Int.reduceLE, Spn.a, Msg.a, Par.a, Nd.a, bestI, drop_at hx, drop_at hy, hs]
          · simp (maxSteps := 4000000) only [go_sem, ↓reduceIte, reduceCtorEq, Nat.reduceEqDiff, Nat.reduceBEq, Nat.reduceAdd, Nat.reduceSub, Nat.reduceMul, Nat.reduceLT, Nat.reduceLeDiff, Nat.reduceBNe, Int.reduceBEq, Int.reduceBNe, Int.reduceLT, Int.reduceLE, Spn.a, Msg.a, Par.a, Nd.a, w1, c2]
        · simp (maxSteps := 4000000) only [go_sem, ↓reduceIte, reduceCtorEq, Nat.reduceEqDiff, Nat.reduceBEq, Nat.reduceAdd, Nat.reduceSub, Nat.reduceMul, Nat.reduceLT, Nat.reduceLeDiff, Nat.reduceBNe, Int.reduceBEq, Int.reduceBNe, Int.reduceLT, Int.reduceLE, Spn.a, Msg.a, Par.a, Nd.a, t0, t3, h9, t4, h4, t5, t6, hp', hq', hgx, hgy, hs, z0, z1, c2, w1, List.length_map, Int.toNat_natCast]
          (repeat refine And.intro (by omega) ?_)
          refine ⟨0, by omega, 2, by omega, rfl, ?_, ?_, ?_, ?_, ?_, ?_, ?_⟩
          · simp (maxSteps := 4000000) only [go_sem, ↓reduceIte, reduceCtorEq, Nat.reduceEqDiff, Nat.reduceBEq, Nat.reduceAdd, Nat.reduceSub, Nat.reduceMul, Nat.reduceLT, Nat.reduceLeDiff, Nat.reduceBNe, Int.reduceBEq, Int.reduceBNe, Int.reduceLT, Int.reduceLE, Spn.a, Msg.a, Par.a, Nd.a, t0]
          · simp (maxSteps := 4000000) only [go_sem, ↓reduceIte, reduceCtorEq, Nat.reduceEqDiff, Nat.reduceBEq, Nat.reduceAdd, Nat.reduceSub, Nat.reduceMul, Nat.reduceLT, Nat.reduceLeDiff, Nat.reduceBNe, Int.reduceBEq, Int.reduceBNe, Int.reduceLT, Int.reduceLE, Spn.a, Msg.a, Par.a, Nd.a, t3]
          · simp (maxSteps := 4000000) only [go_sem, ↓reduceIte, reduceCtorEq, Nat.reduceEqDiff, Nat.reduceBEq, Nat.reduceAdd, Nat.reduceSub, Nat.reduceMul, Nat.reduceLT, Nat.reduceLeDiff, Nat.reduceBNe, Int.reduceBEq, Int.reduceBNe, Int.reduceLT, Int.reduceLE, Spn.a, Msg.a, Par.a, Nd.a, h9]
          · simp (maxSteps := 4000000) only [go_sem, ↓reduceIte, reduceCtorEq, Nat.reduceEqDiff, Nat.reduceBEq, Nat.reduceAdd, Nat.reduceSub, Nat.reduceMul, Nat.reduceLT, Nat.reduceLeDiff, Nat.reduceBNe, Int.reduceBEq, Int.reduceBNe, Int.reduceLT, Int.reduceLE, Spn.a, Msg.a, Par.a, Nd.a, t4]
          · simp (maxSteps := 4000000) only [go_sem, ↓reduceIte, reduceCtorEq, Nat.reduceEqDiff, Nat.reduceBEq, Nat.reduceAdd, Nat.reduceSub, Nat.reduceMul, Nat.reduceLT, Nat.reduceLeDiff, Nat.reduceBNe, Int.reduceBEq, Int.reduceBNe, Int.reduceLT, Int.reduceLE, Spn.a, Msg.a, Par.a, Nd.a, h4]
          · simp (maxSteps := 4000000) only [go_sem, ↓reduceIte, reduceCtorEq, Nat.reduceEqDiff, Nat.reduceBEq, Nat.reduceAdd, Nat.reduceSub, Nat.reduceMul, Nat.reduceLT, Nat.reduceLeDiff, Nat.reduceBNe, Int.reduceBEq, Int.reduceBNe, Int.reduceLT, Int.reduceLE, Spn.a, Msg.a, Par.a, Nd.a, t5, bestI, drop_at hx, drop_at hy, hs]
          · simp (maxSteps := 4000000) only [go_sem, ↓reduceIte, reduceCtorEq, Nat.reduceEqDiff, Nat.reduceBEq, Nat.reduceAdd, Nat.reduceSub, Nat.reduceMul, Nat.reduceLT, Nat.reduceLeDiff, Nat.reduceBNe, Int.reduceBEq, Int.reduceBNe, Int.reduceLT, Int.reduceLE, Spn.a, Msg.a, Par.a, Nd.a, w1, c2]
      · have hne : a.drop p = [] := List.drop_eq_nil_of_le (by omega)
        rw [if_pos hne] at t5
        simp (maxSteps := 4000000) only [go_sem, ↓reduceIte, reduceCtorEq, Nat.reduceEqDiff, Nat.reduceBEq, Nat.reduceAdd, Nat.reduceSub, Nat.reduceMul, Nat.reduceLT, Nat.reduceLeDiff, Nat.reduceBNe, Int.reduceBEq, Int.reduceBNe, Int.reduceLT, Int.reduceLE, Spn.a, Msg.a, Par.a, Nd.a, t0, t3, h9, t4, h4, t5, t6, hq', hgy, z0, z1, c2, w1, List.length_map, Int.toNat_natCast]
        (repeat refine And.intro (by omega) ?_)
        refine ⟨0, by omega, 2, by omega, rfl, ?_, ?_, ?_, ?_, ?_, ?_, ?_⟩
        · simp (maxSteps := 4000000) only [go_sem, ↓reduceIte, reduceCtorEq, Nat.reduceEqDiff, Nat.reduceBEq, Nat.reduceAdd, Nat.reduceSub, Nat.reduceMul, Nat.reduceLT, Nat.reduceLeDiff, Nat.reduceBNe, Int.reduceBEq, Int.reduceBNe, Int.reduceLT, Int.reduceLE, Spn.a, Msg.a, Par.a, Nd.a, t0]
        · simp (maxSteps := 4000000) only [go_sem, ↓reduceIte, reduceCtorEq, Nat.reduceEqDiff, Nat.reduceBEq, Nat.reduceAdd, Nat.reduceSub, Nat.reduceMul, Nat.reduceLT, Nat.reduceLeDiff, Nat.reduceBNe, Int.reduceBEq, Int.reduceBNe, Int.reduceLT, Int.reduceLE, Spn.a, Msg.a, Par.a, Nd.a, t3]
        · simp (maxSteps := 4000000) only [go_sem, ↓reduceIte, reduceCtorEq, Nat.reduceEqDiff, Nat.reduceBEq, Nat.reduceAdd, Nat.reduceSub, Nat.reduceMul, Nat.reduceLT, Nat.reduceLeDiff, Nat.reduceBNe, Int.reduceBEq, Int.reduceBNe, Int.reduceLT, Int.reduceLE, Spn.a, Msg.a, Par.a, Nd.a, h9]
        · simp (maxSteps := 4000000) only [go_sem, ↓reduceIte, reduceCtorEq, Nat.reduceEqDiff, Nat.reduceBEq, Nat.reduceAdd, Nat.reduceSub, Nat.reduceMul, Nat.reduceLT, Nat.reduceLeDiff, Nat.reduceBNe, Int.reduceBEq, Int.reduceBNe, Int.reduceLT, Int.reduceLE, Spn.a, Msg.a, Par.a, Nd.a, t4]
        · simp (maxSteps := 4000000) only [go_sem, ↓reduceIte, reduceCtorEq, Nat.reduceEqDiff, Nat.reduceBEq, Nat.reduceAdd, Nat.reduceSub, Nat.reduceMul, Nat.reduceLT, Nat.reduceLeDiff, Nat.reduceBNe, Int.reduceBEq, Int.reduceBNe, Int.reduceLT, Int.reduceLE, Spn.a, Msg.a, Par.a, Nd.a, h4]
        · simp (maxSteps := 4000000) only [go_sem, ↓reduceIte, reduceCtorEq, Nat.reduceEqDiff, Nat.reduceBEq, Nat.reduceAdd, Nat.reduceSub, Nat.reduceMul, Nat.reduceLT, Nat.reduceLeDiff, Nat.reduceBNe, Int.reduceBEq, Int.reduceBNe, Int.reduceLT, Int.reduceLE, Spn.a, Msg.a, Par.a, Nd.a, bestI, hne, drop_at hy]
        · simp (maxSteps := 4000000) only [go_sem, ↓reduceIte, reduceCtorEq, Nat.reduceEqDiff, Nat.reduceBEq, Nat.reduceAdd, Nat.reduceSub, Nat.reduceMul, Nat.reduceLT, Nat.reduceLeDiff, Nat.reduceBNe, Int.reduceBEq, Int.reduceBNe, Int.reduceLT, Int.reduceLE, Spn.a, Msg.a, Par.a, Nd.a, w1, c2]
    · have hq' : ¬ (q : Int) < (b.length : Int) := by omega
      have hne : b.drop q = [] := List.drop_eq_nil_of_le (by omega)
      have hb2 : bestI (a.drop p) (b.drop q) 2 = (if a.drop p = [] then -1 else 0) := by
        rw [hne]; unfold bestI
        cases a.drop p <;> simp
      simp (maxSteps := 4000000) only [go_sem, ↓reduceIte, reduceCtorEq, Nat.reduceEqDiff, Nat.reduceBEq, Nat.reduceAdd, Nat.reduceSub, Nat.reduceMul, Nat.reduceLT, Nat.reduceLeDiff, Nat.reduceBNe, Int.reduceBEq, Int.reduceBNe, Int.reduceLT, Int.reduceLE, Spn.a, Msg.a, Par.a, Nd.a, t0, t3, h9, t4, h4, t6, hq', z0, z1, c2, w1, List.length_map, Int.toNat_natCast]
      (repeat refine And.intro (by omega) ?_)
      refine ⟨0, by omega, 2, by omega, rfl, ?_, ?_, ?_, ?_, ?_, ?_, ?_⟩
      · simp (maxSteps := 4000000) only [go_sem, ↓reduceIte, reduceCtorEq, Nat.reduceEqDiff, Nat.reduceBEq, Nat.reduceAdd, Nat.reduceSub, Nat.reduceMul, Nat.reduceLT, Nat.reduceLeDiff, Nat.reduceBNe, Int.reduceBEq, Int.reduceBNe, Int.reduceLT, Int.reduceLE, Spn.a, Msg.a, Par.a, Nd.a, t0]
      · simp (maxSteps := 4000000) only [go_sem, ↓reduceIte, reduceCtorEq, Nat.reduceEqDiff, Nat.reduceBEq, Nat.reduceAdd, Nat.reduceSub, Nat.reduceMul, Nat.reduceLT, Nat.reduceLeDiff, Nat.reduceBNe, Int.reduceBEq, Int.reduceBNe, Int.reduceLT, Int.reduceLE, Spn.a, Msg.a, Par.a, Nd.a, t3]
      · simp (maxSteps := 4000000) only [go_sem, ↓reduceIte, reduceCtorEq, Nat.reduceEqDiff, Nat.reduceBEq, Nat.reduceAdd, Nat.reduceSub, Nat.reduceMul, Nat.reduceLT, Nat.reduceLeDiff, Nat.reduceBNe, Int.reduceBEq, Int.reduceBNe, Int.reduceLT, Int.reduceLE, Spn.a, Msg.a, Par.a, Nd.a, h9]
      · simp (maxSteps := 4000000) only [go_sem, ↓reduceIte, reduceCtorEq, Nat.reduceEqDiff, Nat.reduceBEq, Nat.reduceAdd, Nat.reduceSub, Nat.reduceMul, Nat.reduceLT, Nat.reduceLeDiff, Nat.reduceBNe, Int.reduceBEq, Int.reduceBNe, Int.reduceLT, Int.reduceLE, Spn.a, Msg.a, Par.a, Nd.a, t4]
      · simp (maxSteps := 4000000) only [go_sem, ↓reduceIte, reduceCtorEq, Nat.reduceEqDiff, Nat.reduceBEq, Nat.reduceAdd, Nat.reduceSub, Nat.reduceMul, Nat.reduceLT, Nat.reduceLeDiff, Nat.reduceBNe, Int.reduceBEq, Int.reduceBNe, Int.reduceLT, Int.reduceLE, Spn.a, Msg.a, Par.a, Nd.a, h4]
      · simp (maxSteps := 4000000) only [go_sem, ↓reduceIte, reduceCtorEq, Nat.reduceEqDiff, Nat.reduceBEq, Nat.reduceAdd, Nat.reduceSub, Nat.reduceMul, Nat.reduceLT, Nat.reduceLeDiff, Nat.reduceBNe, Int.reduceBEq, Int.reduceBNe, Int.reduceLT, Int.reduceLE, Spn.a, Msg.a, Par.a, Nd.a, t5, hb2]
      · simp (maxSteps := 4000000) only [go_sem, ↓reduceIte, reduceCtorEq, Nat.reduceEqDiff, Nat.reduceBEq, Nat.reduceAdd, Nat.reduceSub, Nat.reduceMul, Nat.reduceLT, Nat.reduceLeDiff, Nat.reduceBNe, Int.reduceBEq, Int.reduceBNe, Int.reduceLT, Int.reduceLE, Spn.a, Msg.a, Par.a, Nd.a, w1, c2]
  | 2, _ =>
    have t6' : σ.T 6 = .int .i64 2 := t6
    simp (maxSteps := 4000000) only [go_sem, ↓reduceIte, reduceCtorEq, Nat.reduceEqDiff, Nat.reduceBEq, Nat.reduceAdd, Nat.reduceSub, Nat.reduceMul, Nat.reduceLT, Nat.reduceLeDiff, Nat.reduceBNe, Int.reduceBEq, Int.reduceBNe, Int.reduceLT, Int.reduceLE, Spn.a, Msg.a, Par.a, Nd.a, t0, t3, h9, t4, h4, t6', c2, List.length_map]
    refine hQ _ ⟨2, by omega, rfl, ?_, ?_, ?_, ?_, ?_, ?_, ?_⟩
    · simp (maxSteps := 4000000) only [go_sem, ↓reduceIte, reduceCtorEq, Nat.reduceEqDiff, Nat.reduceBEq, Nat.reduceAdd, Nat.reduceSub, Nat.reduceMul, Nat.reduceLT, Nat.reduceLeDiff, Nat.reduceBNe, Int.reduceBEq, Int.reduceBNe, Int.reduceLT, Int.reduceLE, Spn.a, Msg.a, Par.a, Nd.a, t0]
    · simp (maxSteps := 4000000) only [go_sem, ↓reduceIte, reduceCtorEq, Nat.reduceEqDiff, Nat.reduceBEq, Nat.reduceAdd, Nat.reduceSub, Nat.reduceMul, Nat.reduceLT, Nat.reduceLeDiff, Nat.reduceBNe, Int.reduceBEq, Int.reduceBNe, Int.reduceLT, Int.reduceLE, Spn.a, Msg.a, Par.a, Nd.a, t3]
    · simp (maxSteps := 4000000) only [go_sem, ↓reduceIte, reduceCtorEq, Nat.reduceEqDiff, Nat.reduceBEq, Nat.reduceAdd, Nat.reduceSub, Nat.reduceMul, Nat.reduceLT, Nat.reduceLeDiff, Nat.reduceBNe, Int.reduceBEq, Int.reduceBNe, Int.reduceLT, Int.reduceLE, Spn.a, Msg.a, Par.a, Nd.a, h9]
    · simp (maxSteps := 4000000) only [go_sem, ↓reduceIte, reduceCtorEq, Nat.reduceEqDiff, Nat.reduceBEq, Nat.reduceAdd, Nat.reduceSub, Nat.reduceMul, Nat.reduceLT, Nat.reduceLeDiff, Nat.reduceBNe, Int.reduceBEq, Int.reduceBNe, Int.reduceLT, Int.reduceLE, Spn.a, Msg.a, Par.a, Nd.a, t4]
    · simp (maxSteps := 4000000) only [go_sem, ↓reduceIte, reduceCtorEq, Nat.reduceEqDiff, Nat.reduceBEq, Nat.reduceAdd, Nat.reduceSub, Nat.reduceMul, Nat.reduceLT, Nat.reduceLeDiff, Nat.reduceBNe, Int.reduceBEq, Int.reduceBNe, Int.reduceLT, Int.reduceLE, Spn.a, Msg.a, Par.a, Nd.a, h4]
    · simp (maxSteps := 4000000) only [go_sem, ↓reduceIte, reduceCtorEq, Nat.reduceEqDiff, Nat.reduceBEq, Nat.reduceAdd, Nat.reduceSub, Nat.reduceMul, Nat.reduceLT, Nat.reduceLeDiff, Nat.reduceBNe, Int.reduceBEq, Int.reduceBNe, Int.reduceLT, Int.reduceLE, Spn.a, Msg.a, Par.a, Nd.a, t5]
    · simp (maxSteps := 4000000) only [go_sem, ↓reduceIte, reduceCtorEq, Nat.reduceEqDiff, Nat.reduceBEq, Nat.reduceAdd, Nat.reduceSub, Nat.reduceMul, Nat.reduceLT, Nat.reduceLeDiff, Nat.reduceBNe, Int.reduceBEq, Int.reduceBNe, Int.reduceLT, Int.reduceLE, Spn.a, Msg.a, Par.a, Nd.a, t6]
theorem best_cases (a b : List Msg) (p q : Nat) :
    (∃ x, a[p]? = some x ∧ bestI (a.drop p) (b.drop q) 2 = 0 ∧ mergeM (a.drop p) (b.drop q) = x :: mergeM (a.drop (p + 1)) (b.drop q)) ∨
    (∃ y, b[q]? = some y ∧ bestI (a.drop p) (b.drop q) 2 = 1 ∧ mergeM (a.drop p) (b.drop q) = y :: mergeM (a.drop p) (b.drop (q + 1))) ∨
    (bestI (a.drop p) (b.drop q) 2 = -1 ∧ mergeM (a.drop p) (b.drop q) = []) := by
  rcases Nat.lt_or_ge p a.length with hp | hp
  · obtain ⟨x, hx⟩ := get_lt hp
    rcases Nat.lt_or_ge q b.length with hq | hq
    · obtain ⟨y, hy⟩ := get_lt hq
      rw [drop_at hx, drop_at hy, mergeM_cons]
      by_cases h : y.stamp < x.stamp
      · rw [if_pos h]
        exact .inr (.inl ⟨y, hy, by unfold bestI; simp only; rw [if_pos h], by first | rfl | rw [drop_at hx]⟩)
      · rw [if_neg h]
        exact .inl ⟨x, hx, by unfold bestI; simp only; rw [if_neg h], by first | rfl | rw [drop_at hy]⟩
    · rw [List.drop_eq_nil_of_le hq, drop_at hx, mergeM_nil', mergeM_nil']
      exact .inl ⟨x, hx, rfl, rfl⟩
  · rw [List.drop_eq_nil_of_le hp]
    rcases Nat.lt_or_ge q b.length with hq | hq
    · obtain ⟨y, hy⟩ := get_lt hq
      rw [drop_at hy, mergeM_nil, mergeM_nil]
      exact .inr (.inl ⟨y, hy, rfl, rfl⟩)
    · rw [List.drop_eq_nil_of_le hq, mergeM_nil]
      exact .inr (.inr ⟨rfl, rfl⟩)
theorem wrapN (n : Nat) (h : n ≤ 1000000000000000) : IntKind.i64.wrap ((n : Int) + 1) = ((n + 1 : Nat) : Int) := wrapS h
set_option maxHeartbeats 4000000 in
theorem lists_ok (a b : List Msg) (ha : a.length ≤ 1000000) (hb : b.length ≤ 1000000) : AFn Try.prog 56 [.sl [.sl (a.map Msg.a), .sl (b.map Msg.a)]] (.own 6 130 ((mergeM a b).map Msg.a)) := by
  refine fn_lists rfl ?_
  obtain ⟨R, hR⟩ : ∃ R, mergeM a b = R := ⟨_, rfl⟩
  rw [hR]
  have z0 : Int.toNat 0 = 0 := rfl
  have z1 : Int.toNat 1 = 1 := rfl
  have z2 : Int.toNat 2 = 2 := rfl
  have c2 : ((2 : Nat) : Int) = 2 := rfl
  simp (maxSteps := 4000000) only [go_sem, ↓reduceIte, reduceCtorEq, Nat.reduceEqDiff, Nat.reduceBEq, Nat.reduceAdd, Nat.reduceSub, Nat.reduceMul, Nat.reduceLT, Nat.reduceLeDiff, Nat.reduceBNe, Int.reduceBEq, Int.reduceBNe, Int.reduceLT, Int.reduceLE, Spn.a, Msg.a, Par.a, Nd.a, c2, z2, List.replicate_succ, List.replicate_zero]
  (repeat refine And.intro (by omega) ?_)
  refine run_loop (liInv a b R) (k := a.length + b.length) ⟨0, 0, [], by omega, by omega, by omega, rfl, ?_, ?_, ?_, ?_, ?_, hR⟩ ?_
  · simp (maxSteps := 4000000) only [go_sem, ↓reduceIte, reduceCtorEq, Nat.reduceEqDiff, Nat.reduceBEq, Nat.reduceAdd, Nat.reduceSub, Nat.reduceMul, Nat.reduceLT, Nat.reduceLeDiff, Nat.reduceBNe, Int.reduceBEq, Int.reduceBNe, Int.reduceLT, Int.reduceLE, Spn.a, Msg.a, Par.a, Nd.a]
  · simp (maxSteps := 4000000) only [go_sem, ↓reduceIte, reduceCtorEq, Nat.reduceEqDiff, Nat.reduceBEq, Nat.reduceAdd, Nat.reduceSub, Nat.reduceMul, Nat.reduceLT, Nat.reduceLeDiff, Nat.reduceBNe, Int.reduceBEq, Int.reduceBNe, Int.reduceLT, Int.reduceLE, Spn.a, Msg.a, Par.a, Nd.a]
  · (simp (maxSteps := 4000000) only [go_sem, ↓reduceIte, reduceCtorEq, Nat.reduceEqDiff, Nat.reduceBEq, Nat.reduceAdd, Nat.reduceSub, Nat.reduceMul, Nat.reduceLT, Nat.reduceLeDiff, Nat.reduceBNe, Int.reduceBEq, Int.reduceBNe, Int.reduceLT, Int.reduceLE, Spn.a, Msg.a, Par.a, Nd.a]) <;> rfl
  · (simp (maxSteps := 4000000) only [go_sem, ↓reduceIte, reduceCtorEq, Nat.reduceEqDiff, Nat.reduceBEq, Nat.reduceAdd, Nat.reduceSub, Nat.reduceMul, Nat.reduceLT, Nat.reduceLeDiff, Nat.reduceBNe, Int.reduceBEq, Int.reduceBNe, Int.reduceLT, Int.reduceLE, Spn.a, Msg.a, Par.a, Nd.a]) <;> rfl
  · (simp (maxSteps := 4000000) only [go_sem, ↓reduceIte, reduceCtorEq, Nat.reduceEqDiff, Nat.reduceBEq, Nat.reduceAdd, Nat.reduceSub, Nat.reduceMul, Nat.reduceLT, Nat.reduceLeDiff, Nat.reduceBNe, Int.reduceBEq, Int.reduceBNe, Int.reduceLT, Int.reduceLE, Spn.a, Msg.a, Par.a, Nd.a]) <;> rfl
  clear hR
  rintro k σ ⟨p, q, out, hp, hq, rfl, ho, t0, t3, h9, t4, h4, hr⟩
  simp only [r_lists_l14]
  simp (maxSteps := 4000000) only [go_sem, ↓reduceIte, reduceCtorEq, Nat.reduceEqDiff, Nat.reduceBEq, Nat.reduceAdd, Nat.reduceSub, Nat.reduceMul, Nat.reduceLT, Nat.reduceLeDiff, Nat.reduceBNe, Int.reduceBEq, Int.reduceBNe, Int.reduceLT, Int.reduceLE, Spn.a, Msg.a, Par.a, Nd.a]
  refine run_loop (li2Inv a b p q out) (k := 2) ⟨0, by omega, rfl, ?_, ?_, ?_, ?_, ?_, ?_, ?_⟩ (best_step _ _ a b ha hb p q out ?_)
  · simp (maxSteps := 4000000) only [go_sem, ↓reduceIte, reduceCtorEq, Nat.reduceEqDiff, Nat.reduceBEq, Nat.reduceAdd, Nat.reduceSub, Nat.reduceMul, Nat.reduceLT, Nat.reduceLeDiff, Nat.reduceBNe, Int.reduceBEq, Int.reduceBNe, Int.reduceLT, Int.reduceLE, Spn.a, Msg.a, Par.a, Nd.a, t0]
  · simp (maxSteps := 4000000) only [go_sem, ↓reduceIte, reduceCtorEq, Nat.reduceEqDiff, Nat.reduceBEq, Nat.reduceAdd, Nat.reduceSub, Nat.reduceMul, Nat.reduceLT, Nat.reduceLeDiff, Nat.reduceBNe, Int.reduceBEq, Int.reduceBNe, Int.reduceLT, Int.reduceLE, Spn.a, Msg.a, Par.a, Nd.a, t3]
  · simp (maxSteps := 4000000) only [go_sem, ↓reduceIte, reduceCtorEq, Nat.reduceEqDiff, Nat.reduceBEq, Nat.reduceAdd, Nat.reduceSub, Nat.reduceMul, Nat.reduceLT, Nat.reduceLeDiff, Nat.reduceBNe, Int.reduceBEq, Int.reduceBNe, Int.reduceLT, Int.reduceLE, Spn.a, Msg.a, Par.a, Nd.a, h9]
  · simp (maxSteps := 4000000) only [go_sem, ↓reduceIte, reduceCtorEq, Nat.reduceEqDiff, Nat.reduceBEq, Nat.reduceAdd, Nat.reduceSub, Nat.reduceMul, Nat.reduceLT, Nat.reduceLeDiff, Nat.reduceBNe, Int.reduceBEq, Int.reduceBNe, Int.reduceLT, Int.reduceLE, Spn.a, Msg.a, Par.a, Nd.a, t4]
  · simp (maxSteps := 4000000) only [go_sem, ↓reduceIte, reduceCtorEq, Nat.reduceEqDiff, Nat.reduceBEq, Nat.reduceAdd, Nat.reduceSub, Nat.reduceMul, Nat.reduceLT, Nat.reduceLeDiff, Nat.reduceBNe, Int.reduceBEq, Int.reduceBNe, Int.reduceLT, Int.reduceLE, Spn.a, Msg.a, Par.a, Nd.a, h4]
  · (simp (maxSteps := 4000000) only [go_sem, ↓reduceIte, reduceCtorEq, Nat.reduceEqDiff, Nat.reduceBEq, Nat.reduceAdd, Nat.reduceSub, Nat.reduceMul, Nat.reduceLT, Nat.reduceLeDiff, Nat.reduceBNe, Int.reduceBEq, Int.reduceBNe, Int.reduceLT, Int.reduceLE, Spn.a, Msg.a, Par.a, Nd.a]) <;> rfl
  · (simp (maxSteps := 4000000) only [go_sem, ↓reduceIte, reduceCtorEq, Nat.reduceEqDiff, Nat.reduceBEq, Nat.reduceAdd, Nat.reduceSub, Nat.reduceMul, Nat.reduceLT, Nat.reduceLeDiff, Nat.reduceBNe, Int.reduceBEq, Int.reduceBNe, Int.reduceLT, Int.reduceLE, Spn.a, Msg.a, Par.a, Nd.a]) <;> rfl
  rintro σ ⟨i, hi, hi2, t0, t3, h9, t4, h4, t5, t6⟩
  obtain rfl : i = 2 := by omega
  have ht : List.take out.length (out.map Msg.a) = out.map Msg.a := List.take_of_length_le (by rw [List.length_map]; exact Nat.le_refl _)
  have hw := wrapN p (by omega)
  have hw' := wrapN q (by omega)
  have hR0 : AFn Try.prog 90 [.sl []] (.bool true) := rising_ok [] (by decide) (fun x hx => by cases hx)
  rcases best_cases a b p q with ⟨x, hx, hb0, hm⟩ | ⟨y, hy, hb0, hm⟩ | ⟨hb0, hm⟩
  · rw [hb0] at t5
    rw [hm] at hr
    have hp1 := (List.getElem?_eq_some_iff.1 hx).1
    have hgx := at_map (f := Msg.a) hx
    simp only [Msg.a] at hgx
    have hp' : (p : Int) < (a.length : Int) := by omega
    (repeat (first | simp (maxSteps := 4000000) only [go_sem, ↓reduceIte, reduceCtorEq, Nat.reduceEqDiff, Nat.reduceBEq, Nat.reduceAdd, Nat.reduceSub, Nat.reduceMul, Nat.reduceLT, Nat.reduceLeDiff, Nat.reduceBNe, Int.reduceBEq, Int.reduceBNe, Int.reduceLT, Int.reduceLE, Spn.a, Msg.a, Par.a, Nd.a, t0, t3, h9, t4, h4, t5, z0, z1, hp', hgx, List.length_map, Int.toNat_natCast, hw, ht] | refine calling (hR0) ?_ | refine callingH (hR0) ?_ | refine And.intro (by omega) ?_ | refine And.intro (fun d hd => by (repeat (rcases hd with rfl | hd; · exact ⟨rfl, rfl⟩)); cases hd) ?_ | refine And.intro (And.intro (by omega) (fun d hd => by (repeat (rcases hd with rfl | hd; · exact ⟨rfl, rfl⟩)); cases hd)) ?_))
    refine ⟨(a.length - (p + 1)) + (b.length - q), by omega, p + 1, q, out ++ [x], by omega, by omega, rfl, by simp; omega, ?_, ?_, ?_, ?_, ?_, by rw [List.append_assoc]; exact hr⟩
    · simp (maxSteps := 4000000) only [go_sem, ↓reduceIte, reduceCtorEq, Nat.reduceEqDiff, Nat.reduceBEq, Nat.reduceAdd, Nat.reduceSub, Nat.reduceMul, Nat.reduceLT, Nat.reduceLeDiff, Nat.reduceBNe, Int.reduceBEq, Int.reduceBNe, Int.reduceLT, Int.reduceLE, Spn.a, Msg.a, Par.a, Nd.a, t0]
    · simp (maxSteps := 4000000) only [go_sem, ↓reduceIte, reduceCtorEq, Nat.reduceEqDiff, Nat.reduceBEq, Nat.reduceAdd, Nat.reduceSub, Nat.reduceMul, Nat.reduceLT, Nat.reduceLeDiff, Nat.reduceBNe, Int.reduceBEq, Int.reduceBNe, Int.reduceLT, Int.reduceLE, Spn.a, Msg.a, Par.a, Nd.a, t3]
    · simp (maxSteps := 4000000) only [go_sem, ↓reduceIte, reduceCtorEq, Nat.reduceEqDiff, Nat.reduceBEq, Nat.reduceAdd, Nat.reduceSub, Nat.reduceMul, Nat.reduceLT, Nat.reduceLeDiff, Nat.reduceBNe, Int.reduceBEq, Int.reduceBNe, Int.reduceLT, Int.reduceLE, Spn.a, Msg.a, Par.a, Nd.a, hw]
    · simp (maxSteps := 4000000) only [go_sem, ↓reduceIte, reduceCtorEq, Nat.reduceEqDiff, Nat.reduceBEq, Nat.reduceAdd, Nat.reduceSub, Nat.reduceMul, Nat.reduceLT, Nat.reduceLeDiff, Nat.reduceBNe, Int.reduceBEq, Int.reduceBNe, Int.reduceLT, Int.reduceLE, Spn.a, Msg.a, Par.a, Nd.a, List.length_append, List.length_cons, List.length_nil]
    · simp (maxSteps := 4000000) only [go_sem, ↓reduceIte, reduceCtorEq, Nat.reduceEqDiff, Nat.reduceBEq, Nat.reduceAdd, Nat.reduceSub, Nat.reduceMul, Nat.reduceLT, Nat.reduceLeDiff, Nat.reduceBNe, Int.reduceBEq, Int.reduceBNe, Int.reduceLT, Int.reduceLE, Spn.a, Msg.a, Par.a, Nd.a, List.map_append, List.map_cons, List.map_nil, ht]
  · rw [hb0] at t5
    rw [hm] at hr
    have hq1 := (List.getElem?_eq_some_iff.1 hy).1
    have hgy := at_map (f := Msg.a) hy
    simp only [Msg.a] at hgy
    have hq' : (q : Int) < (b.length : Int) := by omega
    (repeat (first | simp (maxSteps := 4000000) only [go_sem, ↓reduceIte, reduceCtorEq, Nat.reduceEqDiff, Nat.reduceBEq, Nat.reduceAdd, Nat.reduceSub, Nat.reduceMul, Nat.reduceLT, Nat.reduceLeDiff, Nat.reduceBNe, Int.reduceBEq, Int.reduceBNe, Int.reduceLT, Int.reduceLE, Spn.a, Msg.a, Par.a, Nd.a, t0, t3, h9, t4, h4, t5, z0, z1, hq', hgy, List.length_map, Int.toNat_natCast, hw', ht] | refine calling (hR0) ?_ | refine callingH (hR0) ?_ | refine And.intro (by omega) ?_ | refine And.intro (fun d hd => by (repeat (rcases hd with rfl | hd; · exact ⟨rfl, rfl⟩)); cases hd) ?_ | refine And.intro (And.intro (by omega) (fun d hd => by (repeat (rcases hd with rfl | hd; · exact ⟨rfl, rfl⟩)); cases hd)) ?_))
    refine ⟨(a.length - p) + (b.length - (q + 1)), by omega, p, q + 1, out ++ [y], by omega, by omega, rfl, by simp; omega, ?_, ?_, ?_, ?_, ?_, by rw [List.append_assoc]; exact hr⟩
    · simp (maxSteps := 4000000) only [go_sem, ↓reduceIte, reduceCtorEq, Nat.reduceEqDiff, Nat.reduceBEq, Nat.reduceAdd, Nat.reduceSub, Nat.reduceMul, Nat.reduceLT, Nat.reduceLeDiff, Nat.reduceBNe, Int.reduceBEq, Int.reduceBNe, Int.reduceLT, Int.reduceLE, Spn.a, Msg.a, Par.a, Nd.a, t0]
    · simp (maxSteps := 4000000) only [go_sem, ↓reduceIte, reduceCtorEq, Nat.reduceEqDiff, Nat.reduceBEq, Nat.reduceAdd, Nat.reduceSub, Nat.reduceMul, Nat.reduceLT, Nat.reduceLeDiff, Nat.reduceBNe, Int.reduceBEq, Int.reduceBNe, Int.reduceLT, Int.reduceLE, Spn.a, Msg.a, Par.a, Nd.a, t3]
    · simp (maxSteps := 4000000) only [go_sem, ↓reduceIte, reduceCtorEq, Nat.reduceEqDiff, Nat.reduceBEq, Nat.reduceAdd, Nat.reduceSub, Nat.reduceMul, Nat.reduceLT, Nat.reduceLeDiff, Nat.reduceBNe, Int.reduceBEq, Int.reduceBNe, Int.reduceLT, Int.reduceLE, Spn.a, Msg.a, Par.a, Nd.a, hw', List.set_cons_succ]
    · simp (maxSteps := 4000000) only [go_sem, ↓reduceIte, reduceCtorEq, Nat.reduceEqDiff, Nat.reduceBEq, Nat.reduceAdd, Nat.reduceSub, Nat.reduceMul, Nat.reduceLT, Nat.reduceLeDiff, Nat.reduceBNe, Int.reduceBEq, Int.reduceBNe, Int.reduceLT, Int.reduceLE, Spn.a, Msg.a, Par.a, Nd.a, List.length_append, List.length_cons, List.length_nil]
    · simp (maxSteps := 4000000) only [go_sem, ↓reduceIte, reduceCtorEq, Nat.reduceEqDiff, Nat.reduceBEq, Nat.reduceAdd, Nat.reduceSub, Nat.reduceMul, Nat.reduceLT, Nat.reduceLeDiff, Nat.reduceBNe, Int.reduceBEq, Int.reduceBNe, Int.reduceLT, Int.reduceLE, Spn.a, Msg.a, Par.a, Nd.a, List.map_append, List.map_cons, List.map_nil, ht]
  · rw [hb0] at t5
    rw [hm, List.append_nil] at hr
    subst hr
    simp (maxSteps := 4000000) only [go_sem, ↓reduceIte, reduceCtorEq, Nat.reduceEqDiff, Nat.reduceBEq, Nat.reduceAdd, Nat.reduceSub, Nat.reduceMul, Nat.reduceLT, Nat.reduceLeDiff, Nat.reduceBNe, Int.reduceBEq, Int.reduceBNe, Int.reduceLT, Int.reduceLE, Spn.a, Msg.a, Par.a, Nd.a, t0, t3, h9, t4, h4, t5, z0, z1, List.length_map, Int.toNat_natCast]
end
section
/-
  Trees of the document: the seats of all nodes: walked.
-/
open Go.RowKit
set_option linter.unusedVariables false
set_option linter.unusedSimpArgs false
set_option maxRecDepth 100000
attribute [local go_sem ↓] runOp headOp
structure Seat where
  n : Nd
  s : Spn
  ms : List Msg
def Seat.a (x : Seat) : AV := .agg [.int .i64 x.n.slot, .int .i64 x.n.level, .sl (x.n.pivots.map AV.str), .sl (x.n.kids.map (AV.int .i64)), .str x.n.high, .bool x.n.top, .int .i64 x.n.right, .int .i64 x.n.seen, .sl (x.n.msgs.map Msg.a), .sl (x.n.rows.map Par.a), .str x.s.lo, .str x.s.hi, .bool x.s.op, .sl (x.ms.map Msg.a)]
/-- the seat of a kid -/
def kidSeat (x : Seat) (j : Nat) (kid : Nd) : Seat :=
  ⟨kid, x.s.meet (rangeN x.n.pivots j), mergeM (clipL x.n.msgs (x.s.meet (rangeN x.n.pivots j))) (clipL x.ms (x.s.meet (rangeN x.n.pivots j)))⟩
def kidsGo (l : List Nd) (x : Seat) : Nat → List Int → List Seat × Bool
  | _, [] => ([], true)
  | j, k :: ks => if (findF l k).2 = true ∧ (findF l k).1.level = x.n.level - 1 then (kidSeat x j (findF l k).1 :: (kidsGo l x (j + 1) ks).1, (kidsGo l x (j + 1) ks).2) else ([], false)
def seatsGo (l : List Nd) : Nat → List Seat → Nat → List Seat × Bool
  | 0, out, _ => (out, true)
  | f + 1, out, i => match out[i]? with
    | none => (out, true)
    | some x => if l.length < out.length then (out, false) else if x.n.level = 0 then seatsGo l f out (i + 1)
      else if x.n.level < 0 ∨ rightK x.n.pivots x.n.kids = false then (out, false)
      else if (kidsGo l x 0 x.n.kids).2 = true then seatsGo l f (out ++ (kidsGo l x 0 x.n.kids).1) (i + 1) else (out ++ (kidsGo l x 0 x.n.kids).1, false)
def seatsF (l : List Nd) (root : Int) : List Seat × Bool :=
  if (findF l root).2 = true then seatsGo l (l.length + 1) [⟨(findF l root).1, ⟨nul0, nul0, true⟩, []⟩] 0 else ([], false)
/-- a node with few things -/
structure Nd.Lt (n : Nd) : Prop where
  lev : -9223372036854775808 ≤ n.level ∧ n.level ≤ 9223372036854775807
  piv : ∀ x, x ∈ n.pivots → x.size ≤ 2000
  npiv : n.pivots.length ≤ 2000
  nkid : n.kids.length ≤ 2000
  high : n.high.size ≤ 2000
  msgs : ∀ m, m ∈ n.msgs → m.le 2000
  nmsg : n.msgs.length ≤ 2000
  rows : ∀ p, p ∈ n.rows → p.key.size ≤ 2000 ∧ p.val.size ≤ 2000
  nrow : n.rows.length ≤ 2000
theorem Nd.zero_lt : Nd.zero.Lt := ⟨⟨by decide, by decide⟩, fun x h => (by cases h), by decide, by decide, by decide, fun x h => (by cases h), by decide, fun x h => (by cases h), by decide⟩
theorem findGo_mem (slot : Int) : ∀ (l : List Nd) (o : Nd) (n : Nat), (findGo slot o n l).1 = o ∨ (findGo slot o n l).1 ∈ l
  | [], o, n => .inl rfl
  | x :: l, o, n => by
    rw [findGo]
    split
    · rcases findGo_mem slot l x (n + 1) with h | h
      · exact .inr (by rw [h]; exact List.mem_cons_self ..)
      · exact .inr (List.mem_cons_of_mem _ h)
    · rcases findGo_mem slot l o n with h | h
      · exact .inl h
      · exact .inr (List.mem_cons_of_mem _ h)
theorem findF_lt {l : List Nd} (h : ∀ n, n ∈ l → n.Lt) (slot : Int) : (findF l slot).1.Lt := by
  rcases findGo_mem slot l Nd.zero 0 with e | e
  · show (findGo slot Nd.zero 0 l).1.Lt
    rw [e]; exact Nd.zero_lt
  · exact h _ e
theorem rangeN_le {p : List ByteArray} (h : ∀ x, x ∈ p → x.size ≤ 2000) (j : Nat) : (rangeN p j).le 2000 := by
  unfold rangeN
  refine norm_le ⟨?_, ?_⟩
  · show (if j = 0 then nul0 else p.getD (j - 1) nul0).size ≤ 2000
    split
    · exact Nat.zero_le _
    · rcases Nat.lt_or_ge (j - 1) p.length with q | q
      · exact h _ (getD_mem q)
      · rw [List.getD_eq_getElem?_getD, List.getElem?_eq_none q]; exact Nat.zero_le _
  · show (if j < p.length then p.getD j nul0 else nul0).size ≤ 2000
    split
    · rename_i q; exact h _ (getD_mem q)
    · exact Nat.zero_le _
theorem clipM_le {m : Msg} {s : Spn} (hm : m.le 2000) (hs : s.le 2000) : (clipM m s).1.le 2000 := by
  unfold clipM
  split
  · exact ⟨Nat.zero_le _, Nat.zero_le _, Nat.zero_le _⟩
  · show (if m.kind = 4 then _ else m : Msg).le 2000
    split
    · rename_i h4
      have : m.span.le 2000 := by
        unfold Msg.span
        rw [if_pos h4]; exact ⟨hm.1, hm.2.1⟩
      have q := meet_le this hs
      exact ⟨q.1, q.2, hm.2.2⟩
    · exact hm
theorem clipL_le {l : List Msg} {s : Spn} (hl : ∀ m, m ∈ l → m.le 2000) (hs : s.le 2000) : ∀ m, m ∈ clipL l s → m.le 2000 := by
  intro m hm
  unfold clipL at hm
  rw [List.mem_filterMap] at hm
  obtain ⟨y, hy, e⟩ := hm
  split at e
  · cases e; exact clipM_le (hl y hy) hs
  · cases e
/-- seats that a walk may come to: the i-th has not too many messages -/
structure SeatOk (x : Seat) (b : Nat) : Prop where
  lt : x.n.Lt
  s : x.s.le 2000
  ms : ∀ m, m ∈ x.ms → m.le 2000
  nms : x.ms.length ≤ b
theorem kidSeat_ok {x : Seat} {b : Nat} (h : SeatOk x b) (j : Nat) {kid : Nd} (hk : kid.Lt) : SeatOk (kidSeat x j kid) (b + 2000) := by
  have hs := meet_le h.s (rangeN_le h.lt.piv j)
  have l1 := clipL_len x.n.msgs (x.s.meet (rangeN x.n.pivots j))
  have l2 := clipL_len x.ms (x.s.meet (rangeN x.n.pivots j))
  have l3 := h.lt.nmsg
  have l4 := h.nms
  refine ⟨hk, hs, fun m hm => ?_, ?_⟩
  · rcases mergeM_mem _ _ _ (Nat.le_refl _) m hm with q | q
    · exact clipL_le h.lt.msgs hs m q
    · exact clipL_le h.ms hs m q
  · show (mergeM _ _).length ≤ _
    rw [mergeM_len _ _ _ (Nat.le_refl _)]
    omega
/-! ### percolate/percolateref27.Seats -/
def r_seats_0 : Reg := ⟨[], [⟨(.mknil 14 40), (some 4), none, [], []⟩, ⟨(.mv (.c (.bool false))), (some 5), none, [], []⟩], [4], [], false⟩
def t_seats_1 : List ROp := [⟨(.mv (.t 0)), (some 17), none, [19, 6], []⟩, ⟨(.mv (.t 1)), (some 18), none, [19, 6], []⟩, ⟨(.callv (.c (.clo 52 [] [])) [(.t 17), (.t 18)]), (some 19), none, [6], []⟩, ⟨(.mv (.t 19)), (some 16), none, [6], []⟩, ⟨(.ext 0 (.t 16)), (some 20), none, [6], []⟩, ⟨(.ext 1 (.t 16)), (some 21), none, [6], []⟩, ⟨(.alloc 10 36 (.agg [(.int .i64 0), (.int .i64 0), (.sl []), (.sl []), (.str ⟨#[]⟩), (.bool false), (.int .i64 0), (.int .i64 0), (.sl []), (.sl [])])), (some 6), none, [], []⟩, ⟨(.store 10 (.t 6) (.t 20)), none, none, [], []⟩, ⟨(.mv (.t 21)), (some 7), none, [], []⟩]
def r_seats_1 : Reg := ⟨[], t_seats_1, [19, 6], [], false⟩
def r_seats_2 : Reg := ⟨[], [⟨(.mv (.t 7)), (some 22), none, [], []⟩, ⟨(.un .not (.t 22)), (some 23), none, [], []⟩], [], [], false⟩
def r_seats_3 : Reg := ⟨[], [⟨(.mknil 14 40), (some 4), none, [], []⟩, ⟨(.mv (.c (.bool false))), (some 5), none, [], []⟩], [4], [], false⟩
def t_seats_4 : List ROp := [⟨(.load 10 true (.t 6)), (some 24), none, [27], []⟩, ⟨(.bld [(.str ⟨#[]⟩), (.str ⟨#[]⟩), (.bool false)] [⟨2, 1, (.c (.bool true))⟩]), (some 25), none, [27], []⟩, ⟨(.bld [(.int .i64 0), (.int .i64 0), (.sl []), (.sl []), (.str ⟨#[]⟩), (.bool false), (.int .i64 0), (.int .i64 0), (.sl []), (.sl []), (.str ⟨#[]⟩), (.str ⟨#[]⟩), (.bool false), (.sl [])] [⟨0, 10, (.t 24)⟩, ⟨10, 3, (.t 25)⟩]), (some 26), none, [27], []⟩, ⟨(.bsl 14 40 [(.t 26)]), (some 27), none, [], []⟩, ⟨(.mv (.t 27)), (some 8), none, [], []⟩]
def r_seats_4 : Reg := ⟨[], t_seats_4, [27], [], false⟩
def r_seats_5 : Reg := ⟨[], [⟨(.mv (.c (.int .i64 0))), (some 9), none, [], []⟩], [], [], false⟩
def t_seats_6 : List ROp := [⟨(.mv (.t 9)), (some 28), none, [], []⟩, ⟨(.mv (.t 8)), (some 29), none, [], []⟩, ⟨(.len false (.t 29)), (some 30), none, [], []⟩, ⟨(.bin .lss (.t 28) (.t 30)), (some 31), none, [], []⟩]
def r_seats_6 : Reg := ⟨[], t_seats_6, [], [], false⟩
def t_seats_7 : List ROp := [⟨(.mv (.t 8)), (some 34), none, [10], []⟩, ⟨(.mv (.t 9)), (some 35), none, [10], []⟩, ⟨(.iaddr 14 (.t 34) (.t 35)), (some 36), none, [10], []⟩, ⟨(.load 14 true (.t 36)), (some 37), none, [10], []⟩, ⟨(.alloc 14 40 (.agg [(.int .i64 0), (.int .i64 0), (.sl []), (.sl []), (.str ⟨#[]⟩), (.bool false), (.int .i64 0), (.int .i64 0), (.sl []), (.sl []), (.str ⟨#[]⟩), (.str ⟨#[]⟩), (.bool false), (.sl [])])), (some 10), none, [], []⟩, ⟨(.store 14 (.t 10) (.t 37)), none, none, [], []⟩]
def r_seats_7 : Reg := ⟨[], t_seats_7, [10], [], false⟩
def t_seats_8 : List ROp := [⟨(.mv (.t 8)), (some 38), none, [], []⟩, ⟨(.len false (.t 38)), (some 39), none, [], []⟩, ⟨(.mv (.t 0)), (some 40), none, [], []⟩, ⟨(.len false (.t 40)), (some 41), none, [], []⟩, ⟨(.bin .gtr (.t 39) (.t 41)), (some 42), none, [], []⟩]
def r_seats_8 : Reg := ⟨[], t_seats_8, [], [], false⟩
def t_seats_9 : List ROp := [⟨(.mv (.t 8)), (some 43), none, [], []⟩, ⟨(.mv (.t 43)), (some 4), none, [], []⟩, ⟨(.mv (.c (.bool false))), (some 5), none, [], []⟩]
def r_seats_9 : Reg := ⟨[], t_seats_9, [], [], false⟩
def t_seats_10 : List ROp := [⟨(.faddr 0 (.t 10)), (some 44), none, [], []⟩, ⟨(.faddr 1 (.t 44)), (some 45), none, [], []⟩, ⟨(.load 1 false (.t 45)), (some 46), none, [], []⟩, ⟨(.bin .eql (.t 46) (.c (.int .i64 0))), (some 47), none, [], []⟩]
def r_seats_10 : Reg := ⟨[], t_seats_10, [], [], false⟩
def t_seats_11 : List ROp := [⟨(.faddr 0 (.t 10)), (some 48), none, [59], []⟩, ⟨(.faddr 1 (.t 48)), (some 49), none, [59], []⟩, ⟨(.load 1 false (.t 49)), (some 50), none, [59], []⟩, ⟨(.bin .lss (.t 50) (.c (.int .i64 0))), (some 51), none, [59], []⟩, ⟨(.mv (.t 51)), (some 52), none, [59], []⟩, ⟨(.faddr 0 (.t 10)), (some 53), (some (52, false)), [59], []⟩, ⟨(.faddr 2 (.t 53)), (some 54), (some (52, false)), [59], []⟩, ⟨(.load 1 false (.t 54)), (some 55), (some (52, false)), [59], []⟩, ⟨(.faddr 0 (.t 10)), (some 56), (some (52, false)), [59], []⟩, ⟨(.faddr 3 (.t 56)), (some 57), (some (52, false)), [59], []⟩, ⟨(.load 1 false (.t 57)), (some 58), (some (52, false)), [59], []⟩, ⟨(.callv (.c (.clo 53 [] [])) [(.t 55), (.t 58)]), (some 59), (some (52, false)), [], []⟩, ⟨(.un .not (.t 59)), (some 60), (some (52, false)), [], []⟩, ⟨(.pick (.t 52) (.c (.bool true)) (.t 60)), (some 61), none, [], []⟩]
def r_seats_11 : Reg := ⟨[], t_seats_11, [59], [], false⟩
def t_seats_12 : List ROp := [⟨(.mv (.t 8)), (some 62), none, [], []⟩, ⟨(.mv (.t 62)), (some 4), none, [], []⟩, ⟨(.mv (.c (.bool false))), (some 5), none, [], []⟩]
def r_seats_12 : Reg := ⟨[], t_seats_12, [], [], false⟩
def r_seats_13 : Reg := ⟨[], [⟨(.mv (.c (.int .i64 0))), (some 11), none, [], []⟩], [], [], false⟩
def t_seats_14 : List ROp := [⟨(.mv (.t 11)), (some 63), none, [], []⟩, ⟨(.faddr 0 (.t 10)), (some 64), none, [], []⟩, ⟨(.faddr 3 (.t 64)), (some 65), none, [], []⟩, ⟨(.load 1 false (.t 65)), (some 66), none, [], []⟩, ⟨(.len false (.t 66)), (some 67), none, [], []⟩, ⟨(.bin .lss (.t 63) (.t 67)), (some 68), none, [], []⟩]
def r_seats_14 : Reg := ⟨[], t_seats_14, [], [], false⟩
def t_seats_15 : List ROp := [⟨(.mv (.t 0)), (some 72), none, [79, 12], []⟩, ⟨(.faddr 0 (.t 10)), (some 73), none, [79, 12], []⟩, ⟨(.faddr 3 (.t 73)), (some 74), none, [79, 12], []⟩, ⟨(.load 1 false (.t 74)), (some 75), none, [79, 12], []⟩, ⟨(.mv (.t 11)), (some 76), none, [79, 12], []⟩, ⟨(.iaddr 1 (.t 75) (.t 76)), (some 77), none, [79, 12], []⟩, ⟨(.load 1 false (.t 77)), (some 78), none, [79, 12], []⟩, ⟨(.callv (.c (.clo 52 [] [])) [(.t 72), (.t 78)]), (some 79), none, [12], []⟩, ⟨(.mv (.t 79)), (some 71), none, [12], []⟩, ⟨(.ext 0 (.t 71)), (some 80), none, [12], []⟩, ⟨(.ext 1 (.t 71)), (some 81), none, [12], []⟩, ⟨(.alloc 10 36 (.agg [(.int .i64 0), (.int .i64 0), (.sl []), (.sl []), (.str ⟨#[]⟩), (.bool false), (.int .i64 0), (.int .i64 0), (.sl []), (.sl [])])), (some 12), none, [], []⟩, ⟨(.store 10 (.t 12) (.t 80)), none, none, [], []⟩, ⟨(.mv (.t 81)), (some 13), none, [], []⟩]
def r_seats_15 : Reg := ⟨[], t_seats_15, [79, 12], [], false⟩
def t_seats_16 : List ROp := [⟨(.mv (.t 13)), (some 82), none, [], []⟩, ⟨(.un .not (.t 82)), (some 83), none, [], []⟩, ⟨(.mv (.t 83)), (some 84), none, [], []⟩, ⟨(.faddr 1 (.t 12)), (some 85), (some (84, false)), [], []⟩, ⟨(.load 1 false (.t 85)), (some 86), (some (84, false)), [], []⟩, ⟨(.faddr 0 (.t 10)), (some 87), (some (84, false)), [], []⟩, ⟨(.faddr 1 (.t 87)), (some 88), (some (84, false)), [], []⟩, ⟨(.load 1 false (.t 88)), (some 89), (some (84, false)), [], []⟩, ⟨(.bin .sub (.t 89) (.c (.int .i64 1))), (some 90), (some (84, false)), [], []⟩, ⟨(.bin .neq (.t 86) (.t 90)), (some 91), (some (84, false)), [], []⟩, ⟨(.pick (.t 84) (.c (.bool true)) (.t 91)), (some 92), none, [], []⟩]
def r_seats_16 : Reg := ⟨[], t_seats_16, [], [], false⟩
def t_seats_17 : List ROp := [⟨(.mv (.t 8)), (some 93), none, [], []⟩, ⟨(.mv (.t 93)), (some 4), none, [], []⟩, ⟨(.mv (.c (.bool false))), (some 5), none, [], []⟩]
def r_seats_17 : Reg := ⟨[], t_seats_17, [], [], false⟩
def h_seats_18 : List ROp := [⟨(.faddr 10 (.t 10)), (some 94), none, [100, 101, 14], []⟩, ⟨(.load 3 true (.t 94)), (some 95), none, [100, 101, 14], []⟩, ⟨(.faddr 0 (.t 10)), (some 96), none, [100, 101, 14], []⟩, ⟨(.faddr 2 (.t 96)), (some 97), none, [100, 101, 14], []⟩, ⟨(.load 1 false (.t 97)), (some 98), none, [100, 101, 14], []⟩, ⟨(.mv (.t 11)), (some 99), none, [100, 101, 14], []⟩, ⟨(.callv (.c (.clo 55 [] [])) [(.t 98), (.t 99)]), (some 100), none, [101, 14], []⟩, ⟨(.callv (.c (.clo 54 [] [])) [(.t 95), (.t 100)]), (some 101), none, [14], []⟩, ⟨(.alloc 3 38 (.agg [(.str ⟨#[]⟩), (.str ⟨#[]⟩), (.bool false)])), (some 14), none, [100, 101], []⟩]
def r_seats_18 : Reg := ⟨h_seats_18, [⟨(.store 3 (.t 14) (.t 101)), none, none, [], [14]⟩], [100, 101, 14], [], true⟩
def t_seats_19 : List ROp := [⟨(.callv (.c (.clo 57 [] [])) [(.t 108), (.t 109)]), (some 110), none, [111, 112], []⟩, ⟨(.bsl 1 33 [(.t 106), (.t 110)]), (some 111), none, [112], []⟩, ⟨(.callv (.c (.clo 56 [] [])) [(.t 111)]), (some 112), none, [], []⟩, ⟨(.mv (.t 112)), (some 15), none, [], []⟩]
def h_seats_19 : List ROp := [⟨(.faddr 0 (.t 10)), (some 102), none, [106, 110, 111, 112], []⟩, ⟨(.faddr 8 (.t 102)), (some 103), none, [106, 110, 111, 112], []⟩, ⟨(.load 1 false (.t 103)), (some 104), none, [106, 110, 111, 112], []⟩, ⟨(.load 3 true (.t 14)), (some 105), none, [106, 110, 111, 112], []⟩, ⟨(.callv (.c (.clo 57 [] [])) [(.t 104), (.t 105)]), (some 106), none, [110, 111, 112], []⟩, ⟨(.faddr 13 (.t 10)), (some 107), none, [106, 110, 111, 112], []⟩, ⟨(.load 1 false (.t 107)), (some 108), none, [106, 110, 111, 112], []⟩, ⟨(.load 3 true (.t 14)), (some 109), none, [106, 110, 111, 112], []⟩]
def r_seats_19 : Reg := ⟨h_seats_19, t_seats_19, [106, 110, 111, 112], [], true⟩
def t_seats_20 : List ROp := [⟨(.mv (.t 8)), (some 113), none, [118], []⟩, ⟨(.load 10 true (.t 12)), (some 114), none, [118], []⟩, ⟨(.load 3 true (.t 14)), (some 115), none, [118], []⟩, ⟨(.mv (.t 15)), (some 116), none, [118], []⟩, ⟨(.bld [(.int .i64 0), (.int .i64 0), (.sl []), (.sl []), (.str ⟨#[]⟩), (.bool false), (.int .i64 0), (.int .i64 0), (.sl []), (.sl []), (.str ⟨#[]⟩), (.str ⟨#[]⟩), (.bool false), (.sl [])] [⟨0, 10, (.t 114)⟩, ⟨10, 3, (.t 115)⟩, ⟨13, 1, (.t 116)⟩]), (some 117), none, [118], []⟩, ⟨(.bsl 14 40 [(.t 117)]), (some 118), none, [], []⟩, ⟨(.append 14 40 216 (.t 113) (.t 118)), (some 119), none, [], []⟩, ⟨(.mv (.t 119)), (some 8), none, [], []⟩]
def r_seats_20 : Reg := ⟨[], t_seats_20, [118], [], false⟩
def t_seats_21 : List ROp := [⟨(.mv (.t 11)), (some 69), none, [], []⟩, ⟨(.bin .add (.t 69) (.c (.int .i64 1))), (some 70), none, [], []⟩, ⟨(.mv (.t 70)), (some 11), none, [], []⟩]
def r_seats_21 : Reg := ⟨[], t_seats_21, [], [], false⟩
def r_seats_l22 : IR := (.seq (.seq (.reg r_seats_14)
  (.cond (.t 68) .skip
  (.exit 2)))
  (.seq (.block 3 (.seq (.reg r_seats_15)
  (.seq (.seq (.reg r_seats_16)
  (.cond (.t 92) (.seq (.reg r_seats_17)
  .ret)
  .skip))
  (.seq (.reg r_seats_18)
  (.seq (.reg r_seats_19)
  (.reg r_seats_20))))))
  (.reg r_seats_21)))
def t_seats_23 : List ROp := [⟨(.mv (.t 9)), (some 32), none, [], []⟩, ⟨(.bin .add (.t 32) (.c (.int .i64 1))), (some 33), none, [], []⟩, ⟨(.mv (.t 33)), (some 9), none, [], []⟩]
def r_seats_23 : Reg := ⟨[], t_seats_23, [], [], false⟩
def r_seats_l24 : IR := (.seq (.seq (.reg r_seats_6)
  (.cond (.t 31) .skip
  (.exit 0)))
  (.seq (.block 1 (.seq (.reg r_seats_7)
  (.seq (.seq (.reg r_seats_8)
  (.cond (.t 42) (.seq (.reg r_seats_9)
  .ret)
  .skip))
  (.seq (.seq (.reg r_seats_10)
  (.cond (.t 47) (.exit 1)
  .skip))
  (.seq (.seq (.reg r_seats_11)
  (.cond (.t 61) (.seq (.reg r_seats_12)
  .ret)
  .skip))
  (.seq (.reg r_seats_13)
  (.block 2 (.loop r_seats_l22))))))))
  (.reg r_seats_23)))
def t_seats_25 : List ROp := [⟨(.mv (.t 8)), (some 120), none, [], []⟩, ⟨(.mv (.t 120)), (some 4), none, [], []⟩, ⟨(.mv (.c (.bool true))), (some 5), none, [], []⟩]
def r_seats_25 : Reg := ⟨[], t_seats_25, [], [], false⟩
def ir_seats : IR := (.seq (.reg r_seats_0)
  (.seq (.reg r_seats_1)
  (.seq (.seq (.reg r_seats_2)
  (.cond (.t 23) (.seq (.reg r_seats_3)
  .ret)
  .skip))
  (.seq (.reg r_seats_4)
  (.seq (.seq (.reg r_seats_5)
  (.block 0 (.loop r_seats_l24)))
  (.seq (.reg r_seats_25)
  .ret))))))
def res_seats : List RDesc := [(.tmp 4), (.tmp 5)]
theorem e_seats_0 (C : FuncId → List AV → AV → Prop) (σ : St) (K : St → Prop) : runReg C r_seats_0 σ K = runOps C [⟨(.mknil 14 40), (some 4), none, [], []⟩, ⟨(.mv (.c (.bool false))), (some 5), none, [], []⟩] (σ.kills [4]) K := rfl
theorem e_seats_1 (C : FuncId → List AV → AV → Prop) (σ : St) (K : St → Prop) : runReg C r_seats_1 σ K = runOps C t_seats_1 (σ.kills [19, 6]) K := rfl
theorem e_seats_2 (C : FuncId → List AV → AV → Prop) (σ : St) (K : St → Prop) : runReg C r_seats_2 σ K = runOps C [⟨(.mv (.t 7)), (some 22), none, [], []⟩, ⟨(.un .not (.t 22)), (some 23), none, [], []⟩] (σ.kills []) K := rfl
theorem e_seats_3 (C : FuncId → List AV → AV → Prop) (σ : St) (K : St → Prop) : runReg C r_seats_3 σ K = runOps C [⟨(.mknil 14 40), (some 4), none, [], []⟩, ⟨(.mv (.c (.bool false))), (some 5), none, [], []⟩] (σ.kills [4]) K := rfl
theorem e_seats_4 (C : FuncId → List AV → AV → Prop) (σ : St) (K : St → Prop) : runReg C r_seats_4 σ K = runOps C t_seats_4 (σ.kills [27]) K := rfl
theorem e_seats_5 (C : FuncId → List AV → AV → Prop) (σ : St) (K : St → Prop) : runReg C r_seats_5 σ K = runOps C [⟨(.mv (.c (.int .i64 0))), (some 9), none, [], []⟩] (σ.kills []) K := rfl
theorem e_seats_6 (C : FuncId → List AV → AV → Prop) (σ : St) (K : St → Prop) : runReg C r_seats_6 σ K = runOps C t_seats_6 (σ.kills []) K := rfl
theorem e_seats_7 (C : FuncId → List AV → AV → Prop) (σ : St) (K : St → Prop) : runReg C r_seats_7 σ K = runOps C t_seats_7 (σ.kills [10]) K := rfl
theorem e_seats_8 (C : FuncId → List AV → AV → Prop) (σ : St) (K : St → Prop) : runReg C r_seats_8 σ K = runOps C t_seats_8 (σ.kills []) K := rfl
theorem e_seats_9 (C : FuncId → List AV → AV → Prop) (σ : St) (K : St → Prop) : runReg C r_seats_9 σ K = runOps C t_seats_9 (σ.kills []) K := rfl
theorem e_seats_10 (C : FuncId → List AV → AV → Prop) (σ : St) (K : St → Prop) : runReg C r_seats_10 σ K = runOps C t_seats_10 (σ.kills []) K := rfl
theorem e_seats_11 (C : FuncId → List AV → AV → Prop) (σ : St) (K : St → Prop) : runReg C r_seats_11 σ K = runOps C t_seats_11 (σ.kills [59]) K := rfl
theorem e_seats_12 (C : FuncId → List AV → AV → Prop) (σ : St) (K : St → Prop) : runReg C r_seats_12 σ K = runOps C t_seats_12 (σ.kills []) K := rfl
theorem e_seats_13 (C : FuncId → List AV → AV → Prop) (σ : St) (K : St → Prop) : runReg C r_seats_13 σ K = runOps C [⟨(.mv (.c (.int .i64 0))), (some 11), none, [], []⟩] (σ.kills []) K := rfl
theorem e_seats_14 (C : FuncId → List AV → AV → Prop) (σ : St) (K : St → Prop) : runReg C r_seats_14 σ K = runOps C t_seats_14 (σ.kills []) K := rfl
theorem e_seats_15 (C : FuncId → List AV → AV → Prop) (σ : St) (K : St → Prop) : runReg C r_seats_15 σ K = runOps C t_seats_15 (σ.kills [79, 12]) K := rfl
theorem e_seats_16 (C : FuncId → List AV → AV → Prop) (σ : St) (K : St → Prop) : runReg C r_seats_16 σ K = runOps C t_seats_16 (σ.kills []) K := rfl
theorem e_seats_17 (C : FuncId → List AV → AV → Prop) (σ : St) (K : St → Prop) : runReg C r_seats_17 σ K = runOps C t_seats_17 (σ.kills []) K := rfl
theorem e_seats_18 (C : FuncId → List AV → AV → Prop) (σ : St) (K : St → Prop) : runReg C r_seats_18 σ K = runHead C [] [⟨(.store 3 (.t 14) (.t 101)), none, none, [], [14]⟩] h_seats_18 (σ.kills [100, 101, 14]) K := rfl
theorem e_seats_19 (C : FuncId → List AV → AV → Prop) (σ : St) (K : St → Prop) : runReg C r_seats_19 σ K = runHead C [] t_seats_19 h_seats_19 (σ.kills [106, 110, 111, 112]) K := rfl
theorem e_seats_20 (C : FuncId → List AV → AV → Prop) (σ : St) (K : St → Prop) : runReg C r_seats_20 σ K = runOps C t_seats_20 (σ.kills [118]) K := rfl
theorem e_seats_21 (C : FuncId → List AV → AV → Prop) (σ : St) (K : St → Prop) : runReg C r_seats_21 σ K = runOps C t_seats_21 (σ.kills []) K := rfl
theorem e_seats_23 (C : FuncId → List AV → AV → Prop) (σ : St) (K : St → Prop) : runReg C r_seats_23 σ K = runOps C t_seats_23 (σ.kills []) K := rfl
theorem e_seats_25 (C : FuncId → List AV → AV → Prop) (σ : St) (K : St → Prop) : runReg C r_seats_25 σ K = runOps C t_seats_25 (σ.kills []) K := rfl
theorem fn_seats {args : List AV} {r : AV} (ha : args.length.ble Try.f12.ntmps = true) (h : run (AFn Try.prog) ir_seats (endQ res_seats r) (initSt args)) : AFn Try.prog 12 args r :=
  AFn.of_code (pv := false) (hint := fun _ => []) (c := Try.f12.body.getD .skip) (by kernel_rfl) (by kernel_rfl) Try.func12 (by kernel_rfl) (by kernel_rfl) (by kernel_rfl) (of_decide_eq_true (by kernel_rfl)) (Nat.le_of_ble_eq_true ha) (Nat.le_of_ble_eq_true (by kernel_rfl)) (run_ok h)
attribute [local go_sem ↓] ir_seats
attribute [local go_sem] res_seats e_seats_0 e_seats_1 t_seats_1 e_seats_2 e_seats_3 e_seats_4 t_seats_4 e_seats_5 e_seats_6 t_seats_6 e_seats_7 t_seats_7 e_seats_8 t_seats_8 e_seats_9 t_seats_9 e_seats_10 t_seats_10 e_seats_11 t_seats_11 e_seats_12 t_seats_12 e_seats_13 e_seats_14 t_seats_14 e_seats_15 t_seats_15 e_seats_16 t_seats_16 e_seats_17 t_seats_17 e_seats_18 h_seats_18 e_seats_19 t_seats_19 h_seats_19 e_seats_20 t_seats_20 e_seats_21 t_seats_21 e_seats_23 t_seats_23 e_seats_25 t_seats_25
def kdInv (l : List Nd) (x : Seat) (i : Nat) (out : List Seat) (R : List Seat × Bool) (k : Nat) (σ : St) : Prop :=
  ∃ (j : Nat) (done : List Seat), j ≤ x.n.kids.length ∧ k = x.n.kids.length - j ∧ done.length = j ∧ σ.T 0 = .sl (l.map Nd.a) ∧ σ.T 8 = .rs 27 0 (out ++ done).length ∧ σ.H 27 = some ⟨14, 40, (out ++ done).map Seat.a, 0⟩ ∧
    σ.T 9 = .int .i64 i ∧ σ.T 10 = .ptr 10 0 0 ∧ σ.H 10 = some ⟨14, 40, [x.a], 0⟩ ∧ σ.T 11 = .int .i64 j ∧ (done ++ (kidsGo l x j (x.n.kids.drop j)).1, (kidsGo l x j (x.n.kids.drop j)).2) = R
def stEnd (l : List Nd) (i : Nat) (o : List Seat) (σ : St) : Prop :=
  σ.T 0 = .sl (l.map Nd.a) ∧ σ.T 8 = .rs 27 0 o.length ∧ σ.H 27 = some ⟨14, 40, o.map Seat.a, 0⟩ ∧ σ.T 9 = .int .i64 i
def stRet (o : List Seat) (σ : St) : Prop :=
  σ.T 4 = .rs 27 0 o.length ∧ σ.H 27 = some ⟨14, 40, o.map Seat.a, 0⟩ ∧ σ.T 5 = .bool false
set_option maxHeartbeats 4000000 in
theorem kids_step (Q : XK → St → Prop) (l : List Nd) (x : Seat) (b i : Nat) (out : List Seat) (R : List Seat × Bool) (hl : l.length ≤ 1000) (hn : ∀ n, n ∈ l → n.Lt) (ho : SeatOk x b) (hb : b ≤ 500000) (hlev : 0 < x.n.level)
    (hr : x.n.kids.length = x.n.pivots.length + 1) (hout : out.length ≤ 100000) (hEnd : ∀ σ, R.2 = true → stEnd l i (out ++ R.1) σ → Q (.exit 2) σ) (hRet : ∀ σ, R.2 = false → stRet (out ++ R.1) σ → Q .ret σ)
    (k : Nat) (σ : St) (hI : kdInv l x i out R k σ) : run (AFn Try.prog) r_seats_l22 (thenQ (fun σ' => ∃ m, m < k ∧ kdInv l x i out R m σ') Q) σ := by
  obtain ⟨j, done, hj, rfl, hd, t0, t8, h27, t9, t10, h10, t11, hR⟩ := hI
  simp only [r_seats_l22]
  have hlt := ho.lt
  simp only [Seat.a] at h10
  by_cases hlt' : j < x.n.kids.length
  · have hltI : (j : Int) < (x.n.kids.length : Int) := by omega
    obtain ⟨kd, hx⟩ := get_lt hlt'
    have hgj := at_map (f := AV.int .i64) hx
    have hw := wrapS (j := j) (by have := hlt.nkid; omega)
    have cf := find_ok l kd (by omega)
    have fl := findF_lt hn kd
    have hwl : IntKind.i64.wrap (x.n.level - 1) = x.n.level - 1 := IntWalk.i64_in _ (by have := hlt.lev; omega)
    rw [drop_at hx, kidsGo] at hR
    have hj9 : j ≤ x.n.pivots.length := by omega
    have cr := range15_ok x.n.pivots j (by have := hlt.npiv; omega) hj9 (fun y hy => by have := hlt.piv y hy; omega)
    have r1 := rangeN_le hlt.piv j
    have cm := refMeet x.s (rangeN x.n.pivots j) (le_ok ho.s (by omega)) (le_ok r1 (by omega))
    have r2 := meet_le ho.s r1
    have c1 := clip18_ok x.n.msgs (x.s.meet (rangeN x.n.pivots j)) 2000 (by omega) (by have := hlt.nmsg; omega) hlt.msgs r2
    have c2 := clip18_ok x.ms (x.s.meet (rangeN x.n.pivots j)) 2000 (by omega) (by have := ho.nms; omega) ho.ms r2
    have l1 := clipL_len x.n.msgs (x.s.meet (rangeN x.n.pivots j))
    have l2 := clipL_len x.ms (x.s.meet (rangeN x.n.pivots j))
    have c3 := lists_ok (clipL x.n.msgs (x.s.meet (rangeN x.n.pivots j))) (clipL x.ms (x.s.meet (rangeN x.n.pivots j))) (by have := hlt.nmsg; omega) (by have := ho.nms; omega)
    have ht : ∀ o : List Seat, List.take o.length (o.map Seat.a) = o.map Seat.a := fun o => List.take_of_length_le (by rw [List.length_map]; exact Nat.le_refl _)
    have htm : ∀ o : List Msg, List.take o.length (o.map Msg.a) = o.map Msg.a := fun o => List.take_of_length_le (by rw [List.length_map]; exact Nat.le_refl _)
    unfold kidSeat at hR
    generalize clipL x.n.msgs (x.s.meet (rangeN x.n.pivots j)) = ca at *
    generalize clipL x.ms (x.s.meet (rangeN x.n.pivots j)) = cb at *
    generalize mergeM ca cb = mm at *
    generalize x.s.meet (rangeN x.n.pivots j) = ns at *
    generalize rangeN x.n.pivots j = rg at *
    generalize (findF l kd).1 = kid at *
    generalize (findF l kd).2 = is at *
    cases is
    · rw [if_neg (by simp)] at hR
      subst hR
      (repeat (first | simp (maxSteps := 4000000) only [go_sem, ↓reduceIte, reduceCtorEq, Nat.reduceEqDiff, Nat.reduceBEq, Nat.reduceAdd, Nat.reduceSub, Nat.reduceMul, Nat.reduceLT, Nat.reduceLeDiff, Nat.reduceBNe, Int.reduceBEq, Int.reduceBNe, Int.reduceLT, Int.reduceLE, Spn.a, Msg.a, Par.a, Nd.a, Seat.a, t0, t8, h27, t9, t10, h10, t11, hltI, hgj, List.length_map, Int.toNat_natCast, hwl] | refine calling (cf) ?_ | refine callingH (cf) ?_ | refine And.intro (by omega) ?_ | refine And.intro (fun d hd => by (repeat (rcases hd with rfl | hd; · exact ⟨rfl, rfl⟩)); cases hd) ?_))
      refine hRet _ rfl ⟨?_, ?_, ?_⟩
      · simp (maxSteps := 4000000) only [go_sem, ↓reduceIte, reduceCtorEq, Nat.reduceEqDiff, Nat.reduceBEq, Nat.reduceAdd, Nat.reduceSub, Nat.reduceMul, Nat.reduceLT, Nat.reduceLeDiff, Nat.reduceBNe, Int.reduceBEq, Int.reduceBNe, Int.reduceLT, Int.reduceLE, Spn.a, Msg.a, Par.a, Nd.a, Seat.a, t8, List.append_nil]
      · simp (maxSteps := 4000000) only [go_sem, ↓reduceIte, reduceCtorEq, Nat.reduceEqDiff, Nat.reduceBEq, Nat.reduceAdd, Nat.reduceSub, Nat.reduceMul, Nat.reduceLT, Nat.reduceLeDiff, Nat.reduceBNe, Int.reduceBEq, Int.reduceBNe, Int.reduceLT, Int.reduceLE, Spn.a, Msg.a, Par.a, Nd.a, Seat.a, h27, List.append_nil]
      · simp (maxSteps := 4000000) only [go_sem, ↓reduceIte, reduceCtorEq, Nat.reduceEqDiff, Nat.reduceBEq, Nat.reduceAdd, Nat.reduceSub, Nat.reduceMul, Nat.reduceLT, Nat.reduceLeDiff, Nat.reduceBNe, Int.reduceBEq, Int.reduceBNe, Int.reduceLT, Int.reduceLE, Spn.a, Msg.a, Par.a, Nd.a, Seat.a]
    by_cases hv : kid.level = x.n.level - 1
    case neg =>
      have hv' : (kid.level != x.n.level - 1) = true := by simp [hv]
      rw [if_neg (fun h => hv h.2)] at hR
      subst hR
      (repeat (first | simp (maxSteps := 4000000) only [go_sem, ↓reduceIte, reduceCtorEq, Nat.reduceEqDiff, Nat.reduceBEq, Nat.reduceAdd, Nat.reduceSub, Nat.reduceMul, Nat.reduceLT, Nat.reduceLeDiff, Nat.reduceBNe, Int.reduceBEq, Int.reduceBNe, Int.reduceLT, Int.reduceLE, Spn.a, Msg.a, Par.a, Nd.a, Seat.a, t0, t8, h27, t9, t10, h10, t11, hltI, hgj, List.length_map, Int.toNat_natCast, hwl, hv'] | refine calling (cf) ?_ | refine callingH (cf) ?_ | refine And.intro (by omega) ?_ | refine And.intro (fun d hd => by (repeat (rcases hd with rfl | hd; · exact ⟨rfl, rfl⟩)); cases hd) ?_))
      refine hRet _ rfl ⟨?_, ?_, ?_⟩
      · simp (maxSteps := 4000000) only [go_sem, ↓reduceIte, reduceCtorEq, Nat.reduceEqDiff, Nat.reduceBEq, Nat.reduceAdd, Nat.reduceSub, Nat.reduceMul, Nat.reduceLT, Nat.reduceLeDiff, Nat.reduceBNe, Int.reduceBEq, Int.reduceBNe, Int.reduceLT, Int.reduceLE, Spn.a, Msg.a, Par.a, Nd.a, Seat.a, t8, List.append_nil]
      · simp (maxSteps := 4000000) only [go_sem, ↓reduceIte, reduceCtorEq, Nat.reduceEqDiff, Nat.reduceBEq, Nat.reduceAdd, Nat.reduceSub, Nat.reduceMul, Nat.reduceLT, Nat.reduceLeDiff, Nat.reduceBNe, Int.reduceBEq, Int.reduceBNe, Int.reduceLT, Int.reduceLE, Spn.a, Msg.a, Par.a, Nd.a, Seat.a, h27, List.append_nil]
      · simp (maxSteps := 4000000) only [go_sem, ↓reduceIte, reduceCtorEq, Nat.reduceEqDiff, Nat.reduceBEq, Nat.reduceAdd, Nat.reduceSub, Nat.reduceMul, Nat.reduceLT, Nat.reduceLeDiff, Nat.reduceBNe, Int.reduceBEq, Int.reduceBNe, Int.reduceLT, Int.reduceLE, Spn.a, Msg.a, Par.a, Nd.a, Seat.a]
    have hv' : (kid.level != x.n.level - 1) = false := by simp [hv]
    rw [if_pos ⟨rfl, hv⟩] at hR
    have hlo : (out ++ done).length ≤ 110000 := by rw [List.length_append]; have := hlt.nkid; omega
    have hoa : (out ++ (done ++ [(⟨kid, ns, mm⟩ : Seat)])) = (out ++ done) ++ [(⟨kid, ns, mm⟩ : Seat)] := by rw [List.append_assoc]
    have hR' : ((done ++ [(⟨kid, ns, mm⟩ : Seat)]) ++ (kidsGo l x (j + 1) (x.n.kids.drop (j + 1))).1, (kidsGo l x (j + 1) (x.n.kids.drop (j + 1))).2) = R := by rw [List.append_assoc]; exact hR
    have hta := ht (out ++ done)
    have hca := htm ca
    have hcb := htm cb
    have hmm := htm mm
    clear ht htm hR
    generalize hod : out ++ done = od at *
    (repeat (first | simp (maxSteps := 4000000) only [go_sem, ↓reduceIte, reduceCtorEq, Nat.reduceEqDiff, Nat.reduceBEq, Nat.reduceAdd, Nat.reduceSub, Nat.reduceMul, Nat.reduceLT, Nat.reduceLeDiff, Nat.reduceBNe, Int.reduceBEq, Int.reduceBNe, Int.reduceLT, Int.reduceLE, Spn.a, Msg.a, Par.a, Nd.a, Seat.a, t0, t8, h27, t9, t10, h10, t11, hltI, hgj, List.length_map, Int.toNat_natCast, hwl, hv', hw, hta, hca, hcb, hmm] | refine calling (cf) ?_ | refine callingH (cf) ?_ | refine calling (cr) ?_ | refine callingH (cr) ?_ | refine calling (cm) ?_ | refine callingH (cm) ?_ | refine calling (c1) ?_ | refine callingH (c1) ?_ | refine calling (c2) ?_ | refine callingH (c2) ?_ | refine calling (c3) ?_ | refine callingH (c3) ?_ | refine And.intro (by omega) ?_ | refine And.intro (fun d hd => by (repeat (rcases hd with rfl | hd; · exact ⟨rfl, rfl⟩)); cases hd) ?_ | refine And.intro (And.intro (by omega) (fun d hd => by (repeat (rcases hd with rfl | hd; · exact ⟨rfl, rfl⟩)); cases hd)) ?_))
    refine ⟨x.n.kids.length - (j + 1), by omega, j + 1, done ++ [⟨kid, ns, mm⟩], by omega, rfl, by simp; omega, ?_, ?_, ?_, ?_, ?_, ?_, ?_, hR'⟩
    · simp (maxSteps := 4000000) only [go_sem, ↓reduceIte, reduceCtorEq, Nat.reduceEqDiff, Nat.reduceBEq, Nat.reduceAdd, Nat.reduceSub, Nat.reduceMul, Nat.reduceLT, Nat.reduceLeDiff, Nat.reduceBNe, Int.reduceBEq, Int.reduceBNe, Int.reduceLT, Int.reduceLE, Spn.a, Msg.a, Par.a, Nd.a, Seat.a, t0]
    · rw [hoa]
      simp (maxSteps := 4000000) only [go_sem, ↓reduceIte, reduceCtorEq, Nat.reduceEqDiff, Nat.reduceBEq, Nat.reduceAdd, Nat.reduceSub, Nat.reduceMul, Nat.reduceLT, Nat.reduceLeDiff, Nat.reduceBNe, Int.reduceBEq, Int.reduceBNe, Int.reduceLT, Int.reduceLE, Spn.a, Msg.a, Par.a, Nd.a, Seat.a, List.length_append, List.length_cons, List.length_nil]
    · rw [hoa]
      simp (maxSteps := 4000000) only [go_sem, ↓reduceIte, reduceCtorEq, Nat.reduceEqDiff, Nat.reduceBEq, Nat.reduceAdd, Nat.reduceSub, Nat.reduceMul, Nat.reduceLT, Nat.reduceLeDiff, Nat.reduceBNe, Int.reduceBEq, Int.reduceBNe, Int.reduceLT, Int.reduceLE, Spn.a, Msg.a, Par.a, Nd.a, Seat.a, List.map_append, List.map_cons, List.map_nil, hta]
    · simp (maxSteps := 4000000) only [go_sem, ↓reduceIte, reduceCtorEq, Nat.reduceEqDiff, Nat.reduceBEq, Nat.reduceAdd, Nat.reduceSub, Nat.reduceMul, Nat.reduceLT, Nat.reduceLeDiff, Nat.reduceBNe, Int.reduceBEq, Int.reduceBNe, Int.reduceLT, Int.reduceLE, Spn.a, Msg.a, Par.a, Nd.a, Seat.a, t9]
    · simp (maxSteps := 4000000) only [go_sem, ↓reduceIte, reduceCtorEq, Nat.reduceEqDiff, Nat.reduceBEq, Nat.reduceAdd, Nat.reduceSub, Nat.reduceMul, Nat.reduceLT, Nat.reduceLeDiff, Nat.reduceBNe, Int.reduceBEq, Int.reduceBNe, Int.reduceLT, Int.reduceLE, Spn.a, Msg.a, Par.a, Nd.a, Seat.a, t10]
    · simp (maxSteps := 4000000) only [go_sem, ↓reduceIte, reduceCtorEq, Nat.reduceEqDiff, Nat.reduceBEq, Nat.reduceAdd, Nat.reduceSub, Nat.reduceMul, Nat.reduceLT, Nat.reduceLeDiff, Nat.reduceBNe, Int.reduceBEq, Int.reduceBNe, Int.reduceLT, Int.reduceLE, Spn.a, Msg.a, Par.a, Nd.a, Seat.a, h10]
    · simp (maxSteps := 4000000) only [go_sem, ↓reduceIte, reduceCtorEq, Nat.reduceEqDiff, Nat.reduceBEq, Nat.reduceAdd, Nat.reduceSub, Nat.reduceMul, Nat.reduceLT, Nat.reduceLeDiff, Nat.reduceBNe, Int.reduceBEq, Int.reduceBNe, Int.reduceLT, Int.reduceLE, Spn.a, Msg.a, Par.a, Nd.a, Seat.a, hw]
  · have hltI : ¬ (j : Int) < (x.n.kids.length : Int) := by omega
    rw [List.drop_eq_nil_of_le (by omega), kidsGo, List.append_nil] at hR
    subst hR
    simp (maxSteps := 4000000) only [go_sem, ↓reduceIte, reduceCtorEq, Nat.reduceEqDiff, Nat.reduceBEq, Nat.reduceAdd, Nat.reduceSub, Nat.reduceMul, Nat.reduceLT, Nat.reduceLeDiff, Nat.reduceBNe, Int.reduceBEq, Int.reduceBNe, Int.reduceLT, Int.reduceLE, Spn.a, Msg.a, Par.a, Nd.a, Seat.a, t0, t8, h27, t9, t10, h10, t11, hltI, List.length_map]
    refine hEnd _ rfl ⟨?_, ?_, ?_, ?_⟩
    · simp (maxSteps := 4000000) only [go_sem, ↓reduceIte, reduceCtorEq, Nat.reduceEqDiff, Nat.reduceBEq, Nat.reduceAdd, Nat.reduceSub, Nat.reduceMul, Nat.reduceLT, Nat.reduceLeDiff, Nat.reduceBNe, Int.reduceBEq, Int.reduceBNe, Int.reduceLT, Int.reduceLE, Spn.a, Msg.a, Par.a, Nd.a, Seat.a, t0]
    · simp (maxSteps := 4000000) only [go_sem, ↓reduceIte, reduceCtorEq, Nat.reduceEqDiff, Nat.reduceBEq, Nat.reduceAdd, Nat.reduceSub, Nat.reduceMul, Nat.reduceLT, Nat.reduceLeDiff, Nat.reduceBNe, Int.reduceBEq, Int.reduceBNe, Int.reduceLT, Int.reduceLE, Spn.a, Msg.a, Par.a, Nd.a, Seat.a, t8]
    · simp (maxSteps := 4000000) only [go_sem, ↓reduceIte, reduceCtorEq, Nat.reduceEqDiff, Nat.reduceBEq, Nat.reduceAdd, Nat.reduceSub, Nat.reduceMul, Nat.reduceLT, Nat.reduceLeDiff, Nat.reduceBNe, Int.reduceBEq, Int.reduceBNe, Int.reduceLT, Int.reduceLE, Spn.a, Msg.a, Par.a, Nd.a, Seat.a, h27]
    · simp (maxSteps := 4000000) only [go_sem, ↓reduceIte, reduceCtorEq, Nat.reduceEqDiff, Nat.reduceBEq, Nat.reduceAdd, Nat.reduceSub, Nat.reduceMul, Nat.reduceLT, Nat.reduceLeDiff, Nat.reduceBNe, Int.reduceBEq, Int.reduceBNe, Int.reduceLT, Int.reduceLE, Spn.a, Msg.a, Par.a, Nd.a, Seat.a, t9]
theorem SeatOk.mono {x : Seat} {b c : Nat} (h : SeatOk x b) (hb : b ≤ c) : SeatOk x c := ⟨h.lt, h.s, h.ms, Nat.le_trans h.nms hb⟩
theorem kidsGo_ok {l : List Nd} {x : Seat} {b : Nat} (hn : ∀ n, n ∈ l → n.Lt) (h : SeatOk x b) : ∀ (ks : List Int) (j : Nat), (kidsGo l x j ks).1.length ≤ ks.length ∧ ∀ y, y ∈ (kidsGo l x j ks).1 → SeatOk y (b + 2000)
  | [], j => ⟨Nat.le_refl _, fun y hy => by cases hy⟩
  | k :: ks, j => by
    rw [kidsGo]
    split
    · obtain ⟨r1, r2⟩ := kidsGo_ok hn h ks (j + 1)
      refine ⟨Nat.succ_le_succ r1, fun y hy => ?_⟩
      rcases List.mem_cons.1 hy with rfl | hy
      · exact kidSeat_ok h j (findF_lt hn k)
      · exact r2 y hy
    · exact ⟨Nat.zero_le _, fun y hy => by cases hy⟩
def SeatsOk (out : List Seat) : Prop := ∀ (i : Nat) (x : Seat), out[i]? = some x → SeatOk x (2000 * i)
theorem seatsOk_app {l : List Nd} {out : List Seat} {x : Seat} {i : Nat} (hn : ∀ n, n ∈ l → n.Lt) (h : SeatsOk out) (hx : out[i]? = some x) (ks : List Int) : SeatsOk (out ++ (kidsGo l x 0 ks).1) := by
  intro k y hy
  rcases Nat.lt_or_ge k out.length with hk | hk
  · rw [List.getElem?_append_left hk] at hy
    exact h k y hy
  · rw [List.getElem?_append_right hk] at hy
    have hi := (List.getElem?_eq_some_iff.1 hx).1
    exact ((kidsGo_ok hn (h i x hx) ks 0).2 y (List.mem_of_getElem? hy)).mono (by omega)
def stInv (l : List Nd) (R : List Seat × Bool) (k : Nat) (σ : St) : Prop :=
  ∃ (i : Nat) (out : List Seat), i ≤ l.length ∧ k = l.length + 1 - i ∧ stEnd l i out σ ∧ seatsGo l (l.length + 1 - i) out i = R ∧ SeatsOk out ∧ out.length ≤ 10000
set_option maxHeartbeats 4000000 in
theorem seats_ok (l : List Nd) (root : Int) (hl : l.length ≤ 200) (hn : ∀ n, n ∈ l → n.Lt) : AFn Try.prog 12 [.sl (l.map Nd.a), .int .i64 root] (.tup [.sl ((seatsF l root).1.map Seat.a), .bool (seatsF l root).2]) := by
  refine fn_seats rfl ?_
  have cf := find_ok l root (by omega)
  have fl := findF_lt hn root
  have ht : ∀ o : List Seat, List.take o.length (o.map Seat.a) = o.map Seat.a := fun o => List.take_of_length_le (by rw [List.length_map]; exact Nat.le_refl _)
  unfold seatsF
  generalize (findF l root).1 = nd at *
  generalize (findF l root).2 = is at *
  cases is
  · rw [if_neg (by simp)]
    (repeat (first | simp (maxSteps := 4000000) only [go_sem, ↓reduceIte, reduceCtorEq, Nat.reduceEqDiff, Nat.reduceBEq, Nat.reduceAdd, Nat.reduceSub, Nat.reduceMul, Nat.reduceLT, Nat.reduceLeDiff, Nat.reduceBNe, Int.reduceBEq, Int.reduceBNe, Int.reduceLT, Int.reduceLE, Spn.a, Msg.a, Par.a, Nd.a, Seat.a] | refine calling (cf) ?_ | refine callingH (cf) ?_ | refine And.intro (by omega) ?_ | refine And.intro (fun d hd => by (repeat (rcases hd with rfl | hd; · exact ⟨rfl, rfl⟩)); cases hd) ?_))
    all_goals first | rfl | exact ⟨rfl, rfl⟩
  rw [if_pos rfl]
  have h0 : SeatsOk [(⟨nd, ⟨nul0, nul0, true⟩, []⟩ : Seat)] := by
    intro i x hx
    cases i with
    | zero => cases hx; exact ⟨fl, ⟨Nat.zero_le _, Nat.zero_le _⟩, fun m hm => (by cases hm), Nat.zero_le _⟩
    | succ i => simp at hx
  obtain ⟨R, hR⟩ : ∃ R, seatsGo l (l.length + 1) [(⟨nd, ⟨nul0, nul0, true⟩, []⟩ : Seat)] 0 = R := ⟨_, rfl⟩
  rw [hR]
  (repeat (first | simp (maxSteps := 4000000) only [go_sem, ↓reduceIte, reduceCtorEq, Nat.reduceEqDiff, Nat.reduceBEq, Nat.reduceAdd, Nat.reduceSub, Nat.reduceMul, Nat.reduceLT, Nat.reduceLeDiff, Nat.reduceBNe, Int.reduceBEq, Int.reduceBNe, Int.reduceLT, Int.reduceLE, Spn.a, Msg.a, Par.a, Nd.a, Seat.a] | refine calling (cf) ?_ | refine callingH (cf) ?_ | refine And.intro (by omega) ?_ | refine And.intro (fun d hd => by (repeat (rcases hd with rfl | hd; · exact ⟨rfl, rfl⟩)); cases hd) ?_))
  refine run_loop (stInv l R) (k := l.length + 1) ⟨0, [⟨nd, ⟨nul0, nul0, true⟩, []⟩], by omega, rfl, ⟨?_, ?_, ?_, ?_⟩, hR, h0, by simp⟩ ?_
  · simp (maxSteps := 4000000) only [go_sem, ↓reduceIte, reduceCtorEq, Nat.reduceEqDiff, Nat.reduceBEq, Nat.reduceAdd, Nat.reduceSub, Nat.reduceMul, Nat.reduceLT, Nat.reduceLeDiff, Nat.reduceBNe, Int.reduceBEq, Int.reduceBNe, Int.reduceLT, Int.reduceLE, Spn.a, Msg.a, Par.a, Nd.a, Seat.a]
  · (simp (maxSteps := 4000000) only [go_sem, ↓reduceIte, reduceCtorEq, Nat.reduceEqDiff, Nat.reduceBEq, Nat.reduceAdd, Nat.reduceSub, Nat.reduceMul, Nat.reduceLT, Nat.reduceLeDiff, Nat.reduceBNe, Int.reduceBEq, Int.reduceBNe, Int.reduceLT, Int.reduceLE, Spn.a, Msg.a, Par.a, Nd.a, Seat.a]) <;> rfl
  · (simp (maxSteps := 4000000) only [go_sem, ↓reduceIte, reduceCtorEq, Nat.reduceEqDiff, Nat.reduceBEq, Nat.reduceAdd, Nat.reduceSub, Nat.reduceMul, Nat.reduceLT, Nat.reduceLeDiff, Nat.reduceBNe, Int.reduceBEq, Int.reduceBNe, Int.reduceLT, Int.reduceLE, Spn.a, Msg.a, Par.a, Nd.a, Seat.a]) <;> rfl
  · (simp (maxSteps := 4000000) only [go_sem, ↓reduceIte, reduceCtorEq, Nat.reduceEqDiff, Nat.reduceBEq, Nat.reduceAdd, Nat.reduceSub, Nat.reduceMul, Nat.reduceLT, Nat.reduceLeDiff, Nat.reduceBNe, Int.reduceBEq, Int.reduceBNe, Int.reduceLT, Int.reduceLE, Spn.a, Msg.a, Par.a, Nd.a, Seat.a]) <;> rfl
  clear hR h0
  rintro k σ ⟨i, out, hi, rfl, ⟨t0, t8, h27, t9⟩, hR, hok, hlen⟩
  simp only [r_seats_l24]
  obtain ⟨f, hf⟩ : ∃ f, l.length + 1 - i = f + 1 := ⟨l.length - i, by omega⟩
  rw [hf, seatsGo] at hR
  have hta := ht out
  by_cases hlt : i < out.length
  case neg =>
    have hlt' : ¬ (i : Int) < (out.length : Int) := by omega
    rw [List.getElem?_eq_none (by omega)] at hR
    subst hR
    simp (maxSteps := 4000000) only [go_sem, ↓reduceIte, reduceCtorEq, Nat.reduceEqDiff, Nat.reduceBEq, Nat.reduceAdd, Nat.reduceSub, Nat.reduceMul, Nat.reduceLT, Nat.reduceLeDiff, Nat.reduceBNe, Int.reduceBEq, Int.reduceBNe, Int.reduceLT, Int.reduceLE, Spn.a, Msg.a, Par.a, Nd.a, Seat.a, t0, t8, h27, t9, hlt', hta]
  have hlt' : (i : Int) < (out.length : Int) := by omega
  obtain ⟨x, hx⟩ := get_lt hlt
  have xok := hok i x hx
  rw [hx] at hR
  simp only at hR
  have hgx := at_map (f := Seat.a) hx
  have hgx' : (out.map Seat.a)[i]? = some x.a := by rw [List.getElem?_map, hx]; rfl
  simp only [Seat.a] at hgx' hgx
  have hw := wrapS (j := i) (by omega)
  by_cases hbig : l.length < out.length
  · have hbig' : (l.length : Int) < (out.length : Int) := by omega
    rw [if_pos hbig] at hR
    subst hR
    simp (maxSteps := 4000000) only [go_sem, ↓reduceIte, reduceCtorEq, Nat.reduceEqDiff, Nat.reduceBEq, Nat.reduceAdd, Nat.reduceSub, Nat.reduceMul, Nat.reduceLT, Nat.reduceLeDiff, Nat.reduceBNe, Int.reduceBEq, Int.reduceBNe, Int.reduceLT, Int.reduceLE, Spn.a, Msg.a, Par.a, Nd.a, Seat.a, t0, t8, h27, t9, hlt', hta, hgx, hgx', hbig', List.length_map, Int.toNat_natCast, Nat.zero_add]
    all_goals omega
  have hbig' : ¬ (l.length : Int) < (out.length : Int) := by omega
  rw [if_neg hbig] at hR
  by_cases hz : x.n.level = 0
  · have hz' : (x.n.level == 0) = true := by simp [hz]
    rw [if_pos hz] at hR
    simp (maxSteps := 4000000) only [go_sem, ↓reduceIte, reduceCtorEq, Nat.reduceEqDiff, Nat.reduceBEq, Nat.reduceAdd, Nat.reduceSub, Nat.reduceMul, Nat.reduceLT, Nat.reduceLeDiff, Nat.reduceBNe, Int.reduceBEq, Int.reduceBNe, Int.reduceLT, Int.reduceLE, Spn.a, Msg.a, Par.a, Nd.a, Seat.a, t0, t8, h27, t9, hlt', hta, hgx, hgx', hbig', hz', hw, List.length_map, Int.toNat_natCast, Nat.zero_add]
    (repeat refine And.intro (by omega) ?_)
    refine ⟨l.length + 1 - (i + 1), by omega, i + 1, out, by omega, rfl, ⟨?_, ?_, ?_, ?_⟩, by rw [show l.length + 1 - (i + 1) = f by omega]; exact hR, hok, hlen⟩
    · simp (maxSteps := 4000000) only [go_sem, ↓reduceIte, reduceCtorEq, Nat.reduceEqDiff, Nat.reduceBEq, Nat.reduceAdd, Nat.reduceSub, Nat.reduceMul, Nat.reduceLT, Nat.reduceLeDiff, Nat.reduceBNe, Int.reduceBEq, Int.reduceBNe, Int.reduceLT, Int.reduceLE, Spn.a, Msg.a, Par.a, Nd.a, Seat.a, t0]
    · simp (maxSteps := 4000000) only [go_sem, ↓reduceIte, reduceCtorEq, Nat.reduceEqDiff, Nat.reduceBEq, Nat.reduceAdd, Nat.reduceSub, Nat.reduceMul, Nat.reduceLT, Nat.reduceLeDiff, Nat.reduceBNe, Int.reduceBEq, Int.reduceBNe, Int.reduceLT, Int.reduceLE, Spn.a, Msg.a, Par.a, Nd.a, Seat.a, t8]
    · simp (maxSteps := 4000000) only [go_sem, ↓reduceIte, reduceCtorEq, Nat.reduceEqDiff, Nat.reduceBEq, Nat.reduceAdd, Nat.reduceSub, Nat.reduceMul, Nat.reduceLT, Nat.reduceLeDiff, Nat.reduceBNe, Int.reduceBEq, Int.reduceBNe, Int.reduceLT, Int.reduceLE, Spn.a, Msg.a, Par.a, Nd.a, Seat.a, h27]
    · simp (maxSteps := 4000000) only [go_sem, ↓reduceIte, reduceCtorEq, Nat.reduceEqDiff, Nat.reduceBEq, Nat.reduceAdd, Nat.reduceSub, Nat.reduceMul, Nat.reduceLT, Nat.reduceLeDiff, Nat.reduceBNe, Int.reduceBEq, Int.reduceBNe, Int.reduceLT, Int.reduceLE, Spn.a, Msg.a, Par.a, Nd.a, Seat.a, hw]
  have hz' : (x.n.level == 0) = false := by simp [hz]
  rw [if_neg hz] at hR
  have ck := right15_ok x.n.pivots x.n.kids (by have := xok.lt.npiv; omega) (fun y hy => by have := xok.lt.piv y hy; omega)
  by_cases hneg : x.n.level < 0
  · rw [if_pos (.inl hneg)] at hR
    subst hR
    (repeat (first | simp (maxSteps := 4000000) only [go_sem, ↓reduceIte, reduceCtorEq, Nat.reduceEqDiff, Nat.reduceBEq, Nat.reduceAdd, Nat.reduceSub, Nat.reduceMul, Nat.reduceLT, Nat.reduceLeDiff, Nat.reduceBNe, Int.reduceBEq, Int.reduceBNe, Int.reduceLT, Int.reduceLE, Spn.a, Msg.a, Par.a, Nd.a, Seat.a, t0, t8, h27, t9, hlt', hta, hgx, hgx', hbig', hz', hneg, List.length_map, Int.toNat_natCast, Nat.zero_add] | refine calling (ck) ?_ | refine callingH (ck) ?_ | refine And.intro (by omega) ?_ | refine And.intro (fun d hd => by (repeat (rcases hd with rfl | hd; · exact ⟨rfl, rfl⟩)); cases hd) ?_))
    all_goals omega
  cases hrk : rightK x.n.pivots x.n.kids
  · rw [if_pos (.inr hrk)] at hR
    subst hR
    rw [hrk] at ck
    (repeat (first | simp (maxSteps := 4000000) only [go_sem, ↓reduceIte, reduceCtorEq, Nat.reduceEqDiff, Nat.reduceBEq, Nat.reduceAdd, Nat.reduceSub, Nat.reduceMul, Nat.reduceLT, Nat.reduceLeDiff, Nat.reduceBNe, Int.reduceBEq, Int.reduceBNe, Int.reduceLT, Int.reduceLE, Spn.a, Msg.a, Par.a, Nd.a, Seat.a, t0, t8, h27, t9, hlt', hta, hgx, hgx', hbig', hz', hneg, List.length_map, Int.toNat_natCast, Nat.zero_add] | refine calling (ck) ?_ | refine callingH (ck) ?_ | refine And.intro (by omega) ?_ | refine And.intro (fun d hd => by (repeat (rcases hd with rfl | hd; · exact ⟨rfl, rfl⟩)); cases hd) ?_))
    all_goals omega
  rw [if_neg (by rintro (h | h); exact hneg h; rw [hrk] at h; cases h)] at hR
  rw [hrk] at ck
  have hkl : x.n.kids.length = x.n.pivots.length + 1 := by
    unfold rightK at hrk
    rw [Bool.and_eq_true, decide_eq_true_eq] at hrk
    exact hrk.2
  (repeat (first | simp (maxSteps := 4000000) only [go_sem, ↓reduceIte, reduceCtorEq, Nat.reduceEqDiff, Nat.reduceBEq, Nat.reduceAdd, Nat.reduceSub, Nat.reduceMul, Nat.reduceLT, Nat.reduceLeDiff, Nat.reduceBNe, Int.reduceBEq, Int.reduceBNe, Int.reduceLT, Int.reduceLE, Spn.a, Msg.a, Par.a, Nd.a, Seat.a, t0, t8, h27, t9, hlt', hta, hgx, hgx', hbig', hz', hneg, List.length_map, Int.toNat_natCast, Nat.zero_add] | refine calling (ck) ?_ | refine callingH (ck) ?_ | refine And.intro (by omega) ?_ | refine And.intro (fun d hd => by (repeat (rcases hd with rfl | hd; · exact ⟨rfl, rfl⟩)); cases hd) ?_))
  have hkg := kidsGo_ok hn xok x.n.kids 0
  have hap := seatsOk_app hn hok hx x.n.kids
  have hta2 := ht (out ++ (kidsGo l x 0 x.n.kids).1)
  have hnk := xok.lt.nkid
  refine run_loop (kdInv l x i out (kidsGo l x 0 x.n.kids)) (k := x.n.kids.length) ⟨0, [], by omega, rfl, rfl, ?_, ?_, ?_, ?_, ?_, ?_, ?_, rfl⟩ (kids_step _ l x (2000 * i) i out (kidsGo l x 0 x.n.kids) (by omega) hn xok (by omega) (by omega) hkl (by omega) ?_ ?_)
  · simp (maxSteps := 4000000) only [go_sem, ↓reduceIte, reduceCtorEq, Nat.reduceEqDiff, Nat.reduceBEq, Nat.reduceAdd, Nat.reduceSub, Nat.reduceMul, Nat.reduceLT, Nat.reduceLeDiff, Nat.reduceBNe, Int.reduceBEq, Int.reduceBNe, Int.reduceLT, Int.reduceLE, Spn.a, Msg.a, Par.a, Nd.a, Seat.a, t0]
  · simp (maxSteps := 4000000) only [go_sem, ↓reduceIte, reduceCtorEq, Nat.reduceEqDiff, Nat.reduceBEq, Nat.reduceAdd, Nat.reduceSub, Nat.reduceMul, Nat.reduceLT, Nat.reduceLeDiff, Nat.reduceBNe, Int.reduceBEq, Int.reduceBNe, Int.reduceLT, Int.reduceLE, Spn.a, Msg.a, Par.a, Nd.a, Seat.a, t8, List.append_nil]
  · simp (maxSteps := 4000000) only [go_sem, ↓reduceIte, reduceCtorEq, Nat.reduceEqDiff, Nat.reduceBEq, Nat.reduceAdd, Nat.reduceSub, Nat.reduceMul, Nat.reduceLT, Nat.reduceLeDiff, Nat.reduceBNe, Int.reduceBEq, Int.reduceBNe, Int.reduceLT, Int.reduceLE, Spn.a, Msg.a, Par.a, Nd.a, Seat.a, h27, List.append_nil]
  · simp (maxSteps := 4000000) only [go_sem, ↓reduceIte, reduceCtorEq, Nat.reduceEqDiff, Nat.reduceBEq, Nat.reduceAdd, Nat.reduceSub, Nat.reduceMul, Nat.reduceLT, Nat.reduceLeDiff, Nat.reduceBNe, Int.reduceBEq, Int.reduceBNe, Int.reduceLT, Int.reduceLE, Spn.a, Msg.a, Par.a, Nd.a, Seat.a, t9]
  · simp (maxSteps := 4000000) only [go_sem, ↓reduceIte, reduceCtorEq, Nat.reduceEqDiff, Nat.reduceBEq, Nat.reduceAdd, Nat.reduceSub, Nat.reduceMul, Nat.reduceLT, Nat.reduceLeDiff, Nat.reduceBNe, Int.reduceBEq, Int.reduceBNe, Int.reduceLT, Int.reduceLE, Spn.a, Msg.a, Par.a, Nd.a, Seat.a]
  · simp (maxSteps := 4000000) only [go_sem, ↓reduceIte, reduceCtorEq, Nat.reduceEqDiff, Nat.reduceBEq, Nat.reduceAdd, Nat.reduceSub, Nat.reduceMul, Nat.reduceLT, Nat.reduceLeDiff, Nat.reduceBNe, Int.reduceBEq, Int.reduceBNe, Int.reduceLT, Int.reduceLE, Spn.a, Msg.a, Par.a, Nd.a, Seat.a]
  · (simp (maxSteps := 4000000) only [go_sem, ↓reduceIte, reduceCtorEq, Nat.reduceEqDiff, Nat.reduceBEq, Nat.reduceAdd, Nat.reduceSub, Nat.reduceMul, Nat.reduceLT, Nat.reduceLeDiff, Nat.reduceBNe, Int.reduceBEq, Int.reduceBNe, Int.reduceLT, Int.reduceLE, Spn.a, Msg.a, Par.a, Nd.a, Seat.a]) <;> rfl
  · rintro σ h2 ⟨t0, t8, h27, t9⟩
    rw [if_pos h2] at hR
    generalize hoo : out ++ (kidsGo l x 0 x.n.kids).1 = oo at *
    have hol : oo.length ≤ 10000 := by rw [← hoo, List.length_append]; omega
    simp (maxSteps := 4000000) only [go_sem, ↓reduceIte, reduceCtorEq, Nat.reduceEqDiff, Nat.reduceBEq, Nat.reduceAdd, Nat.reduceSub, Nat.reduceMul, Nat.reduceLT, Nat.reduceLeDiff, Nat.reduceBNe, Int.reduceBEq, Int.reduceBNe, Int.reduceLT, Int.reduceLE, Spn.a, Msg.a, Par.a, Nd.a, Seat.a, t0, t8, h27, t9, hw]
    refine ⟨l.length + 1 - (i + 1), by omega, i + 1, oo, by omega, rfl, ⟨?_, ?_, ?_, ?_⟩, by rw [show l.length + 1 - (i + 1) = f by omega]; exact hR, hap, hol⟩
    · simp (maxSteps := 4000000) only [go_sem, ↓reduceIte, reduceCtorEq, Nat.reduceEqDiff, Nat.reduceBEq, Nat.reduceAdd, Nat.reduceSub, Nat.reduceMul, Nat.reduceLT, Nat.reduceLeDiff, Nat.reduceBNe, Int.reduceBEq, Int.reduceBNe, Int.reduceLT, Int.reduceLE, Spn.a, Msg.a, Par.a, Nd.a, Seat.a, t0]
    · simp (maxSteps := 4000000) only [go_sem, ↓reduceIte, reduceCtorEq, Nat.reduceEqDiff, Nat.reduceBEq, Nat.reduceAdd, Nat.reduceSub, Nat.reduceMul, Nat.reduceLT, Nat.reduceLeDiff, Nat.reduceBNe, Int.reduceBEq, Int.reduceBNe, Int.reduceLT, Int.reduceLE, Spn.a, Msg.a, Par.a, Nd.a, Seat.a, t8]
    · simp (maxSteps := 4000000) only [go_sem, ↓reduceIte, reduceCtorEq, Nat.reduceEqDiff, Nat.reduceBEq, Nat.reduceAdd, Nat.reduceSub, Nat.reduceMul, Nat.reduceLT, Nat.reduceLeDiff, Nat.reduceBNe, Int.reduceBEq, Int.reduceBNe, Int.reduceLT, Int.reduceLE, Spn.a, Msg.a, Par.a, Nd.a, Seat.a, h27]
    · simp (maxSteps := 4000000) only [go_sem, ↓reduceIte, reduceCtorEq, Nat.reduceEqDiff, Nat.reduceBEq, Nat.reduceAdd, Nat.reduceSub, Nat.reduceMul, Nat.reduceLT, Nat.reduceLeDiff, Nat.reduceBNe, Int.reduceBEq, Int.reduceBNe, Int.reduceLT, Int.reduceLE, Spn.a, Msg.a, Par.a, Nd.a, Seat.a, hw]
  · rintro σ h2 ⟨t4, h27, t5⟩
    rw [if_neg (by rw [h2]; simp)] at hR
    subst hR
    simp (maxSteps := 4000000) only [go_sem, ↓reduceIte, reduceCtorEq, Nat.reduceEqDiff, Nat.reduceBEq, Nat.reduceAdd, Nat.reduceSub, Nat.reduceMul, Nat.reduceLT, Nat.reduceLeDiff, Nat.reduceBNe, Int.reduceBEq, Int.reduceBNe, Int.reduceLT, Int.reduceLE, Spn.a, Msg.a, Par.a, Nd.a, Seat.a, t4, h27, t5, hta2]
end
end Go.Proofs.Ythfdbjocpicbmaa
