/-
  Part 10 of a proof: LoC, LoD.
-/
import Derived.Test.YthfdbjocpicbmaaLO9
namespace Go.Proofs.Ythfdbjocpicbmaa
attribute [local go_sem] ev0 ev1 ev2 ev3 ev4 evA stHOk.eq_1 stHOk.eq_2 stHSt.eq_1 stHSt.eq_2 okV valV fzV okF valF okBld valBld mxOk.eq_1 mxOk.eq_2 mxVal.eq_1 mxVal.eq_2 cellFit.eq_1 cellFit.eq_2 cellFit.eq_3 cellEq.eq_1 cellEq.eq_2 cellEq.eq_3 upd_at AV.flatB AV.flatBs binIok binIV binSok binSV cellsOk.eq_1 cellsOk.eq_2 cellsVal.eq_1 cellsVal.eq_2 objCells.eq_1 objCells.eq_2 objZ.eq_1 objZ.eq_2 objProt.eq_1 objProt.eq_2 oneObj ptrOk.eq_1 ptrOk.eq_2 ptrOk.eq_3 ptrCells.eq_1 ptrCells.eq_2 ptrCells.eq_3 lenOk.eq_1 lenOk.eq_2 lenOk.eq_3 lenOk.eq_4 lenVal.eq_1 lenVal.eq_2 lenVal.eq_3 lenVal.eq_4 faOk.eq_1 faOk.eq_2 faOk.eq_3 faVal.eq_1 faVal.eq_2 faVal.eq_3 iaOk.eq_1 iaOk.eq_2 iaOk.eq_3 iaVal.eq_1 iaVal.eq_2 iaVal.eq_3 slcLen.eq_1 slcLen.eq_2 slcLen.eq_3 slcLen.eq_4 bdOk.eq_1 bdOk.eq_2 bdVal.eq_1 bdVal.eq_2 slcOk.eq_1 slcOk.eq_2 slcOk.eq_3 slcOk.eq_4 slcVal.eq_1 slcVal.eq_2 slcVal.eq_3 slcVal.eq_4 slcFz.eq_1 slcFz.eq_2 loK.eq_1 loK.eq_2 loK.eq_3 rsVal.eq_1 rsVal.eq_2 rsVal.eq_3 byOk.eq_1 byOk.eq_2 byOk.eq_3 byOk.eq_4 byOk.eq_5 byOk.eq_6 byOk.eq_7 byOk.eq_8 byVal.eq_1 byVal.eq_2 byVal.eq_3 byFz.eq_1 byFz.eq_2 byFz.eq_3 byOks byVals byFzs allOne resSt.eq_1 resSt.eq_2 resName.eq_1 resName.eq_2 stOk.eq_1 stOk.eq_2 stArr.eq_1 stArr.eq_2 stSt.eq_1 stSt.eq_2 AV.patch nameOk_none gB.eq_1 gB.eq_2 gB.eq_3 gIs.eq_1 gIs.eq_2 gIs.eq_3 retV resV resVs evalV cellsV St.byval List.getD_cons_zero List.getD_cons_succ List.getD_nil List.map_cons List.map_nil List.length_cons List.length_nil List.take_succ_cons List.take_zero List.drop_succ_cons List.drop_zero List.headD_cons List.set_cons_zero List.append_nil List.nil_append List.cons_append List.contains_cons List.contains_nil List.elem_cons List.elem_nil List.all_cons List.all_nil List.getElem?_cons_zero List.getElem?_cons_succ List.filterMap_cons List.filterMap_nil Option.isSome_some Option.isSome_none Option.map_some Option.map_none Option.some.injEq AV.int.injEq AV.bool.injEq AV.str.injEq AV.tup.injEq AV.agg.injEq AV.sl.injEq List.cons.injEq Bool.false_eq_true Bool.true_eq_false Bool.not_true Bool.not_false Bool.and_true Bool.true_and Bool.or_false Bool.or_true Bool.false_or Bool.true_or Bool.or_self Bool.and_self Bool.not_eq_true' Bool.not_eq_false' Bool.not_not beq_self_eq_true true_and and_true false_and and_false and_self not_true_eq_false not_false_eq_true forall_const true_implies false_implies implies_true imp_self Nat.lt_add_one Nat.le_refl Nat.zero_le Nat.add_zero Nat.zero_add decide_true decide_false decide_eq_true_eq decide_eq_false_iff_not exists_eq_left exists_eq_left' ge_iff_le gt_iff_lt ite_branch ite_branch' nilOk.eq_1 nilOk.eq_2 nilMay.eq_1 nilMay.eq_2 AV.isSl.eq_1 objTy'.eq_1 objTy'.eq_2 apSt.eq_1 apArr.eq_1 apArr.eq_2 apTwo.eq_1 apTwo.eq_2 apSt2.eq_1 apArr2.eq_1 apArr2.eq_2 slOf.eq_1 fitsV List.mem_cons List.not_mem_nil Bool.false_and Bool.and_false primOk.eq_1 primOk.eq_2 primOk.eq_3 primOk.eq_4 primOk.eq_5 primVal.eq_1 primVal.eq_2 primVal.eq_3 primVal.eq_4 primVal.eq_5 mOk.eq_1 mOk.eq_2 mVal.eq_1 mVal.eq_2 mFz.eq_1 mFz.eq_2 mOks mVals mFzs mCalOk.eq_1 mCalOk.eq_2 mFn.eq_1 mFn.eq_2 mArgs.eq_1 mArgs.eq_2 ckOk.eq_1 ckOk.eq_2 cloOk.eq_1 ptrAt.eq_1 sh.eq_1 sh.eq_2 sh.eq_3 sh.eq_4 sh.eq_5 sh.eq_6 retM shH_small evM entOk.eq_1 entOk.eq_2 ents.eq_1 ents.eq_2 kI.eq_1 mpOk.eq_1 mpR.eq_1 lkV.eq_1 lkV.eq_2 remp.eq_2 evP pvOk.eq_1 pvOk.eq_2 pvVal.eq_1 pvVal.eq_2 plOk.eq_1 plOk.eq_2 plOk.eq_3 plV.eq_1 plV.eq_2 plF.eq_1 plF.eq_2 plVal.eq_1 plVal.eq_2 plFz.eq_1 plFz.eq_2 lpOk.eq_1 lpOk.eq_2 lpVal.eq_1 lpVal.eq_2 lpFz.eq_1 lpFz.eq_2 stpOk.eq_1 stpOk.eq_2 stpSt.eq_1 stpSt.eq_2 stpArr.eq_1 keepS.eq_1 keepS.eq_2
section
/-
  A tree by its slots, one step down or to the right, and what is below: the code, walked.
-/
open Go.RowKit
set_option linter.unusedVariables false
set_option linter.unusedSimpArgs false
set_option maxRecDepth 100000
attribute [local go_sem ↓] runOp headOp
/-! ### slices.Clone[[]int,int] -/
def r_cloneI_0 : Reg := ⟨[], [⟨(.mknil 1 3), (some 2), none, [], []⟩], [2], [], false⟩
def r_cloneI_1 : Reg := ⟨[], [⟨(.mv (.t 0)), (some 3), none, [], []⟩, ⟨(.nileq false (.t 3)), (some 4), none, [], []⟩], [], [], false⟩
def r_cloneI_2 : Reg := ⟨[], [⟨(.mknil 1 3), (some 2), none, [], []⟩], [2], [], false⟩
def t_cloneI_3 : List ROp := [⟨(.bsl 1 3 []), (some 5), none, [], []⟩, ⟨(.mv (.t 0)), (some 6), none, [], []⟩, ⟨(.append 1 3 8 (.t 5) (.t 6)), (some 7), none, [], []⟩, ⟨(.mv (.t 7)), (some 2), none, [], []⟩]
def r_cloneI_3 : Reg := ⟨[], t_cloneI_3, [5], [], false⟩
def ir_cloneI : IR := (.seq (.reg r_cloneI_0)
  (.seq (.seq (.reg r_cloneI_1)
  (.cond (.t 4) (.seq (.reg r_cloneI_2)
  .ret)
  .skip))
  (.seq (.reg r_cloneI_3)
  .ret)))
def res_cloneI : List RDesc := [(.tmp 2)]
theorem e_cloneI_0 (C : FuncId → List AV → AV → Prop) (σ : St) (K : St → Prop) : runReg C r_cloneI_0 σ K = runOps C [⟨(.mknil 1 3), (some 2), none, [], []⟩] (σ.kills [2]) K := rfl
theorem e_cloneI_1 (C : FuncId → List AV → AV → Prop) (σ : St) (K : St → Prop) : runReg C r_cloneI_1 σ K = runOps C [⟨(.mv (.t 0)), (some 3), none, [], []⟩, ⟨(.nileq false (.t 3)), (some 4), none, [], []⟩] (σ.kills []) K := rfl
theorem e_cloneI_2 (C : FuncId → List AV → AV → Prop) (σ : St) (K : St → Prop) : runReg C r_cloneI_2 σ K = runOps C [⟨(.mknil 1 3), (some 2), none, [], []⟩] (σ.kills [2]) K := rfl
theorem e_cloneI_3 (C : FuncId → List AV → AV → Prop) (σ : St) (K : St → Prop) : runReg C r_cloneI_3 σ K = runOps C t_cloneI_3 (σ.kills [5]) K := rfl
theorem fn_cloneI {args : List AV} {r : AV} (ha : args.length.ble Try.f101.ntmps = true) (h : run (AFn Try.prog) ir_cloneI (endQ res_cloneI r) (initSt args)) : AFn Try.prog 101 args r :=
  AFn.of_code (pv := false) (hint := fun _ => []) (c := Try.f101.body.getD .skip) (by kernel_rfl) (by kernel_rfl) Try.func101 (by kernel_rfl) (by kernel_rfl) (by kernel_rfl) (of_decide_eq_true (by kernel_rfl)) (Nat.le_of_ble_eq_true ha) (Nat.le_of_ble_eq_true (by kernel_rfl)) (run_ok h)
/-! ### percolate/ladder.of -/
def r_lof_0 : Reg := ⟨[], [⟨(.mv (.c (.cst (.map none)))), (some 2), none, [], []⟩], [], [], false⟩
def r_lof_1 : List XOp := [(.mkmap 6 80), (.op [] ⟨(.mv (.t 6)), (some 3), none, [], []⟩)]
def t_lof_2 : List ROp := [⟨(.mv (.t 0)), (some 7), none, [], []⟩, ⟨(.len false (.t 7)), (some 8), none, [], []⟩, ⟨(.mv (.c (.int .i64 0))), (some 9), none, [], []⟩]
def r_lof_2 : Reg := ⟨[], t_lof_2, [], [], false⟩
def r_lof_3 : Reg := ⟨[], [⟨(.bin .lss (.t 9) (.t 8)), (some 10), none, [], []⟩], [], [], false⟩
def t_lof_4 : List ROp := [⟨(.iaddr 10 (.t 7) (.t 9)), (some 11), none, [5], []⟩, ⟨(.load 10 true (.t 11)), (some 12), none, [5], []⟩, ⟨(.alloc 10 36 (.agg [(.int .i64 0), (.int .i64 0), (.sl []), (.sl []), (.str ⟨#[]⟩), (.bool false), (.int .i64 0), (.int .i64 0), (.sl []), (.sl [])])), (some 5), none, [], []⟩, ⟨(.store 10 (.t 5) (.t 12)), none, none, [], []⟩]
def r_lof_4 : Reg := ⟨[], t_lof_4, [5], [], false⟩
def r_lof_5 : List XOp := [(.op [] ⟨(.mv (.t 3)), (some 13), none, [], []⟩), (.op [] ⟨(.faddr 0 (.t 5)), (some 14), none, [], []⟩), (.op [] ⟨(.load 1 false (.t 14)), (some 15), none, [], []⟩), (.op [] ⟨(.load 10 true (.t 5)), (some 16), none, [], []⟩), (.mupd (.t 13) (.t 15) (.t 16))]
def r_lof_6 : Reg := ⟨[], [⟨(.bin .add (.t 9) (.c (.int .i64 1))), (some 17), none, [], []⟩, ⟨(.mv (.t 17)), (some 9), none, [], []⟩], [], [], false⟩
def r_lof_l7 (P : Program) : IR := (.seq (.reg r_lof_3)
  (.seq (.cond (.t 10) .skip
  (.exit 0))
  (.seq (.block 1 (.seq (.reg r_lof_4)
  (.regx P r_lof_5)))
  (.reg r_lof_6))))
def r_lof_8 : Reg := ⟨[], [⟨(.mv (.t 3)), (some 18), none, [], []⟩, ⟨(.mv (.t 18)), (some 2), none, [], []⟩], [], [], false⟩
def ir_lof (P : Program) : IR := (.seq (.reg r_lof_0)
  (.seq (.regx P r_lof_1)
  (.seq (.seq (.reg r_lof_2)
  (.block 0 (.loop (r_lof_l7 P))))
  (.seq (.reg r_lof_8)
  .ret))))
def res_lof : List RDesc := [(.tmp 2)]
theorem e_lof_0 (C : FuncId → List AV → AV → Prop) (σ : St) (K : St → Prop) : runReg C r_lof_0 σ K = runOps C [⟨(.mv (.c (.cst (.map none)))), (some 2), none, [], []⟩] (σ.kills []) K := rfl
theorem e_lof_2 (C : FuncId → List AV → AV → Prop) (σ : St) (K : St → Prop) : runReg C r_lof_2 σ K = runOps C t_lof_2 (σ.kills []) K := rfl
theorem e_lof_3 (C : FuncId → List AV → AV → Prop) (σ : St) (K : St → Prop) : runReg C r_lof_3 σ K = runOps C [⟨(.bin .lss (.t 9) (.t 8)), (some 10), none, [], []⟩] (σ.kills []) K := rfl
theorem e_lof_4 (C : FuncId → List AV → AV → Prop) (σ : St) (K : St → Prop) : runReg C r_lof_4 σ K = runOps C t_lof_4 (σ.kills [5]) K := rfl
theorem e_lof_6 (C : FuncId → List AV → AV → Prop) (σ : St) (K : St → Prop) : runReg C r_lof_6 σ K = runOps C [⟨(.bin .add (.t 9) (.c (.int .i64 1))), (some 17), none, [], []⟩, ⟨(.mv (.t 17)), (some 9), none, [], []⟩] (σ.kills []) K := rfl
theorem e_lof_8 (C : FuncId → List AV → AV → Prop) (σ : St) (K : St → Prop) : runReg C r_lof_8 σ K = runOps C [⟨(.mv (.t 3)), (some 18), none, [], []⟩, ⟨(.mv (.t 18)), (some 2), none, [], []⟩] (σ.kills []) K := rfl
theorem fn_lof {args : List AV} {r : AV} (ha : args.length.ble Try.f51.ntmps = true) (h : run (AFn Try.prog) (ir_lof Try.prog) (endQ res_lof r) (initSt args)) : AFn Try.prog 51 args r :=
  AFn.of_code (pv := false) (hint := fun _ => []) (c := Try.f51.body.getD .skip) (by kernel_rfl) (by kernel_rfl) Try.func51 (by kernel_rfl) (by kernel_rfl) (by kernel_rfl) (of_decide_eq_true (by kernel_rfl)) (Nat.le_of_ble_eq_true ha) (Nat.le_of_ble_eq_true (by kernel_rfl)) (run_ok h)
/-! ### (percolate/ladder.tree).steps -/
def r_lsteps_0 : Reg := ⟨[], [⟨(.mknil 1 3), (some 4), none, [], []⟩], [4], [], false⟩
def r_lsteps_1 : List XOp := [(.op [] ⟨(.mv (.t 0)), (some 11), none, [], []⟩), (.op [] ⟨(.mv (.t 1)), (some 12), none, [], []⟩), (.mlook 13 true (.t 11) (.t 12) (.agg [(.int .i64 0), (.int .i64 0), (.sl []), (.sl []), (.str ⟨#[]⟩), (.bool false), (.int .i64 0), (.int .i64 0), (.sl []), (.sl [])]) none), (.op [] ⟨(.mv (.t 13)), (some 10), none, [], []⟩), (.op [] ⟨(.ext 0 (.t 10)), (some 14), none, [], []⟩), (.op [] ⟨(.ext 1 (.t 10)), (some 15), none, [], []⟩), (.op [5] ⟨(.alloc 10 36 (.agg [(.int .i64 0), (.int .i64 0), (.sl []), (.sl []), (.str ⟨#[]⟩), (.bool false), (.int .i64 0), (.int .i64 0), (.sl []), (.sl [])])), (some 5), none, [], []⟩), (.op [] ⟨(.store 10 (.t 5) (.t 14)), none, none, [], []⟩), (.op [] ⟨(.mv (.t 15)), (some 6), none, [], []⟩)]
def r_lsteps_2 : Reg := ⟨[], [⟨(.mv (.t 6)), (some 16), none, [], []⟩, ⟨(.un .not (.t 16)), (some 17), none, [], []⟩], [], [], false⟩
def r_lsteps_3 : Reg := ⟨[], [⟨(.mknil 1 3), (some 4), none, [], []⟩], [4], [], false⟩
def t_lsteps_4 : List ROp := [⟨(.faddr 3 (.t 5)), (some 18), none, [20], []⟩, ⟨(.load 1 false (.t 18)), (some 19), none, [20], []⟩, ⟨(.callv (.c (.clo 101 [] [])) [(.t 19)]), (some 20), none, [], []⟩, ⟨(.mv (.t 20)), (some 7), none, [], []⟩]
def r_lsteps_4 : Reg := ⟨[], t_lsteps_4, [20], [], false⟩
def r_lsteps_5 : List XOp := [(.op [] ⟨(.mv (.t 0)), (some 22), none, [], []⟩), (.op [] ⟨(.faddr 6 (.t 5)), (some 23), none, [], []⟩), (.op [] ⟨(.load 1 false (.t 23)), (some 24), none, [], []⟩), (.mlook 25 true (.t 22) (.t 24) (.agg [(.int .i64 0), (.int .i64 0), (.sl []), (.sl []), (.str ⟨#[]⟩), (.bool false), (.int .i64 0), (.int .i64 0), (.sl []), (.sl [])]) none), (.op [] ⟨(.mv (.t 25)), (some 21), none, [], []⟩), (.op [] ⟨(.ext 0 (.t 21)), (some 26), none, [], []⟩), (.op [] ⟨(.ext 1 (.t 21)), (some 27), none, [], []⟩), (.op [8] ⟨(.alloc 10 36 (.agg [(.int .i64 0), (.int .i64 0), (.sl []), (.sl []), (.str ⟨#[]⟩), (.bool false), (.int .i64 0), (.int .i64 0), (.sl []), (.sl [])])), (some 8), none, [], []⟩), (.op [] ⟨(.store 10 (.t 8) (.t 26)), none, none, [], []⟩), (.op [] ⟨(.mv (.t 27)), (some 9), none, [], []⟩)]
def t_lsteps_6 : List ROp := [⟨(.mv (.t 9)), (some 28), none, [], []⟩, ⟨(.mv (.t 28)), (some 29), none, [], []⟩, ⟨(.faddr 5 (.t 5)), (some 30), (some (29, true)), [], []⟩, ⟨(.load 1 false (.t 30)), (some 31), (some (29, true)), [], []⟩, ⟨(.un .not (.t 31)), (some 32), (some (29, true)), [], []⟩, ⟨(.pick (.t 29) (.t 32) (.c (.bool false))), (some 33), none, [], []⟩]
def r_lsteps_6 : Reg := ⟨[], t_lsteps_6, [], [], false⟩
def t_lsteps_7 : List ROp := [⟨(.mv (.t 7)), (some 34), none, [37], []⟩, ⟨(.faddr 6 (.t 5)), (some 35), none, [37], []⟩, ⟨(.load 1 false (.t 35)), (some 36), none, [37], []⟩, ⟨(.bsl 1 3 [(.t 36)]), (some 37), none, [], []⟩, ⟨(.append 1 3 8 (.t 34) (.t 37)), (some 38), none, [], []⟩, ⟨(.mv (.t 38)), (some 7), none, [], []⟩]
def r_lsteps_7 : Reg := ⟨[], t_lsteps_7, [37], [], false⟩
def r_lsteps_8 : Reg := ⟨[], [⟨(.mv (.t 7)), (some 39), none, [], []⟩, ⟨(.mv (.t 39)), (some 4), none, [], []⟩], [], [], false⟩
def ir_lsteps (P : Program) : IR := (.seq (.reg r_lsteps_0)
  (.seq (.regx P r_lsteps_1)
  (.seq (.seq (.reg r_lsteps_2)
  (.cond (.t 17) (.seq (.reg r_lsteps_3)
  .ret)
  .skip))
  (.seq (.reg r_lsteps_4)
  (.seq (.seq (.regx P r_lsteps_5)
  (.seq (.reg r_lsteps_6)
  (.cond (.t 33) (.reg r_lsteps_7)
  .skip)))
  (.seq (.reg r_lsteps_8)
  .ret))))))
def res_lsteps : List RDesc := [(.tmp 4)]
theorem e_lsteps_0 (C : FuncId → List AV → AV → Prop) (σ : St) (K : St → Prop) : runReg C r_lsteps_0 σ K = runOps C [⟨(.mknil 1 3), (some 4), none, [], []⟩] (σ.kills [4]) K := rfl
theorem e_lsteps_2 (C : FuncId → List AV → AV → Prop) (σ : St) (K : St → Prop) : runReg C r_lsteps_2 σ K = runOps C [⟨(.mv (.t 6)), (some 16), none, [], []⟩, ⟨(.un .not (.t 16)), (some 17), none, [], []⟩] (σ.kills []) K := rfl
theorem e_lsteps_3 (C : FuncId → List AV → AV → Prop) (σ : St) (K : St → Prop) : runReg C r_lsteps_3 σ K = runOps C [⟨(.mknil 1 3), (some 4), none, [], []⟩] (σ.kills [4]) K := rfl
theorem e_lsteps_4 (C : FuncId → List AV → AV → Prop) (σ : St) (K : St → Prop) : runReg C r_lsteps_4 σ K = runOps C t_lsteps_4 (σ.kills [20]) K := rfl
theorem e_lsteps_6 (C : FuncId → List AV → AV → Prop) (σ : St) (K : St → Prop) : runReg C r_lsteps_6 σ K = runOps C t_lsteps_6 (σ.kills []) K := rfl
theorem e_lsteps_7 (C : FuncId → List AV → AV → Prop) (σ : St) (K : St → Prop) : runReg C r_lsteps_7 σ K = runOps C t_lsteps_7 (σ.kills [37]) K := rfl
theorem e_lsteps_8 (C : FuncId → List AV → AV → Prop) (σ : St) (K : St → Prop) : runReg C r_lsteps_8 σ K = runOps C [⟨(.mv (.t 7)), (some 39), none, [], []⟩, ⟨(.mv (.t 39)), (some 4), none, [], []⟩] (σ.kills []) K := rfl
theorem fn_lsteps {args : List AV} {r : AV} (ha : args.length.ble Try.f94.ntmps = true) (h : run (AFn Try.prog) (ir_lsteps Try.prog) (endQ res_lsteps r) (initSt args)) : AFn Try.prog 94 args r :=
  AFn.of_code (pv := false) (hint := fun _ => []) (c := Try.f94.body.getD .skip) (by kernel_rfl) (by kernel_rfl) Try.func94 (by kernel_rfl) (by kernel_rfl) (by kernel_rfl) (of_decide_eq_true (by kernel_rfl)) (Nat.le_of_ble_eq_true ha) (Nat.le_of_ble_eq_true (by kernel_rfl)) (run_ok h)
/-! ### (percolate/ladder.tree).below -/
def r_lbelow_0 : Reg := ⟨[], [⟨(.mv (.c (.cst (.map none)))), (some 4), none, [], []⟩], [], [], false⟩
def r_lbelow_1 : List XOp := [(.mkmap 8 82), (.op [] ⟨(.mv (.t 8)), (some 5), none, [], []⟩)]
def t_lbelow_2 : List ROp := [⟨(.mv (.t 0)), (some 9), none, [11], []⟩, ⟨(.mv (.t 1)), (some 10), none, [11], []⟩, ⟨(.callv (.c (.clo 94 [] [])) [(.t 9), (.t 10)]), (some 11), none, [], []⟩, ⟨(.mv (.t 11)), (some 6), none, [], []⟩]
def r_lbelow_2 : Reg := ⟨[], t_lbelow_2, [11], [], false⟩
def t_lbelow_3 : List ROp := [⟨(.mv (.t 6)), (some 12), none, [], []⟩, ⟨(.len false (.t 12)), (some 13), none, [], []⟩, ⟨(.bin .gtr (.t 13) (.c (.int .i64 0))), (some 14), none, [], []⟩]
def r_lbelow_3 : Reg := ⟨[], t_lbelow_3, [], [], false⟩
def t_lbelow_4 : List ROp := [⟨(.mv (.t 6)), (some 15), none, [], []⟩, ⟨(.iaddr 1 (.t 15) (.c (.int .i64 0))), (some 16), none, [], []⟩, ⟨(.load 1 false (.t 16)), (some 17), none, [], []⟩, ⟨(.mv (.t 17)), (some 7), none, [], []⟩]
def r_lbelow_4 : Reg := ⟨[], t_lbelow_4, [], [], false⟩
def t_lbelow_5 : List ROp := [⟨(.mv (.t 6)), (some 18), none, [], []⟩, ⟨(.slc false 1 (.t 18) (some (.c (.int .i64 1))) none), (some 19), none, [], []⟩, ⟨(.mv (.t 19)), (some 6), none, [], []⟩]
def r_lbelow_5 : Reg := ⟨[], t_lbelow_5, [], [], false⟩
def r_lbelow_6 : List XOp := [(.op [] ⟨(.mv (.t 5)), (some 20), none, [], []⟩), (.op [] ⟨(.mv (.t 7)), (some 21), none, [], []⟩), (.mlook 22 false (.t 20) (.t 21) (.bool false) none), (.op [] ⟨(.un .not (.t 22)), (some 23), none, [], []⟩)]
def r_lbelow_7 : List XOp := [(.op [] ⟨(.mv (.t 5)), (some 24), none, [], []⟩), (.op [] ⟨(.mv (.t 7)), (some 25), none, [], []⟩), (.mupd (.t 24) (.t 25) (.c (.bool true)))]
def t_lbelow_8 : List ROp := [⟨(.mv (.t 6)), (some 26), none, [29], []⟩, ⟨(.mv (.t 0)), (some 27), none, [29], []⟩, ⟨(.mv (.t 7)), (some 28), none, [29], []⟩, ⟨(.callv (.c (.clo 94 [] [])) [(.t 27), (.t 28)]), (some 29), none, [], []⟩, ⟨(.append 1 3 8 (.t 26) (.t 29)), (some 30), none, [], []⟩, ⟨(.mv (.t 30)), (some 6), none, [], []⟩]
def r_lbelow_8 : Reg := ⟨[], t_lbelow_8, [29], [], false⟩
def r_lbelow_l9 (P : Program) : IR := (.seq (.seq (.reg r_lbelow_3)
  (.cond (.t 14) .skip
  (.exit 0)))
  (.block 1 (.seq (.reg r_lbelow_4)
  (.seq (.reg r_lbelow_5)
  (.seq (.regx P r_lbelow_6)
  (.cond (.t 23) (.seq (.regx P r_lbelow_7)
  (.reg r_lbelow_8))
  .skip))))))
def r_lbelow_10 : Reg := ⟨[], [⟨(.mv (.t 5)), (some 31), none, [], []⟩, ⟨(.mv (.t 31)), (some 4), none, [], []⟩], [], [], false⟩
def ir_lbelow (P : Program) : IR := (.seq (.reg r_lbelow_0)
  (.seq (.regx P r_lbelow_1)
  (.seq (.reg r_lbelow_2)
  (.seq (.block 0 (.loop (r_lbelow_l9 P)))
  (.seq (.reg r_lbelow_10)
  .ret)))))
def res_lbelow : List RDesc := [(.tmp 4)]
theorem e_lbelow_0 (C : FuncId → List AV → AV → Prop) (σ : St) (K : St → Prop) : runReg C r_lbelow_0 σ K = runOps C [⟨(.mv (.c (.cst (.map none)))), (some 4), none, [], []⟩] (σ.kills []) K := rfl
theorem e_lbelow_2 (C : FuncId → List AV → AV → Prop) (σ : St) (K : St → Prop) : runReg C r_lbelow_2 σ K = runOps C t_lbelow_2 (σ.kills [11]) K := rfl
theorem e_lbelow_3 (C : FuncId → List AV → AV → Prop) (σ : St) (K : St → Prop) : runReg C r_lbelow_3 σ K = runOps C t_lbelow_3 (σ.kills []) K := rfl
theorem e_lbelow_4 (C : FuncId → List AV → AV → Prop) (σ : St) (K : St → Prop) : runReg C r_lbelow_4 σ K = runOps C t_lbelow_4 (σ.kills []) K := rfl
theorem e_lbelow_5 (C : FuncId → List AV → AV → Prop) (σ : St) (K : St → Prop) : runReg C r_lbelow_5 σ K = runOps C t_lbelow_5 (σ.kills []) K := rfl
theorem e_lbelow_8 (C : FuncId → List AV → AV → Prop) (σ : St) (K : St → Prop) : runReg C r_lbelow_8 σ K = runOps C t_lbelow_8 (σ.kills [29]) K := rfl
theorem e_lbelow_10 (C : FuncId → List AV → AV → Prop) (σ : St) (K : St → Prop) : runReg C r_lbelow_10 σ K = runOps C [⟨(.mv (.t 5)), (some 31), none, [], []⟩, ⟨(.mv (.t 31)), (some 4), none, [], []⟩] (σ.kills []) K := rfl
theorem fn_lbelow {args : List AV} {r : AV} (ha : args.length.ble Try.f58.ntmps = true) (h : run (AFn Try.prog) (ir_lbelow Try.prog) (endQ res_lbelow r) (initSt args)) : AFn Try.prog 58 args r :=
  AFn.of_code (pv := false) (hint := fun _ => []) (c := Try.f58.body.getD .skip) (by kernel_rfl) (by kernel_rfl) Try.func58 (by kernel_rfl) (by kernel_rfl) (by kernel_rfl) (of_decide_eq_true (by kernel_rfl)) (Nat.le_of_ble_eq_true ha) (Nat.le_of_ble_eq_true (by kernel_rfl)) (run_ok h)
/-! ### percolate/ladder.Below -/
def r_lBelow_0 : Reg := ⟨[], [⟨(.mv (.c (.bool false))), (some 6), none, [], []⟩], [], [], false⟩
def r_lBelow_1 : List XOp := [(.op [] ⟨(.mv (.t 0)), (some 7), none, [], []⟩), (.op [8] ⟨(.callv (.c (.clo 51 [] [])) [(.t 7)]), (some 8), none, [], []⟩), (.op [] ⟨(.mv (.t 1)), (some 9), none, [], []⟩), (.op [10] ⟨(.callv (.c (.clo 58 [] [])) [(.t 8), (.t 9)]), (some 10), none, [], []⟩), (.op [] ⟨(.mv (.t 2)), (some 11), none, [], []⟩), (.mlook 12 false (.t 10) (.t 11) (.bool false) none), (.op [] ⟨(.mv (.t 12)), (some 6), none, [], []⟩)]
def ir_lBelow (P : Program) : IR := (.seq (.reg r_lBelow_0)
  (.seq (.regx P r_lBelow_1)
  .ret))
def res_lBelow : List RDesc := [(.tmp 6)]
theorem e_lBelow_0 (C : FuncId → List AV → AV → Prop) (σ : St) (K : St → Prop) : runReg C r_lBelow_0 σ K = runOps C [⟨(.mv (.c (.bool false))), (some 6), none, [], []⟩] (σ.kills []) K := rfl
theorem fn_lBelow {args : List AV} {r : AV} (ha : args.length.ble Try.f13.ntmps = true) (h : run (AFn Try.prog) (ir_lBelow Try.prog) (endQ res_lBelow r) (initSt args)) : AFn Try.prog 13 args r :=
  AFn.of_code (pv := false) (hint := fun _ => []) (c := Try.f13.body.getD .skip) (by kernel_rfl) (by kernel_rfl) Try.func13 (by kernel_rfl) (by kernel_rfl) (by kernel_rfl) (of_decide_eq_true (by kernel_rfl)) (Nat.le_of_ble_eq_true ha) (Nat.le_of_ble_eq_true (by kernel_rfl)) (run_ok h)
attribute [local go_sem ↓] ir_cloneI
attribute [local go_sem] res_cloneI e_cloneI_0 e_cloneI_1 e_cloneI_2 e_cloneI_3 t_cloneI_3
attribute [local go_sem ↓] ir_lof
attribute [local go_sem] res_lof e_lof_0 e_lof_2 t_lof_2 e_lof_3 e_lof_4 t_lof_4 e_lof_6 e_lof_8 r_lof_1 r_lof_5
attribute [local go_sem ↓] ir_lsteps
attribute [local go_sem] res_lsteps e_lsteps_0 e_lsteps_2 e_lsteps_3 e_lsteps_4 t_lsteps_4 e_lsteps_6 t_lsteps_6 e_lsteps_7 t_lsteps_7 e_lsteps_8 r_lsteps_1 r_lsteps_5
attribute [local go_sem ↓] ir_lbelow
attribute [local go_sem] res_lbelow e_lbelow_0 e_lbelow_2 t_lbelow_2 e_lbelow_3 t_lbelow_3 e_lbelow_4 t_lbelow_4 e_lbelow_5 t_lbelow_5 e_lbelow_8 t_lbelow_8 e_lbelow_10 r_lbelow_1 r_lbelow_6 r_lbelow_7
attribute [local go_sem ↓] ir_lBelow
attribute [local go_sem] res_lBelow e_lBelow_0 r_lBelow_1
/-! ### Maps of these kinds -/
def treeM (l : List Nd) : List (Int × AV) := l.map fun n => (n.slot, n.a)
def metM (l : List Int) : List (Int × AV) := l.map fun k => (k, AV.bool true)
theorem upk_new : ∀ {es : List (Int × AV)} {k : Int} {d : AV}, (∀ e, e ∈ es → e.1 ≠ k) → upk es k d = es ++ [(k, d)]
  | [], k, d, _ => rfl
  | e :: l, k, d, h => by
    have h0 := h e (List.mem_cons_self ..)
    rw [upk, if_neg (by simpa using fun q : k = e.1 => h0 q.symm), upk_new fun x hx => h x (List.mem_cons_of_mem _ hx)]
    rfl
theorem lkp_met : ∀ (l : List Int) (k : Int), lkp (metM l) k = if l.contains k then some (.bool true) else none
  | [], k => rfl
  | x :: l, k => by
    show (if k == x then some (AV.bool true) else lkp (metM l) k) = _
    rw [lkp_met l k, List.contains_cons]
    cases k == x <;> simp
theorem upk_met {l : List Int} {k : Int} (h : l.contains k = false) : upk (metM l) k (.bool true) = metM (l ++ [k]) := by
  rw [upk_new]
  · unfold metM; rw [List.map_append]; rfl
  · intro e he hk
    obtain ⟨x, h1, h2⟩ := List.mem_map.1 he
    rw [← h2] at hk
    have hk' : x = k := hk
    rw [hk'] at h1
    simp [List.contains_eq_mem, h1] at h
theorem lkp_tree_go : ∀ (l : List Nd) (i : Nat) (k : Int), (∀ (j : Nat) (n : Nd), l[j]? = some n → n.slot = ((i + j : Nat) : Int)) → lkp (treeM l) k = (if (i : Int) ≤ k then l[(k - i).toNat]? else none).map Nd.a
  | [], i, k, h => by
    show none = _
    split <;> rfl
  | x :: l, i, k, h => by
    have hx : x.slot = (i : Int) := by have := h 0 x rfl; simpa using this
    have h' : ∀ (j : Nat) (n : Nd), l[j]? = some n → n.slot = ((i + 1 + j : Nat) : Int) := fun j n e => by
      have := h (j + 1) n (by simpa using e)
      rw [this]; omega
    show (if k == x.slot then some x.a else lkp (treeM l) k) = _
    rw [hx, lkp_tree_go l (i + 1) k h']
    by_cases hk : k = (i : Int)
    · rw [if_pos (by simp [hk]), if_pos (by omega), show (k - (i : Int)).toNat = 0 by omega]; rfl
    · rw [if_neg (by simpa using hk)]
      by_cases h2 : (i : Int) ≤ k
      · rw [if_pos h2, if_pos (by omega), show (k - (i : Int)).toNat = (k - ((i + 1 : Nat) : Int)).toNat + 1 by omega, List.getElem?_cons_succ]
      · rw [if_neg h2, if_neg (by omega)]
theorem lkp_tree {l : List Nd} (h : InOrd l) (k : Int) : lkp (treeM l) k = (ndAt l k).map Nd.a := by
  rw [lkp_tree_go l 0 k (fun j n e => by rw [h j n e]; omega)]
  unfold ndAt
  by_cases h0 : 0 ≤ k
  · rw [if_pos h0, if_pos (by omega), show (k - ((0 : Nat) : Int)).toNat = k.toNat by omega]
  · rw [if_neg h0, if_neg (by omega)]
theorem treeM_next {l : List Nd} (h : InOrd l) {j : Nat} {x : Nd} (hx : l[j]? = some x) : upk (treeM (l.take j)) x.slot x.a = treeM (l.take (j + 1)) := by
  rw [upk_new]
  · unfold treeM
    rw [List.take_add_one, hx, List.map_append]; rfl
  · intro e he hk
    obtain ⟨n, h1, h2⟩ := List.mem_map.1 he
    obtain ⟨i, hi⟩ := List.mem_iff_getElem?.1 h1
    rw [List.getElem?_take] at hi
    split at hi
    · rename_i hij
      have a := h i n hi
      have b := h j x hx
      rw [← h2] at hk
      have hk' : n.slot = x.slot := hk
      rw [a, b] at hk'
      omega
    · cases hi
/-! ### The code -/
def lofInv (l : List Nd) (k : Nat) (σ : St) : Prop :=
  ∃ j : Nat, j ≤ l.length ∧ k = l.length - j ∧ σ.T 3 = .mp 6 (treeM (l.take j)) ∧ σ.H 6 = some ⟨1, 80, [], 0⟩ ∧ σ.T 7 = .sl (l.map Nd.a) ∧ σ.T 8 = .int .i64 l.length ∧ σ.T 9 = .int .i64 j
set_option maxHeartbeats 2000000 in
theorem lof_ok (l : List Nd) (h : InOrd l) (hl : l.length ≤ 200) : AFn Try.prog 51 [.sl (l.map Nd.a)] (.mv (treeM l)) := by
  refine fn_lof rfl ?_
  simp (maxSteps := 4000000) only [go_sem, ↓reduceIte, reduceCtorEq, Nat.reduceEqDiff, Nat.reduceBEq, Nat.reduceAdd, Nat.reduceSub, Nat.reduceMul, Nat.reduceLT, Nat.reduceLeDiff, Nat.reduceBNe, Int.reduceBEq, Int.reduceBNe, Int.reduceLT, Int.reduceLE, Msg.a, Par.a, evM, entOk.eq_1, entOk.eq_2, ents.eq_1, ents.eq_2, kI.eq_1, mpOk.eq_1, mpR.eq_1, lkV.eq_1, lkV.eq_2, List.length_map]
  refine run_loop (lofInv l) (k := l.length) ⟨0, by omega, rfl, ?_, ?_, ?_, ?_, ?_⟩ ?_
  · (simp (maxSteps := 4000000) only [go_sem, ↓reduceIte, reduceCtorEq, Nat.reduceEqDiff, Nat.reduceBEq, Nat.reduceAdd, Nat.reduceSub, Nat.reduceMul, Nat.reduceLT, Nat.reduceLeDiff, Nat.reduceBNe, Int.reduceBEq, Int.reduceBNe, Int.reduceLT, Int.reduceLE, Msg.a, Par.a, evM, entOk.eq_1, entOk.eq_2, ents.eq_1, ents.eq_2, kI.eq_1, mpOk.eq_1, mpR.eq_1, lkV.eq_1, lkV.eq_2]) <;> rfl
  · (simp (maxSteps := 4000000) only [go_sem, ↓reduceIte, reduceCtorEq, Nat.reduceEqDiff, Nat.reduceBEq, Nat.reduceAdd, Nat.reduceSub, Nat.reduceMul, Nat.reduceLT, Nat.reduceLeDiff, Nat.reduceBNe, Int.reduceBEq, Int.reduceBNe, Int.reduceLT, Int.reduceLE, Msg.a, Par.a, evM, entOk.eq_1, entOk.eq_2, ents.eq_1, ents.eq_2, kI.eq_1, mpOk.eq_1, mpR.eq_1, lkV.eq_1, lkV.eq_2]) <;> rfl
  · (simp (maxSteps := 4000000) only [go_sem, ↓reduceIte, reduceCtorEq, Nat.reduceEqDiff, Nat.reduceBEq, Nat.reduceAdd, Nat.reduceSub, Nat.reduceMul, Nat.reduceLT, Nat.reduceLeDiff, Nat.reduceBNe, Int.reduceBEq, Int.reduceBNe, Int.reduceLT, Int.reduceLE, Msg.a, Par.a, evM, entOk.eq_1, entOk.eq_2, ents.eq_1, ents.eq_2, kI.eq_1, mpOk.eq_1, mpR.eq_1, lkV.eq_1, lkV.eq_2]) <;> rfl
  · (simp (maxSteps := 4000000) only [go_sem, ↓reduceIte, reduceCtorEq, Nat.reduceEqDiff, Nat.reduceBEq, Nat.reduceAdd, Nat.reduceSub, Nat.reduceMul, Nat.reduceLT, Nat.reduceLeDiff, Nat.reduceBNe, Int.reduceBEq, Int.reduceBNe, Int.reduceLT, Int.reduceLE, Msg.a, Par.a, evM, entOk.eq_1, entOk.eq_2, ents.eq_1, ents.eq_2, kI.eq_1, mpOk.eq_1, mpR.eq_1, lkV.eq_1, lkV.eq_2, List.length_map]) <;> rfl
  · (simp (maxSteps := 4000000) only [go_sem, ↓reduceIte, reduceCtorEq, Nat.reduceEqDiff, Nat.reduceBEq, Nat.reduceAdd, Nat.reduceSub, Nat.reduceMul, Nat.reduceLT, Nat.reduceLeDiff, Nat.reduceBNe, Int.reduceBEq, Int.reduceBNe, Int.reduceLT, Int.reduceLE, Msg.a, Par.a, evM, entOk.eq_1, entOk.eq_2, ents.eq_1, ents.eq_2, kI.eq_1, mpOk.eq_1, mpR.eq_1, lkV.eq_1, lkV.eq_2]) <;> rfl
  rintro k σ ⟨j, hj, rfl, t3, h6, t7, t8, t9⟩
  simp only [r_lof_l7]
  by_cases hlt : j < l.length
  case neg =>
    have hlt' : ¬ (j : Int) < (l.length : Int) := by omega
    rw [List.take_of_length_le (by omega)] at t3
    simp (maxSteps := 4000000) only [go_sem, ↓reduceIte, reduceCtorEq, Nat.reduceEqDiff, Nat.reduceBEq, Nat.reduceAdd, Nat.reduceSub, Nat.reduceMul, Nat.reduceLT, Nat.reduceLeDiff, Nat.reduceBNe, Int.reduceBEq, Int.reduceBNe, Int.reduceLT, Int.reduceLE, Msg.a, Par.a, evM, entOk.eq_1, entOk.eq_2, ents.eq_1, ents.eq_2, kI.eq_1, mpOk.eq_1, mpR.eq_1, lkV.eq_1, lkV.eq_2, t3, h6, t7, t8, t9, hlt']
  have hlt' : (j : Int) < (l.length : Int) := by omega
  obtain ⟨x, hx⟩ := get_lt hlt
  have hgx := at_map (f := Nd.a) hx
  have hn := treeM_next h hx
  simp only [Nd.a] at hgx hn
  have hw := wrapS (j := j) (by omega)
  simp (maxSteps := 4000000) only [go_sem, ↓reduceIte, reduceCtorEq, Nat.reduceEqDiff, Nat.reduceBEq, Nat.reduceAdd, Nat.reduceSub, Nat.reduceMul, Nat.reduceLT, Nat.reduceLeDiff, Nat.reduceBNe, Int.reduceBEq, Int.reduceBNe, Int.reduceLT, Int.reduceLE, Msg.a, Par.a, evM, entOk.eq_1, entOk.eq_2, ents.eq_1, ents.eq_2, kI.eq_1, mpOk.eq_1, mpR.eq_1, lkV.eq_1, lkV.eq_2, t3, h6, t7, t8, t9, hlt', hgx, hw, hn, List.length_map, Int.toNat_natCast]
  (repeat refine And.intro (by omega) ?_)
  refine ⟨l.length - (j + 1), by omega, j + 1, by omega, rfl, ?_, ?_, ?_, ?_, ?_⟩
  · simp (maxSteps := 4000000) only [go_sem, ↓reduceIte, reduceCtorEq, Nat.reduceEqDiff, Nat.reduceBEq, Nat.reduceAdd, Nat.reduceSub, Nat.reduceMul, Nat.reduceLT, Nat.reduceLeDiff, Nat.reduceBNe, Int.reduceBEq, Int.reduceBNe, Int.reduceLT, Int.reduceLE, Msg.a, Par.a, evM, entOk.eq_1, entOk.eq_2, ents.eq_1, ents.eq_2, kI.eq_1, mpOk.eq_1, mpR.eq_1, lkV.eq_1, lkV.eq_2, t3, hn]
  · simp (maxSteps := 4000000) only [go_sem, ↓reduceIte, reduceCtorEq, Nat.reduceEqDiff, Nat.reduceBEq, Nat.reduceAdd, Nat.reduceSub, Nat.reduceMul, Nat.reduceLT, Nat.reduceLeDiff, Nat.reduceBNe, Int.reduceBEq, Int.reduceBNe, Int.reduceLT, Int.reduceLE, Msg.a, Par.a, evM, entOk.eq_1, entOk.eq_2, ents.eq_1, ents.eq_2, kI.eq_1, mpOk.eq_1, mpR.eq_1, lkV.eq_1, lkV.eq_2, h6]
  · simp (maxSteps := 4000000) only [go_sem, ↓reduceIte, reduceCtorEq, Nat.reduceEqDiff, Nat.reduceBEq, Nat.reduceAdd, Nat.reduceSub, Nat.reduceMul, Nat.reduceLT, Nat.reduceLeDiff, Nat.reduceBNe, Int.reduceBEq, Int.reduceBNe, Int.reduceLT, Int.reduceLE, Msg.a, Par.a, evM, entOk.eq_1, entOk.eq_2, ents.eq_1, ents.eq_2, kI.eq_1, mpOk.eq_1, mpR.eq_1, lkV.eq_1, lkV.eq_2, t7]
  · simp (maxSteps := 4000000) only [go_sem, ↓reduceIte, reduceCtorEq, Nat.reduceEqDiff, Nat.reduceBEq, Nat.reduceAdd, Nat.reduceSub, Nat.reduceMul, Nat.reduceLT, Nat.reduceLeDiff, Nat.reduceBNe, Int.reduceBEq, Int.reduceBNe, Int.reduceLT, Int.reduceLE, Msg.a, Par.a, evM, entOk.eq_1, entOk.eq_2, ents.eq_1, ents.eq_2, kI.eq_1, mpOk.eq_1, mpR.eq_1, lkV.eq_1, lkV.eq_2, t8]
  · simp (maxSteps := 4000000) only [go_sem, ↓reduceIte, reduceCtorEq, Nat.reduceEqDiff, Nat.reduceBEq, Nat.reduceAdd, Nat.reduceSub, Nat.reduceMul, Nat.reduceLT, Nat.reduceLeDiff, Nat.reduceBNe, Int.reduceBEq, Int.reduceBNe, Int.reduceLT, Int.reduceLE, Msg.a, Par.a, evM, entOk.eq_1, entOk.eq_2, ents.eq_1, ents.eq_2, kI.eq_1, mpOk.eq_1, mpR.eq_1, lkV.eq_1, lkV.eq_2, hw]
theorem cloneI_ok (l : List AV) (hl : l.length ≤ 1000000) (h1 : ∀ d, d ∈ l → d.cells.length = 1 ∧ d.cells.all AV.one = true) : AFn Try.prog 101 [.sl l] (.own 1 3 l) := by
  refine fn_cloneI rfl ?_
  simp (maxSteps := 4000000) only [go_sem, ↓reduceIte, reduceCtorEq, Nat.reduceEqDiff, Nat.reduceBEq, Nat.reduceAdd, Nat.reduceSub, Nat.reduceMul, Nat.reduceLT, Nat.reduceLeDiff, Nat.reduceBNe, Int.reduceBEq, Int.reduceBNe, Int.reduceLT, Int.reduceLE, Msg.a, Par.a, evM, entOk.eq_1, entOk.eq_2, ents.eq_1, ents.eq_2, kI.eq_1, mpOk.eq_1, mpR.eq_1, lkV.eq_1, lkV.eq_2]
  refine ⟨fun h => ?_, ⟨by omega, by omega⟩, h1⟩
  cases l with
  | nil => rfl
  | cons x l => cases h
theorem ints_one (l : List Int) : ∀ d, d ∈ l.map (AV.int .i64) → d.cells.length = 1 ∧ d.cells.all AV.one = true := fun d hd => by
  obtain ⟨x, _, rfl⟩ := List.mem_map.1 hd
  exact ⟨rfl, rfl⟩
set_option maxHeartbeats 2000000 in
theorem steps_ok (l : List Nd) (h : Lad l) (s : Int) : AFn Try.prog 94 [.mv (treeM l), .int .i64 s] (.own 1 3 ((steps l s).map (AV.int .i64))) := by
  refine fn_lsteps rfl ?_
  have hl := lkp_tree h.ord s
  unfold steps
  cases e : ndAt l s with
  | none =>
    have hl : lkp (treeM l) s = none := by rw [hl, e]; rfl
    simp (maxSteps := 4000000) only [go_sem, ↓reduceIte, reduceCtorEq, Nat.reduceEqDiff, Nat.reduceBEq, Nat.reduceAdd, Nat.reduceSub, Nat.reduceMul, Nat.reduceLT, Nat.reduceLeDiff, Nat.reduceBNe, Int.reduceBEq, Int.reduceBNe, Int.reduceLT, Int.reduceLE, Msg.a, Par.a, evM, entOk.eq_1, entOk.eq_2, ents.eq_1, ents.eq_2, kI.eq_1, mpOk.eq_1, mpR.eq_1, lkV.eq_1, lkV.eq_2, hl]
    rfl
  | some n =>
    have hl : lkp (treeM l) s = some n.a := by rw [hl, e]; rfl
    simp only [Nd.a] at hl
    have hm := (ndAt_slot h.ord e).2.1
    have hk := h.nk n hm
    have cK := cloneI_ok (n.kids.map (AV.int .i64)) (by rw [List.length_map]; omega) (ints_one _)
    have hr := lkp_tree h.ord n.right
    show run _ _ (endQ _ (.own 1 3 ((nxt n).map (AV.int .i64)))) _
    unfold nxt
    cases ht : n.top with
    | true =>
      have hneg : ¬ 0 ≤ n.right := fun q => by rw [(h.top n hm).1 q] at ht; cases ht
      have hr : lkp (treeM l) n.right = none := by rw [hr]; unfold ndAt; rw [if_neg hneg]; rfl
      rw [ht] at hl
      rw [if_pos rfl, List.append_nil]
      (repeat (first | simp (maxSteps := 4000000) only [go_sem, ↓reduceIte, reduceCtorEq, Nat.reduceEqDiff, Nat.reduceBEq, Nat.reduceAdd, Nat.reduceSub, Nat.reduceMul, Nat.reduceLT, Nat.reduceLeDiff, Nat.reduceBNe, Int.reduceBEq, Int.reduceBNe, Int.reduceLT, Int.reduceLE, Msg.a, Par.a, evM, entOk.eq_1, entOk.eq_2, ents.eq_1, ents.eq_2, kI.eq_1, mpOk.eq_1, mpR.eq_1, lkV.eq_1, lkV.eq_2, hl, hr] | refine calling (cK) ?_ | refine callingH (cK) ?_ | refine And.intro (by omega) ?_ | refine And.intro (fun d hd => by (repeat (rcases hd with rfl | hd; · exact ⟨rfl, rfl⟩)); cases hd) ?_))
    | false =>
      obtain ⟨m, em⟩ := ndAt_some ((h.top n hm).2 ht) (h.rt n hm)
      have hr : lkp (treeM l) n.right = some m.a := by rw [hr, em]; rfl
      simp only [Nd.a] at hr
      rw [ht] at hl
      rw [if_neg (by decide), List.map_append]
      (repeat (first | simp (maxSteps := 4000000) only [go_sem, ↓reduceIte, reduceCtorEq, Nat.reduceEqDiff, Nat.reduceBEq, Nat.reduceAdd, Nat.reduceSub, Nat.reduceMul, Nat.reduceLT, Nat.reduceLeDiff, Nat.reduceBNe, Int.reduceBEq, Int.reduceBNe, Int.reduceLT, Int.reduceLE, Msg.a, Par.a, evM, entOk.eq_1, entOk.eq_2, ents.eq_1, ents.eq_2, kI.eq_1, mpOk.eq_1, mpR.eq_1, lkV.eq_1, lkV.eq_2, hl, hr, List.length_map] | refine calling (cK) ?_ | refine callingH (cK) ?_ | refine And.intro (by omega) ?_ | refine And.intro (fun d hd => by (repeat (rcases hd with rfl | hd; · exact ⟨rfl, rfl⟩)); cases hd) ?_))
      have e1 : List.take n.kids.length (n.kids.map (AV.int .i64)) = n.kids.map (AV.int .i64) := List.take_of_length_le (by simp)
      rw [e1]
      refine ⟨⟨⟨by omega, by omega⟩, fun d hd => ?_⟩, by simp, rfl⟩
      rcases hd with rfl | hd
      · exact ⟨rfl, rfl⟩
      · cases hd
end
section
/-
  What is below a slot: the code, walked.
-/
open Go.RowKit
set_option linter.unusedVariables false
set_option linter.unusedSimpArgs false
set_option maxRecDepth 100000
attribute [local go_sem ↓] runOp headOp
attribute [local go_sem ↓] ir_lbelow
attribute [local go_sem] res_lbelow e_lbelow_0 e_lbelow_2 t_lbelow_2 e_lbelow_3 t_lbelow_3 e_lbelow_4 t_lbelow_4 e_lbelow_5 t_lbelow_5 e_lbelow_8 t_lbelow_8 e_lbelow_10 r_lbelow_1 r_lbelow_6 r_lbelow_7
attribute [local go_sem ↓] ir_lBelow
attribute [local go_sem] res_lBelow e_lBelow_0 r_lBelow_1
theorem goL_nil (l : List Nd) (met : List Int) : ∀ k : Nat, goL l k met [] = met
  | 0 => rfl
  | k + 1 => rfl
theorem left_le (N : Nat) (met : List Int) : left N met ≤ N := by
  unfold left
  have := List.countP_le_length (p := fun i : Nat => !met.contains (i : Int)) (l := List.range N)
  rw [List.length_range] at this
  exact this
theorem mesL_start {l : List Nd} (h : Lad l) (a : Int) : mesL l [] (steps l a) ≤ 500000 := by
  have h1 := left_le l.length []
  have h2 := h.steps_len a
  have h3 := h.len
  have h4 : left l.length [] * 2002 ≤ 200 * 2002 := Nat.mul_le_mul_right _ (by omega)
  unfold mesL
  omega
def lbInv (l : List Nd) (R : List Int) (k : Nat) (σ : St) : Prop :=
  ∃ (met todo : List Int) (L : List AV) (off : Nat), goL l k met todo = R ∧ mesL l met todo ≤ k ∧ k ≤ 500000 ∧ (∀ x, x ∈ todo → 0 ≤ x ∧ x < l.length) ∧
    σ.T 0 = .mv (treeM l) ∧ σ.T 5 = .mp 8 (metM met) ∧ σ.H 8 = some ⟨1, 82, [], 0⟩ ∧ σ.T 6 = .rs 11 off todo.length ∧ σ.H 11 = some ⟨1, 3, L, 0⟩ ∧ L.length = off + todo.length ∧ L.drop off = todo.map (AV.int .i64)
set_option maxHeartbeats 4000000 in
theorem below_ok (l : List Nd) (h : Lad l) (a : Int) : AFn Try.prog 58 [.mv (treeM l), .int .i64 a] (.mv (metM (belowL l a))) := by
  refine fn_lbelow rfl ?_
  have cS := steps_ok l h a
  have hst := mesL_start h a
  obtain ⟨R, hR⟩ : ∃ R, belowL l a = R := ⟨_, rfl⟩
  rw [hR]
  (repeat (first | simp (maxSteps := 4000000) only [go_sem, ↓reduceIte, reduceCtorEq, Nat.reduceEqDiff, Nat.reduceBEq, Nat.reduceAdd, Nat.reduceSub, Nat.reduceMul, Nat.reduceLT, Nat.reduceLeDiff, Nat.reduceBNe, Int.reduceBEq, Int.reduceBNe, Int.reduceLT, Int.reduceLE, evM, entOk.eq_1, entOk.eq_2, ents.eq_1, ents.eq_2, kI.eq_1, mpOk.eq_1, mpR.eq_1, lkV.eq_1, lkV.eq_2] | refine calling (cS) ?_ | refine callingH (cS) ?_ | refine And.intro (by omega) ?_ | refine And.intro (fun d hd => by (repeat (rcases hd with rfl | hd; · exact ⟨rfl, rfl⟩)); cases hd) ?_))
  refine run_loop (lbInv l R) (k := mesL l [] (steps l a)) ⟨[], steps l a, (steps l a).map (AV.int .i64), 0, hR, Nat.le_refl _, hst, fun x hx => h.step hx, ?_, ?_, ?_, ?_, ?_, by simp, rfl⟩ ?_
  · (simp (maxSteps := 4000000) only [go_sem, ↓reduceIte, reduceCtorEq, Nat.reduceEqDiff, Nat.reduceBEq, Nat.reduceAdd, Nat.reduceSub, Nat.reduceMul, Nat.reduceLT, Nat.reduceLeDiff, Nat.reduceBNe, Int.reduceBEq, Int.reduceBNe, Int.reduceLT, Int.reduceLE, evM, entOk.eq_1, entOk.eq_2, ents.eq_1, ents.eq_2, kI.eq_1, mpOk.eq_1, mpR.eq_1, lkV.eq_1, lkV.eq_2]) <;> rfl
  · (simp (maxSteps := 4000000) only [go_sem, ↓reduceIte, reduceCtorEq, Nat.reduceEqDiff, Nat.reduceBEq, Nat.reduceAdd, Nat.reduceSub, Nat.reduceMul, Nat.reduceLT, Nat.reduceLeDiff, Nat.reduceBNe, Int.reduceBEq, Int.reduceBNe, Int.reduceLT, Int.reduceLE, evM, entOk.eq_1, entOk.eq_2, ents.eq_1, ents.eq_2, kI.eq_1, mpOk.eq_1, mpR.eq_1, lkV.eq_1, lkV.eq_2]) <;> rfl
  · (simp (maxSteps := 4000000) only [go_sem, ↓reduceIte, reduceCtorEq, Nat.reduceEqDiff, Nat.reduceBEq, Nat.reduceAdd, Nat.reduceSub, Nat.reduceMul, Nat.reduceLT, Nat.reduceLeDiff, Nat.reduceBNe, Int.reduceBEq, Int.reduceBNe, Int.reduceLT, Int.reduceLE, evM, entOk.eq_1, entOk.eq_2, ents.eq_1, ents.eq_2, kI.eq_1, mpOk.eq_1, mpR.eq_1, lkV.eq_1, lkV.eq_2]) <;> rfl
  · (simp (maxSteps := 4000000) only [go_sem, ↓reduceIte, reduceCtorEq, Nat.reduceEqDiff, Nat.reduceBEq, Nat.reduceAdd, Nat.reduceSub, Nat.reduceMul, Nat.reduceLT, Nat.reduceLeDiff, Nat.reduceBNe, Int.reduceBEq, Int.reduceBNe, Int.reduceLT, Int.reduceLE, evM, entOk.eq_1, entOk.eq_2, ents.eq_1, ents.eq_2, kI.eq_1, mpOk.eq_1, mpR.eq_1, lkV.eq_1, lkV.eq_2, List.length_map]) <;> rfl
  · (simp (maxSteps := 4000000) only [go_sem, ↓reduceIte, reduceCtorEq, Nat.reduceEqDiff, Nat.reduceBEq, Nat.reduceAdd, Nat.reduceSub, Nat.reduceMul, Nat.reduceLT, Nat.reduceLeDiff, Nat.reduceBNe, Int.reduceBEq, Int.reduceBNe, Int.reduceLT, Int.reduceLE, evM, entOk.eq_1, entOk.eq_2, ents.eq_1, ents.eq_2, kI.eq_1, mpOk.eq_1, mpR.eq_1, lkV.eq_1, lkV.eq_2]) <;> rfl
  clear hR hst cS
  rintro k σ ⟨met, todo, L, off, hr, hm, hk, hb, t0, t5, h8, t6, h11, hL, hd⟩
  simp only [r_lbelow_l9]
  cases todo with
  | nil =>
    rw [goL_nil] at hr
    subst hr
    have z : ¬ (0 : Int) < ((0 : Nat) : Int) := by decide
    simp (maxSteps := 4000000) only [go_sem, ↓reduceIte, reduceCtorEq, Nat.reduceEqDiff, Nat.reduceBEq, Nat.reduceAdd, Nat.reduceSub, Nat.reduceMul, Nat.reduceLT, Nat.reduceLeDiff, Nat.reduceBNe, Int.reduceBEq, Int.reduceBNe, Int.reduceLT, Int.reduceLE, evM, entOk.eq_1, entOk.eq_2, ents.eq_1, ents.eq_2, kI.eq_1, mpOk.eq_1, mpR.eq_1, lkV.eq_1, lkV.eq_2, t0, t5, h8, t6, h11, z]
  | cons n rest =>
    obtain ⟨k, rfl⟩ : ∃ k', k = k' + 1 := ⟨k - 1, by unfold mesL at hm; rw [List.length_cons] at hm; omega⟩
    have hn := hb n (List.mem_cons_self ..)
    have h0 : (0 : Int) < ((rest.length + 1 : Nat) : Int) := by omega
    have hg : L.getD off .und = .int .i64 n := by
      have := congrArg (fun x : List AV => x[0]?) hd
      simp only [List.getElem?_drop, Nat.add_zero, List.map_cons, List.getElem?_cons_zero] at this
      rw [List.getD_eq_getElem?_getD, this]; rfl
    have hd' : L.drop (off + 1) = rest.map (AV.int .i64) := by
      have := congrArg List.tail hd
      rw [List.tail_drop] at this
      exact this
    have hL' : L.length = off + 1 + rest.length := by rw [hL, List.length_cons]; omega
    have hoff : off < L.length := by omega
    have tn0 : Int.toNat 0 = 0 := rfl
    rw [goL] at hr
    have hlk := lkp_met met n
    cases hc : met.contains n with
    | true =>
      rw [hc, if_pos rfl] at hr hlk
      simp (maxSteps := 4000000) only [go_sem, ↓reduceIte, reduceCtorEq, Nat.reduceEqDiff, Nat.reduceBEq, Nat.reduceAdd, Nat.reduceSub, Nat.reduceMul, Nat.reduceLT, Nat.reduceLeDiff, Nat.reduceBNe, Int.reduceBEq, Int.reduceBNe, Int.reduceLT, Int.reduceLE, evM, entOk.eq_1, entOk.eq_2, ents.eq_1, ents.eq_2, kI.eq_1, mpOk.eq_1, mpR.eq_1, lkV.eq_1, lkV.eq_2, t0, t5, h8, t6, h11, h0, hg, hoff, tn0, hlk, Nat.add_sub_cancel]
      refine ⟨by show 1 ≤ _; omega, k, by omega, met, rest, L, off + 1, hr, ?_, by omega, fun x hx => hb x (List.mem_cons_of_mem _ hx), ?_, ?_, ?_, ?_, ?_, hL', hd'⟩
      · unfold mesL at hm ⊢; rw [List.length_cons] at hm; omega
      · simp (maxSteps := 4000000) only [go_sem, ↓reduceIte, reduceCtorEq, Nat.reduceEqDiff, Nat.reduceBEq, Nat.reduceAdd, Nat.reduceSub, Nat.reduceMul, Nat.reduceLT, Nat.reduceLeDiff, Nat.reduceBNe, Int.reduceBEq, Int.reduceBNe, Int.reduceLT, Int.reduceLE, evM, entOk.eq_1, entOk.eq_2, ents.eq_1, ents.eq_2, kI.eq_1, mpOk.eq_1, mpR.eq_1, lkV.eq_1, lkV.eq_2, t0]
      · simp (maxSteps := 4000000) only [go_sem, ↓reduceIte, reduceCtorEq, Nat.reduceEqDiff, Nat.reduceBEq, Nat.reduceAdd, Nat.reduceSub, Nat.reduceMul, Nat.reduceLT, Nat.reduceLeDiff, Nat.reduceBNe, Int.reduceBEq, Int.reduceBNe, Int.reduceLT, Int.reduceLE, evM, entOk.eq_1, entOk.eq_2, ents.eq_1, ents.eq_2, kI.eq_1, mpOk.eq_1, mpR.eq_1, lkV.eq_1, lkV.eq_2, t5]
      · simp (maxSteps := 4000000) only [go_sem, ↓reduceIte, reduceCtorEq, Nat.reduceEqDiff, Nat.reduceBEq, Nat.reduceAdd, Nat.reduceSub, Nat.reduceMul, Nat.reduceLT, Nat.reduceLeDiff, Nat.reduceBNe, Int.reduceBEq, Int.reduceBNe, Int.reduceLT, Int.reduceLE, evM, entOk.eq_1, entOk.eq_2, ents.eq_1, ents.eq_2, kI.eq_1, mpOk.eq_1, mpR.eq_1, lkV.eq_1, lkV.eq_2, h8]
      · simp (maxSteps := 4000000) only [go_sem, ↓reduceIte, reduceCtorEq, Nat.reduceEqDiff, Nat.reduceBEq, Nat.reduceAdd, Nat.reduceSub, Nat.reduceMul, Nat.reduceLT, Nat.reduceLeDiff, Nat.reduceBNe, Int.reduceBEq, Int.reduceBNe, Int.reduceLT, Int.reduceLE, evM, entOk.eq_1, entOk.eq_2, ents.eq_1, ents.eq_2, kI.eq_1, mpOk.eq_1, mpR.eq_1, lkV.eq_1, lkV.eq_2]
      · simp (maxSteps := 4000000) only [go_sem, ↓reduceIte, reduceCtorEq, Nat.reduceEqDiff, Nat.reduceBEq, Nat.reduceAdd, Nat.reduceSub, Nat.reduceMul, Nat.reduceLT, Nat.reduceLeDiff, Nat.reduceBNe, Int.reduceBEq, Int.reduceBNe, Int.reduceLT, Int.reduceLE, evM, entOk.eq_1, entOk.eq_2, ents.eq_1, ents.eq_2, kI.eq_1, mpOk.eq_1, mpR.eq_1, lkV.eq_1, lkV.eq_2, h11]
    | false =>
      rw [hc, if_neg (by decide)] at hr hlk
      have hup := upk_met hc
      have cN := steps_ok l h n
      have hT : List.take (steps l n).length ((steps l n).map (AV.int .i64)) = (steps l n).map (AV.int .i64) := List.take_of_length_le (by simp)
      have hTk : L.take (off + 1 + rest.length) = L := List.take_of_length_le (by omega)
      have hDk : (L.drop (off + 1)).take rest.length = rest.map (AV.int .i64) := by rw [hd', List.take_of_length_le (by simp)]
      have hms := mesL_next h (todo := rest) hn hc
      have hsl := h.steps_len n
      have hbnd : rest.length ≤ 500000 := by unfold mesL at hm; rw [List.length_cons] at hm; omega
      have hb' : ∀ x, x ∈ rest ++ steps l n → 0 ≤ x ∧ x < l.length := fun x hx => by
        rcases List.mem_append.1 hx with q | q
        · exact hb x (List.mem_cons_of_mem _ q)
        · exact h.step q
      have hlen : (rest ++ steps l n).length = rest.length + (steps l n).length := List.length_append
      (repeat (first | simp (maxSteps := 4000000) only [go_sem, ↓reduceIte, reduceCtorEq, Nat.reduceEqDiff, Nat.reduceBEq, Nat.reduceAdd, Nat.reduceSub, Nat.reduceMul, Nat.reduceLT, Nat.reduceLeDiff, Nat.reduceBNe, Int.reduceBEq, Int.reduceBNe, Int.reduceLT, Int.reduceLE, evM, entOk.eq_1, entOk.eq_2, ents.eq_1, ents.eq_2, kI.eq_1, mpOk.eq_1, mpR.eq_1, lkV.eq_1, lkV.eq_2, t0, t5, h8, t6, h11, h0, hg, hoff, tn0, hlk, hup, hT, Nat.add_sub_cancel, List.length_map] | refine calling (cN) ?_ | refine callingH (cN) ?_ | refine And.intro (by omega) ?_ | refine And.intro (fun d hd => by (repeat (rcases hd with rfl | hd; · exact ⟨rfl, rfl⟩)); cases hd) ?_))
      refine ⟨⟨⟨by omega, by omega⟩, ints_one _⟩, ⟨k, by omega, met ++ [n], rest ++ steps l n, L ++ (steps l n).map (AV.int .i64), off + 1, hr, by omega, by omega, hb', ?_, ?_, ?_, ?_, ?_, by rw [List.length_append, List.length_map, hL', hlen]; omega, ?_⟩, ⟨k, by omega, met ++ [n], rest ++ steps l n, rest.map (AV.int .i64) ++ (steps l n).map (AV.int .i64), 0, hr, by omega, by omega, hb', ?_, ?_, ?_, ?_, ?_, ?_, ?_⟩⟩
      · simp (maxSteps := 4000000) only [go_sem, ↓reduceIte, reduceCtorEq, Nat.reduceEqDiff, Nat.reduceBEq, Nat.reduceAdd, Nat.reduceSub, Nat.reduceMul, Nat.reduceLT, Nat.reduceLeDiff, Nat.reduceBNe, Int.reduceBEq, Int.reduceBNe, Int.reduceLT, Int.reduceLE, evM, entOk.eq_1, entOk.eq_2, ents.eq_1, ents.eq_2, kI.eq_1, mpOk.eq_1, mpR.eq_1, lkV.eq_1, lkV.eq_2, t0]
      · simp (maxSteps := 4000000) only [go_sem, ↓reduceIte, reduceCtorEq, Nat.reduceEqDiff, Nat.reduceBEq, Nat.reduceAdd, Nat.reduceSub, Nat.reduceMul, Nat.reduceLT, Nat.reduceLeDiff, Nat.reduceBNe, Int.reduceBEq, Int.reduceBNe, Int.reduceLT, Int.reduceLE, evM, entOk.eq_1, entOk.eq_2, ents.eq_1, ents.eq_2, kI.eq_1, mpOk.eq_1, mpR.eq_1, lkV.eq_1, lkV.eq_2, t5, hup]
      · simp (maxSteps := 4000000) only [go_sem, ↓reduceIte, reduceCtorEq, Nat.reduceEqDiff, Nat.reduceBEq, Nat.reduceAdd, Nat.reduceSub, Nat.reduceMul, Nat.reduceLT, Nat.reduceLeDiff, Nat.reduceBNe, Int.reduceBEq, Int.reduceBNe, Int.reduceLT, Int.reduceLE, evM, entOk.eq_1, entOk.eq_2, ents.eq_1, ents.eq_2, kI.eq_1, mpOk.eq_1, mpR.eq_1, lkV.eq_1, lkV.eq_2, h8]
      · simp (maxSteps := 4000000) only [go_sem, ↓reduceIte, reduceCtorEq, Nat.reduceEqDiff, Nat.reduceBEq, Nat.reduceAdd, Nat.reduceSub, Nat.reduceMul, Nat.reduceLT, Nat.reduceLeDiff, Nat.reduceBNe, Int.reduceBEq, Int.reduceBNe, Int.reduceLT, Int.reduceLE, evM, entOk.eq_1, entOk.eq_2, ents.eq_1, ents.eq_2, kI.eq_1, mpOk.eq_1, mpR.eq_1, lkV.eq_1, lkV.eq_2, hlen, hT, List.length_map]
      · simp (maxSteps := 4000000) only [go_sem, ↓reduceIte, reduceCtorEq, Nat.reduceEqDiff, Nat.reduceBEq, Nat.reduceAdd, Nat.reduceSub, Nat.reduceMul, Nat.reduceLT, Nat.reduceLeDiff, Nat.reduceBNe, Int.reduceBEq, Int.reduceBNe, Int.reduceLT, Int.reduceLE, evM, entOk.eq_1, entOk.eq_2, ents.eq_1, ents.eq_2, kI.eq_1, mpOk.eq_1, mpR.eq_1, lkV.eq_1, lkV.eq_2, h11, hT, hTk]
      · rw [List.drop_append_of_le_length (by omega), hd', List.map_append]
      · simp (maxSteps := 4000000) only [go_sem, ↓reduceIte, reduceCtorEq, Nat.reduceEqDiff, Nat.reduceBEq, Nat.reduceAdd, Nat.reduceSub, Nat.reduceMul, Nat.reduceLT, Nat.reduceLeDiff, Nat.reduceBNe, Int.reduceBEq, Int.reduceBNe, Int.reduceLT, Int.reduceLE, evM, entOk.eq_1, entOk.eq_2, ents.eq_1, ents.eq_2, kI.eq_1, mpOk.eq_1, mpR.eq_1, lkV.eq_1, lkV.eq_2, t0]
      · simp (maxSteps := 4000000) only [go_sem, ↓reduceIte, reduceCtorEq, Nat.reduceEqDiff, Nat.reduceBEq, Nat.reduceAdd, Nat.reduceSub, Nat.reduceMul, Nat.reduceLT, Nat.reduceLeDiff, Nat.reduceBNe, Int.reduceBEq, Int.reduceBNe, Int.reduceLT, Int.reduceLE, evM, entOk.eq_1, entOk.eq_2, ents.eq_1, ents.eq_2, kI.eq_1, mpOk.eq_1, mpR.eq_1, lkV.eq_1, lkV.eq_2, t5, hup]
      · simp (maxSteps := 4000000) only [go_sem, ↓reduceIte, reduceCtorEq, Nat.reduceEqDiff, Nat.reduceBEq, Nat.reduceAdd, Nat.reduceSub, Nat.reduceMul, Nat.reduceLT, Nat.reduceLeDiff, Nat.reduceBNe, Int.reduceBEq, Int.reduceBNe, Int.reduceLT, Int.reduceLE, evM, entOk.eq_1, entOk.eq_2, ents.eq_1, ents.eq_2, kI.eq_1, mpOk.eq_1, mpR.eq_1, lkV.eq_1, lkV.eq_2, h8]
      · simp (maxSteps := 4000000) only [go_sem, ↓reduceIte, reduceCtorEq, Nat.reduceEqDiff, Nat.reduceBEq, Nat.reduceAdd, Nat.reduceSub, Nat.reduceMul, Nat.reduceLT, Nat.reduceLeDiff, Nat.reduceBNe, Int.reduceBEq, Int.reduceBNe, Int.reduceLT, Int.reduceLE, evM, entOk.eq_1, entOk.eq_2, ents.eq_1, ents.eq_2, kI.eq_1, mpOk.eq_1, mpR.eq_1, lkV.eq_1, lkV.eq_2, hlen, hT, List.length_map]
      · simp (maxSteps := 4000000) only [go_sem, ↓reduceIte, reduceCtorEq, Nat.reduceEqDiff, Nat.reduceBEq, Nat.reduceAdd, Nat.reduceSub, Nat.reduceMul, Nat.reduceLT, Nat.reduceLeDiff, Nat.reduceBNe, Int.reduceBEq, Int.reduceBNe, Int.reduceLT, Int.reduceLE, evM, entOk.eq_1, entOk.eq_2, ents.eq_1, ents.eq_2, kI.eq_1, mpOk.eq_1, mpR.eq_1, lkV.eq_1, lkV.eq_2, h11, hT, hDk]
      · rw [List.length_append, List.length_map, List.length_map, hlen, Nat.zero_add]
      · rw [List.drop_zero, List.map_append]
set_option maxHeartbeats 1000000 in
theorem Below_ok (l : List Nd) (h : Lad l) (a b : Int) : AFn Try.prog 13 [.sl (l.map Nd.a), .int .i64 a, .int .i64 b] (.bool ((belowL l a).contains b)) := by
  refine fn_lBelow rfl ?_
  have c1 := lof_ok l h.ord h.len
  have c2 := below_ok l h a
  have hlk := lkp_met (belowL l a) b
  cases hc : (belowL l a).contains b with
  | true =>
    rw [hc, if_pos rfl] at hlk
    (repeat (first | simp (maxSteps := 4000000) only [go_sem, ↓reduceIte, reduceCtorEq, Nat.reduceEqDiff, Nat.reduceBEq, Nat.reduceAdd, Nat.reduceSub, Nat.reduceMul, Nat.reduceLT, Nat.reduceLeDiff, Nat.reduceBNe, Int.reduceBEq, Int.reduceBNe, Int.reduceLT, Int.reduceLE, evM, entOk.eq_1, entOk.eq_2, ents.eq_1, ents.eq_2, kI.eq_1, mpOk.eq_1, mpR.eq_1, lkV.eq_1, lkV.eq_2, hlk] | refine calling (c1) ?_ | refine callingH (c1) ?_ | refine calling (c2) ?_ | refine callingH (c2) ?_ | refine And.intro (by omega) ?_ | refine And.intro (fun d hd => by (repeat (rcases hd with rfl | hd; · exact ⟨rfl, rfl⟩)); cases hd) ?_))
  | false =>
    rw [hc, if_neg (by decide)] at hlk
    (repeat (first | simp (maxSteps := 4000000) only [go_sem, ↓reduceIte, reduceCtorEq, Nat.reduceEqDiff, Nat.reduceBEq, Nat.reduceAdd, Nat.reduceSub, Nat.reduceMul, Nat.reduceLT, Nat.reduceLeDiff, Nat.reduceBNe, Int.reduceBEq, Int.reduceBNe, Int.reduceLT, Int.reduceLE, evM, entOk.eq_1, entOk.eq_2, ents.eq_1, ents.eq_2, kI.eq_1, mpOk.eq_1, mpR.eq_1, lkV.eq_1, lkV.eq_2, hlk] | refine calling (c1) ?_ | refine callingH (c1) ?_ | refine calling (c2) ?_ | refine callingH (c2) ?_ | refine And.intro (by omega) ?_ | refine And.intro (fun d hd => by (repeat (rcases hd with rfl | hd; · exact ⟨rfl, rfl⟩)); cases hd) ?_))
end
end Go.Proofs.Ythfdbjocpicbmaa
