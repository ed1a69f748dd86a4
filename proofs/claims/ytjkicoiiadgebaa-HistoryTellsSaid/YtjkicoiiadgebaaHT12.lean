/-
  'Rows.HistoryTellsSaid' is proved: the law percolatelaw39.HistoryTells returns true at every input, and its arguments read as they did. No condition.
-/
import Derived.SizedLaws
import Derived.Test.YtjkicoiiadgebaaHT11
namespace Go.Proofs.Ytjkicoiiadgebaa
attribute [local go_sem] ev0 ev1 ev2 ev3 ev4 evA stHOk.eq_1 stHOk.eq_2 stHSt.eq_1 stHSt.eq_2 okV valV fzV okF valF okBld valBld mxOk.eq_1 mxOk.eq_2 mxVal.eq_1 mxVal.eq_2 cellFit.eq_1 cellFit.eq_2 cellFit.eq_3 cellEq.eq_1 cellEq.eq_2 cellEq.eq_3 upd_at AV.flatB AV.flatBs binIok binIV binSok binSV cellsOk.eq_1 cellsOk.eq_2 cellsVal.eq_1 cellsVal.eq_2 objCells.eq_1 objCells.eq_2 objZ.eq_1 objZ.eq_2 objProt.eq_1 objProt.eq_2 oneObj ptrOk.eq_1 ptrOk.eq_2 ptrOk.eq_3 ptrCells.eq_1 ptrCells.eq_2 ptrCells.eq_3 lenOk.eq_1 lenOk.eq_2 lenOk.eq_3 lenOk.eq_4 lenVal.eq_1 lenVal.eq_2 lenVal.eq_3 lenVal.eq_4 faOk.eq_1 faOk.eq_2 faOk.eq_3 faVal.eq_1 faVal.eq_2 faVal.eq_3 iaOk.eq_1 iaOk.eq_2 iaOk.eq_3 iaVal.eq_1 iaVal.eq_2 iaVal.eq_3 slcLen.eq_1 slcLen.eq_2 slcLen.eq_3 slcLen.eq_4 bdOk.eq_1 bdOk.eq_2 bdVal.eq_1 bdVal.eq_2 slcOk.eq_1 slcOk.eq_2 slcOk.eq_3 slcOk.eq_4 slcVal.eq_1 slcVal.eq_2 slcVal.eq_3 slcVal.eq_4 slcFz.eq_1 slcFz.eq_2 loK.eq_1 loK.eq_2 loK.eq_3 rsVal.eq_1 rsVal.eq_2 rsVal.eq_3 byOk.eq_1 byOk.eq_2 byOk.eq_3 byOk.eq_4 byOk.eq_5 byOk.eq_6 byOk.eq_7 byOk.eq_8 byVal.eq_1 byVal.eq_2 byVal.eq_3 byFz.eq_1 byFz.eq_2 byFz.eq_3 byOks byVals byFzs allOne resSt.eq_1 resSt.eq_2 resName.eq_1 resName.eq_2 stOk.eq_1 stOk.eq_2 stArr.eq_1 stArr.eq_2 stSt.eq_1 stSt.eq_2 AV.patch nameOk_none gB.eq_1 gB.eq_2 gB.eq_3 gIs.eq_1 gIs.eq_2 gIs.eq_3 retV resV resVs evalV cellsV St.byval List.getD_cons_zero List.getD_cons_succ List.getD_nil List.map_cons List.map_nil List.length_cons List.length_nil List.take_succ_cons List.take_zero List.drop_succ_cons List.drop_zero List.headD_cons List.set_cons_zero List.append_nil List.nil_append List.cons_append List.contains_cons List.contains_nil List.elem_cons List.elem_nil List.all_cons List.all_nil List.getElem?_cons_zero List.getElem?_cons_succ List.filterMap_cons List.filterMap_nil Option.isSome_some Option.isSome_none Option.map_some Option.map_none Option.some.injEq AV.int.injEq AV.bool.injEq AV.str.injEq AV.tup.injEq AV.agg.injEq AV.sl.injEq List.cons.injEq Bool.false_eq_true Bool.true_eq_false Bool.not_true Bool.not_false Bool.and_true Bool.true_and Bool.or_false Bool.or_true Bool.false_or Bool.true_or Bool.or_self Bool.and_self Bool.not_eq_true' Bool.not_eq_false' Bool.not_not beq_self_eq_true true_and and_true false_and and_false and_self not_true_eq_false not_false_eq_true forall_const true_implies false_implies implies_true imp_self Nat.lt_add_one Nat.le_refl Nat.zero_le Nat.add_zero Nat.zero_add decide_true decide_false decide_eq_true_eq decide_eq_false_iff_not exists_eq_left exists_eq_left' ge_iff_le gt_iff_lt ite_branch ite_branch' nilOk.eq_1 nilOk.eq_2 nilMay.eq_1 nilMay.eq_2 AV.isSl.eq_1 objTy'.eq_1 objTy'.eq_2 apSt.eq_1 apArr.eq_1 apArr.eq_2 apTwo.eq_1 apTwo.eq_2 apSt2.eq_1 apArr2.eq_1 apArr2.eq_2 slOf.eq_1 fitsV List.mem_cons List.not_mem_nil Bool.false_and Bool.and_false primOk.eq_1 primOk.eq_2 primOk.eq_3 primOk.eq_4 primOk.eq_5 primVal.eq_1 primVal.eq_2 primVal.eq_3 primVal.eq_4 primVal.eq_5 mOk.eq_1 mOk.eq_2 mVal.eq_1 mVal.eq_2 mFz.eq_1 mFz.eq_2 mOks mVals mFzs mCalOk.eq_1 mCalOk.eq_2 mFn.eq_1 mFn.eq_2 mArgs.eq_1 mArgs.eq_2 ckOk.eq_1 ckOk.eq_2 cloOk.eq_1 ptrAt.eq_1 sh.eq_1 sh.eq_2 sh.eq_3 sh.eq_4 sh.eq_5 sh.eq_6 retM shH_small evM entOk.eq_1 entOk.eq_2 ents.eq_1 ents.eq_2 kI.eq_1 mpOk.eq_1 mpR.eq_1 lkV.eq_1 lkV.eq_2 remp.eq_2 evP pvOk.eq_1 pvOk.eq_2 pvVal.eq_1 pvVal.eq_2 plOk.eq_1 plOk.eq_2 plOk.eq_3 plV.eq_1 plV.eq_2 plF.eq_1 plF.eq_2 plVal.eq_1 plVal.eq_2 plFz.eq_1 plFz.eq_2 lpOk.eq_1 lpOk.eq_2 lpVal.eq_1 lpVal.eq_2 lpFz.eq_1 lpFz.eq_2 stpOk.eq_1 stpOk.eq_2 stpSt.eq_1 stpSt.eq_2 stpArr.eq_1 keepS.eq_1 keepS.eq_2
section
/-
  Events put in order by their points: the library's stable sort, and the code's Points: walked.
-/
open Go.RowKit
set_option linter.unusedVariables false
set_option linter.unusedSimpArgs false
set_option maxRecDepth 100000
attribute [local go_sem ↓] runOp headOp
/-! ### cmp.isNaN[int] -/
def r_nanI_0 : Reg := ⟨[], [⟨(.mv (.c (.bool false))), (some 2), none, [], []⟩], [], [], false⟩
def t_nanI_1 : List ROp := [⟨(.mv (.t 0)), (some 3), none, [], []⟩, ⟨(.mv (.t 0)), (some 4), none, [], []⟩, ⟨(.bin .neq (.t 3) (.t 4)), (some 5), none, [], []⟩, ⟨(.mv (.t 5)), (some 2), none, [], []⟩]
def r_nanI_1 : Reg := ⟨[], t_nanI_1, [], [], false⟩
def ir_nanI : IR := (.seq (.reg r_nanI_0)
  (.seq (.reg r_nanI_1)
  .ret))
def res_nanI : List RDesc := [(.tmp 2)]
theorem e_nanI_0 (C : FuncId → List AV → AV → Prop) (σ : St) (K : St → Prop) : runReg C r_nanI_0 σ K = runOps C [⟨(.mv (.c (.bool false))), (some 2), none, [], []⟩] (σ.kills []) K := rfl
theorem e_nanI_1 (C : FuncId → List AV → AV → Prop) (σ : St) (K : St → Prop) : runReg C r_nanI_1 σ K = runOps C t_nanI_1 (σ.kills []) K := rfl
theorem fn_nanI {args : List AV} {r : AV} (ha : args.length.ble Try.f40.ntmps = true) (h : run (AFn Try.prog) ir_nanI (endQ res_nanI r) (initSt args)) : AFn Try.prog 40 args r :=
  AFn.of_code (pv := false) (hint := fun _ => []) (c := Try.f40.body.getD .skip) (by kernel_rfl) (by kernel_rfl) Try.func40 (by kernel_rfl) (by kernel_rfl) (by kernel_rfl) (of_decide_eq_true (by kernel_rfl)) (Nat.le_of_ble_eq_true ha) (Nat.le_of_ble_eq_true (by kernel_rfl)) (run_ok h)
/-! ### cmp.Compare[int] -/
def r_cmpI_0 : Reg := ⟨[], [⟨(.mv (.c (.int .i64 0))), (some 4), none, [], []⟩], [], [], false⟩
def t_cmpI_1 : List ROp := [⟨(.mv (.t 0)), (some 7), none, [8], []⟩, ⟨(.callv (.c (.clo 40 [] [])) [(.t 7)]), (some 8), none, [], []⟩, ⟨(.mv (.t 8)), (some 5), none, [], []⟩]
def r_cmpI_1 : Reg := ⟨[], t_cmpI_1, [8], [], false⟩
def t_cmpI_2 : List ROp := [⟨(.mv (.t 1)), (some 9), none, [10], []⟩, ⟨(.callv (.c (.clo 40 [] [])) [(.t 9)]), (some 10), none, [], []⟩, ⟨(.mv (.t 10)), (some 6), none, [], []⟩]
def r_cmpI_2 : Reg := ⟨[], t_cmpI_2, [10], [], false⟩
def r_cmpI_3 : Reg := ⟨[], [⟨(.mv (.t 5)), (some 11), none, [], []⟩], [], [], false⟩
def r_cmpI_4 : Reg := ⟨[], [⟨(.mv (.t 6)), (some 12), none, [], []⟩], [], [], false⟩
def r_cmpI_5 : Reg := ⟨[], [⟨(.mv (.c (.int .i64 0))), (some 4), none, [], []⟩], [], [], false⟩
def r_cmpI_6 : Reg := ⟨[], [⟨(.mv (.c (.int .i64 (-1)))), (some 4), none, [], []⟩], [], [], false⟩
def r_cmpI_7 : Reg := ⟨[], [⟨(.mv (.t 6)), (some 13), none, [], []⟩], [], [], false⟩
def r_cmpI_8 : Reg := ⟨[], [⟨(.mv (.c (.int .i64 1))), (some 4), none, [], []⟩], [], [], false⟩
def t_cmpI_9 : List ROp := [⟨(.mv (.t 0)), (some 14), none, [], []⟩, ⟨(.mv (.t 1)), (some 15), none, [], []⟩, ⟨(.bin .lss (.t 14) (.t 15)), (some 16), none, [], []⟩]
def r_cmpI_9 : Reg := ⟨[], t_cmpI_9, [], [], false⟩
def r_cmpI_10 : Reg := ⟨[], [⟨(.mv (.c (.int .i64 (-1)))), (some 4), none, [], []⟩], [], [], false⟩
def t_cmpI_11 : List ROp := [⟨(.mv (.t 0)), (some 17), none, [], []⟩, ⟨(.mv (.t 1)), (some 18), none, [], []⟩, ⟨(.bin .gtr (.t 17) (.t 18)), (some 19), none, [], []⟩]
def r_cmpI_11 : Reg := ⟨[], t_cmpI_11, [], [], false⟩
def r_cmpI_12 : Reg := ⟨[], [⟨(.mv (.c (.int .i64 1))), (some 4), none, [], []⟩], [], [], false⟩
def r_cmpI_13 : Reg := ⟨[], [⟨(.mv (.c (.int .i64 0))), (some 4), none, [], []⟩], [], [], false⟩
def ir_cmpI : IR := (.seq (.reg r_cmpI_0)
  (.seq (.reg r_cmpI_1)
  (.seq (.reg r_cmpI_2)
  (.seq (.seq (.reg r_cmpI_3)
  (.cond (.t 11) (.seq (.seq (.reg r_cmpI_4)
  (.cond (.t 12) (.seq (.reg r_cmpI_5)
  .ret)
  .skip))
  (.seq (.reg r_cmpI_6)
  .ret))
  .skip))
  (.seq (.seq (.reg r_cmpI_7)
  (.cond (.t 13) (.seq (.reg r_cmpI_8)
  .ret)
  .skip))
  (.seq (.seq (.reg r_cmpI_9)
  (.cond (.t 16) (.seq (.reg r_cmpI_10)
  .ret)
  .skip))
  (.seq (.seq (.reg r_cmpI_11)
  (.cond (.t 19) (.seq (.reg r_cmpI_12)
  .ret)
  .skip))
  (.seq (.reg r_cmpI_13)
  .ret))))))))
def res_cmpI : List RDesc := [(.tmp 4)]
theorem e_cmpI_0 (C : FuncId → List AV → AV → Prop) (σ : St) (K : St → Prop) : runReg C r_cmpI_0 σ K = runOps C [⟨(.mv (.c (.int .i64 0))), (some 4), none, [], []⟩] (σ.kills []) K := rfl
theorem e_cmpI_1 (C : FuncId → List AV → AV → Prop) (σ : St) (K : St → Prop) : runReg C r_cmpI_1 σ K = runOps C t_cmpI_1 (σ.kills [8]) K := rfl
theorem e_cmpI_2 (C : FuncId → List AV → AV → Prop) (σ : St) (K : St → Prop) : runReg C r_cmpI_2 σ K = runOps C t_cmpI_2 (σ.kills [10]) K := rfl
theorem e_cmpI_3 (C : FuncId → List AV → AV → Prop) (σ : St) (K : St → Prop) : runReg C r_cmpI_3 σ K = runOps C [⟨(.mv (.t 5)), (some 11), none, [], []⟩] (σ.kills []) K := rfl
theorem e_cmpI_4 (C : FuncId → List AV → AV → Prop) (σ : St) (K : St → Prop) : runReg C r_cmpI_4 σ K = runOps C [⟨(.mv (.t 6)), (some 12), none, [], []⟩] (σ.kills []) K := rfl
theorem e_cmpI_5 (C : FuncId → List AV → AV → Prop) (σ : St) (K : St → Prop) : runReg C r_cmpI_5 σ K = runOps C [⟨(.mv (.c (.int .i64 0))), (some 4), none, [], []⟩] (σ.kills []) K := rfl
theorem e_cmpI_6 (C : FuncId → List AV → AV → Prop) (σ : St) (K : St → Prop) : runReg C r_cmpI_6 σ K = runOps C [⟨(.mv (.c (.int .i64 (-1)))), (some 4), none, [], []⟩] (σ.kills []) K := rfl
theorem e_cmpI_7 (C : FuncId → List AV → AV → Prop) (σ : St) (K : St → Prop) : runReg C r_cmpI_7 σ K = runOps C [⟨(.mv (.t 6)), (some 13), none, [], []⟩] (σ.kills []) K := rfl
theorem e_cmpI_8 (C : FuncId → List AV → AV → Prop) (σ : St) (K : St → Prop) : runReg C r_cmpI_8 σ K = runOps C [⟨(.mv (.c (.int .i64 1))), (some 4), none, [], []⟩] (σ.kills []) K := rfl
theorem e_cmpI_9 (C : FuncId → List AV → AV → Prop) (σ : St) (K : St → Prop) : runReg C r_cmpI_9 σ K = runOps C t_cmpI_9 (σ.kills []) K := rfl
theorem e_cmpI_10 (C : FuncId → List AV → AV → Prop) (σ : St) (K : St → Prop) : runReg C r_cmpI_10 σ K = runOps C [⟨(.mv (.c (.int .i64 (-1)))), (some 4), none, [], []⟩] (σ.kills []) K := rfl
theorem e_cmpI_11 (C : FuncId → List AV → AV → Prop) (σ : St) (K : St → Prop) : runReg C r_cmpI_11 σ K = runOps C t_cmpI_11 (σ.kills []) K := rfl
theorem e_cmpI_12 (C : FuncId → List AV → AV → Prop) (σ : St) (K : St → Prop) : runReg C r_cmpI_12 σ K = runOps C [⟨(.mv (.c (.int .i64 1))), (some 4), none, [], []⟩] (σ.kills []) K := rfl
theorem e_cmpI_13 (C : FuncId → List AV → AV → Prop) (σ : St) (K : St → Prop) : runReg C r_cmpI_13 σ K = runOps C [⟨(.mv (.c (.int .i64 0))), (some 4), none, [], []⟩] (σ.kills []) K := rfl
theorem fn_cmpI {args : List AV} {r : AV} (ha : args.length.ble Try.f33.ntmps = true) (h : run (AFn Try.prog) ir_cmpI (endQ res_cmpI r) (initSt args)) : AFn Try.prog 33 args r :=
  AFn.of_code (pv := false) (hint := fun _ => []) (c := Try.f33.body.getD .skip) (by kernel_rfl) (by kernel_rfl) Try.func33 (by kernel_rfl) (by kernel_rfl) (by kernel_rfl) (of_decide_eq_true (by kernel_rfl)) (Nat.le_of_ble_eq_true ha) (Nat.le_of_ble_eq_true (by kernel_rfl)) (run_ok h)
/-! ### percolate/history.Points$1 -/
def t_cmpE_0 : List ROp := [⟨(.box 15 32 (.t 0)), (some 2), none, [3], []⟩, ⟨(.box 15 32 (.t 1)), (some 3), none, [], []⟩, ⟨(.mv (.c (.int .i64 0))), (some 4), none, [], []⟩]
def r_cmpE_0 : Reg := ⟨[], t_cmpE_0, [2, 3], [], false⟩
def t_cmpE_1 : List ROp := [⟨(.faddr 12 (.t 2)), (some 5), none, [9], []⟩, ⟨(.load 1 false (.t 5)), (some 6), none, [9], []⟩, ⟨(.faddr 12 (.t 3)), (some 7), none, [9], []⟩, ⟨(.load 1 false (.t 7)), (some 8), none, [9], []⟩, ⟨(.callv (.c (.clo 33 [] [])) [(.t 6), (.t 8)]), (some 9), none, [], []⟩, ⟨(.mv (.t 9)), (some 4), none, [], []⟩]
def r_cmpE_1 : Reg := ⟨[], t_cmpE_1, [9], [], false⟩
def ir_cmpE : IR := (.seq (.reg r_cmpE_0)
  (.seq (.reg r_cmpE_1)
  .ret))
def res_cmpE : List RDesc := [(.tmp 4)]
theorem e_cmpE_0 (C : FuncId → List AV → AV → Prop) (σ : St) (K : St → Prop) : runReg C r_cmpE_0 σ K = runOps C t_cmpE_0 (σ.kills [2, 3]) K := rfl
theorem e_cmpE_1 (C : FuncId → List AV → AV → Prop) (σ : St) (K : St → Prop) : runReg C r_cmpE_1 σ K = runOps C t_cmpE_1 (σ.kills [9]) K := rfl
theorem fn_cmpE {args : List AV} {r : AV} (ha : args.length.ble Try.f32.ntmps = true) (h : run (AFn Try.prog) ir_cmpE (endQ res_cmpE r) (initSt args)) : AFn Try.prog 32 args r :=
  AFn.of_code (pv := false) (hint := fun _ => []) (c := Try.f32.body.getD .skip) (by kernel_rfl) (by kernel_rfl) Try.func32 (by kernel_rfl) (by kernel_rfl) (by kernel_rfl) (of_decide_eq_true (by kernel_rfl)) (Nat.le_of_ble_eq_true ha) (Nat.le_of_ble_eq_true (by kernel_rfl)) (run_ok h)
/-! ### slices.SortStableFunc[[]percolate/api.Event,percolate/api.Event] -/
def r_ssE_0 : List XOp := [(.op [] ⟨(.mv (.t 0)), (some 4), none, [], []⟩), (.op [] ⟨(.mv (.t 0)), (some 5), none, [], []⟩), (.op [] ⟨(.len false (.t 5)), (some 6), none, [], []⟩), (.op [] ⟨(.mv (.t 1)), (some 7), none, [], []⟩), (.wcall 8 (.c (.clo 39 [] [])) [(.t 4), (.t 6), (.t 7)])]
def ir_ssE (P : Program) : IR := (.regx P r_ssE_0)
def res_ssE : List RDesc := []
theorem fnm_ssE {args : List AV} {r : AV} {H H' : Nat → Option Arr} (ha : args.length.ble Try.f31.ntmps = true) (h : run (AFn Try.prog) (ir_ssE Try.prog) (endM res_ssE r H') (initM args H)) : MFn Try.prog 31 args H r H' :=
  MFn.of_code (pv := false) (hint := fun _ => [1]) (c := Try.f31.body.getD .skip) (by kernel_rfl) (by kernel_rfl) Try.func31 (by kernel_rfl) (by kernel_rfl) (by kernel_rfl) (of_decide_eq_true (by kernel_rfl)) (Nat.le_of_ble_eq_true ha) (Nat.le_of_ble_eq_true (by kernel_rfl)) (run_ok h)
/-! ### percolate/history.Points -/
def r_hPts_0 : List XOp := [(.op [2] ⟨(.mknil 15 32), (some 2), none, [], []⟩)]
def r_hPts_1 : List XOp := [(.op [3] ⟨(.mknil 15 32), (some 3), none, [], []⟩)]
def r_hPts_2 : List XOp := [(.op [] ⟨(.mv (.t 0)), (some 6), none, [], []⟩), (.op [] ⟨(.len false (.t 6)), (some 7), none, [], []⟩), (.op [] ⟨(.mv (.c (.int .i64 0))), (some 8), none, [], []⟩)]
def r_hPts_3 : List XOp := [(.op [] ⟨(.bin .lss (.t 8) (.t 7)), (some 9), none, [], []⟩)]
def r_hPts_4 : List XOp := [(.op [] ⟨(.iaddr 15 (.t 6) (.t 8)), (some 10), none, [], []⟩), (.op [] ⟨(.load 15 true (.t 10)), (some 11), none, [], []⟩), (.op [5] ⟨(.alloc 15 32 (.agg [(.int .i64 0), (.int .i64 0), (.str ⟨#[]⟩), (.str ⟨#[]⟩), (.bool false), (.str ⟨#[]⟩), (.int .i64 0), (.int .i64 0), (.bool false), (.str ⟨#[]⟩), (.sl []), (.int .i64 0), (.int .i64 0), (.int .i64 0), (.bool false)])), (some 5), none, [], []⟩), (.op [] ⟨(.store 15 (.t 5) (.t 11)), none, none, [], []⟩)]
def r_hPts_5 : List XOp := [(.op [] ⟨(.faddr 14 (.t 5)), (some 12), none, [], []⟩), (.op [] ⟨(.load 1 false (.t 12)), (some 13), none, [], []⟩)]
def r_hPts_6 : List XOp := [(.op [] ⟨(.mv (.t 3)), (some 14), none, [], []⟩), (.op [] ⟨(.load 15 true (.t 5)), (some 15), none, [], []⟩), (.op [16] ⟨(.bsl 15 32 [(.t 15)]), (some 16), none, [], []⟩), (.op [] ⟨(.append 15 32 168 (.t 14) (.t 16)), (some 17), none, [], []⟩), (.op [] ⟨(.mv (.t 17)), (some 3), none, [], []⟩)]
def r_hPts_7 : List XOp := [(.op [] ⟨(.bin .add (.t 8) (.c (.int .i64 1))), (some 18), none, [], []⟩), (.op [] ⟨(.mv (.t 18)), (some 8), none, [], []⟩)]
def r_hPts_l8 (P : Program) : IR := (.seq (.regx P r_hPts_3)
  (.seq (.cond (.t 9) .skip
  (.exit 0))
  (.seq (.block 1 (.seq (.regx P r_hPts_4)
  (.seq (.regx P r_hPts_5)
  (.cond (.t 13) (.regx P r_hPts_6)
  .skip))))
  (.regx P r_hPts_7))))
def r_hPts_9 : List XOp := [(.op [] ⟨(.mv (.t 3)), (some 19), none, [], []⟩), (.wcall 20 (.c (.clo 31 [] [])) [(.t 19), (.c (.clo 32 [] []))])]
def r_hPts_10 : List XOp := [(.op [] ⟨(.mv (.t 3)), (some 21), none, [], []⟩), (.op [] ⟨(.mv (.t 21)), (some 2), none, [], []⟩)]
def ir_hPts (P : Program) : IR := (.seq (.regx P r_hPts_0)
  (.seq (.regx P r_hPts_1)
  (.seq (.seq (.regx P r_hPts_2)
  (.block 0 (.loop (r_hPts_l8 P))))
  (.seq (.regx P r_hPts_9)
  (.seq (.regx P r_hPts_10)
  .ret)))))
def res_hPts : List RDesc := [(.tmp 2)]
theorem fn_hPts {args : List AV} {r : AV} (ha : args.length.ble Try.f16.ntmps = true) (h : run (AFn Try.prog) (ir_hPts Try.prog) (endQ res_hPts r) (initSt args)) : AFn Try.prog 16 args r :=
  AFn.of_code (pv := false) (hint := fun _ => [1]) (c := Try.f16.body.getD .skip) (by kernel_rfl) (by kernel_rfl) Try.func16 (by kernel_rfl) (by kernel_rfl) (by kernel_rfl) (of_decide_eq_true (by kernel_rfl)) (Nat.le_of_ble_eq_true ha) (Nat.le_of_ble_eq_true (by kernel_rfl)) (run_ok h)
attribute [local go_sem ↓] ir_nanI
attribute [local go_sem] res_nanI e_nanI_0 e_nanI_1 t_nanI_1
attribute [local go_sem ↓] ir_cmpI
attribute [local go_sem] res_cmpI e_cmpI_0 e_cmpI_1 t_cmpI_1 e_cmpI_2 t_cmpI_2 e_cmpI_3 e_cmpI_4 e_cmpI_5 e_cmpI_6 e_cmpI_7 e_cmpI_8 e_cmpI_9 t_cmpI_9 e_cmpI_10 e_cmpI_11 t_cmpI_11 e_cmpI_12 e_cmpI_13
attribute [local go_sem ↓] ir_cmpE
attribute [local go_sem] res_cmpE e_cmpE_0 t_cmpE_0 e_cmpE_1 t_cmpE_1
attribute [local go_sem ↓] ir_ssE
attribute [local go_sem] res_ssE r_ssE_0
attribute [local go_sem ↓] ir_hPts
attribute [local go_sem] res_hPts r_hPts_0 r_hPts_1 r_hPts_2 r_hPts_3 r_hPts_4 r_hPts_5 r_hPts_6 r_hPts_7 r_hPts_9 r_hPts_10
theorem nanI_ok (x : Int) : AFn Try.prog 40 [.int .i64 x] (.bool false) := by
  refine fn_nanI rfl ?_
  have h : (x != x) = false := by simp
  simp (maxSteps := 4000000) only [go_sem, ↓reduceIte, reduceCtorEq, Nat.reduceEqDiff, Nat.reduceBEq, Nat.reduceAdd, Nat.reduceSub, Nat.reduceMul, Nat.reduceLT, Nat.reduceLeDiff, Nat.reduceBNe, Int.reduceBEq, Int.reduceBNe, Int.reduceLT, Int.reduceLE, Par.a, Opr.a, Ans.a, nul, evW, retM, h]
def cmpV (x y : Int) : Int := if x < y then -1 else if y < x then 1 else 0
theorem cmpI_ok (x y : Int) : AFn Try.prog 33 [.int .i64 x, .int .i64 y] (.int .i64 (cmpV x y)) := by
  refine fn_cmpI rfl ?_
  by_cases h1 : x < y
  · have e : cmpV x y = -1 := by unfold cmpV; rw [if_pos h1]
    rw [e]
    (repeat (first | simp (maxSteps := 4000000) only [go_sem, ↓reduceIte, reduceCtorEq, Nat.reduceEqDiff, Nat.reduceBEq, Nat.reduceAdd, Nat.reduceSub, Nat.reduceMul, Nat.reduceLT, Nat.reduceLeDiff, Nat.reduceBNe, Int.reduceBEq, Int.reduceBNe, Int.reduceLT, Int.reduceLE, Par.a, Opr.a, Ans.a, nul, evW, retM, h1] | refine calling (nanI_ok _) ?_ | refine callingH (nanI_ok _) ?_ | refine And.intro (by omega) ?_ | refine And.intro (fun d hd => by (repeat (rcases hd with rfl | hd; · exact ⟨rfl, rfl⟩)); cases hd) ?_))
  · by_cases h2 : y < x
    · have e : cmpV x y = 1 := by unfold cmpV; rw [if_neg h1, if_pos h2]
      rw [e]
      (repeat (first | simp (maxSteps := 4000000) only [go_sem, ↓reduceIte, reduceCtorEq, Nat.reduceEqDiff, Nat.reduceBEq, Nat.reduceAdd, Nat.reduceSub, Nat.reduceMul, Nat.reduceLT, Nat.reduceLeDiff, Nat.reduceBNe, Int.reduceBEq, Int.reduceBNe, Int.reduceLT, Int.reduceLE, Par.a, Opr.a, Ans.a, nul, evW, retM, h1, h2] | refine calling (nanI_ok _) ?_ | refine callingH (nanI_ok _) ?_ | refine And.intro (by omega) ?_ | refine And.intro (fun d hd => by (repeat (rcases hd with rfl | hd; · exact ⟨rfl, rfl⟩)); cases hd) ?_))
    · have e : cmpV x y = 0 := by unfold cmpV; rw [if_neg h1, if_neg h2]
      rw [e]
      (repeat (first | simp (maxSteps := 4000000) only [go_sem, ↓reduceIte, reduceCtorEq, Nat.reduceEqDiff, Nat.reduceBEq, Nat.reduceAdd, Nat.reduceSub, Nat.reduceMul, Nat.reduceLT, Nat.reduceLeDiff, Nat.reduceBNe, Int.reduceBEq, Int.reduceBNe, Int.reduceLT, Int.reduceLE, Par.a, Opr.a, Ans.a, nul, evW, retM, h1, h2] | refine calling (nanI_ok _) ?_ | refine callingH (nanI_ok _) ?_ | refine And.intro (by omega) ?_ | refine And.intro (fun d hd => by (repeat (rcases hd with rfl | hd; · exact ⟨rfl, rfl⟩)); cases hd) ?_))
def evtC (x : Evt) : List AV := [.int .i64 x.client, .int .i64 x.op.kind, .str x.op.key, .str x.op.hi, .bool x.op.op, .str x.op.val, .int .i64 x.op.lim, .int .i64 x.ans.err, .bool x.ans.has, .str x.ans.val, .sl (x.ans.prs.map Par.a), .int .i64 x.began, .int .i64 x.point, .int .i64 x.ended, .bool x.done]
def EvK : Kind15 Evt := ⟨evtC, fun _ => rfl, fun _ => rfl⟩
theorem cmpE_ok : CmpOk EvK Evt.point 32 (fun x y => cmpV x.point y.point) := fun x y => by
  refine ⟨?_, ?_⟩
  · refine fn_cmpE rfl ?_
    show run _ _ _ (initSt [.agg (evtC x), .agg (evtC y)])
    unfold evtC
    (repeat (first | simp (maxSteps := 4000000) only [go_sem, ↓reduceIte, reduceCtorEq, Nat.reduceEqDiff, Nat.reduceBEq, Nat.reduceAdd, Nat.reduceSub, Nat.reduceMul, Nat.reduceLT, Nat.reduceLeDiff, Nat.reduceBNe, Int.reduceBEq, Int.reduceBNe, Int.reduceLT, Int.reduceLE, Par.a, Opr.a, Ans.a, nul, evW, retM, List.length_cons, List.length_nil] | refine calling (cmpI_ok _ _) ?_ | refine callingH (cmpI_ok _ _) ?_ | refine And.intro (by omega) ?_ | refine And.intro (fun d hd => by (repeat (rcases hd with rfl | hd; · exact ⟨rfl, rfl⟩)); cases hd) ?_))
  · show cmpV x.point y.point < 0 ↔ _
    unfold cmpV
    split
    · omega
    · split <;> omega
theorem ssE_ok (H : Nat → Option Arr) (r : Nat) (X : List Evt) (hb : X.length ≤ 1000000) (hr : H r = ObjE EvK X) :
    MFn Try.prog 31 [.rs r 0 X.length, .clo 32 [] []] H (.tup []) (upd H r (ObjE EvK (srt Evt.point X))) := by
  refine fnm_ssE rfl ?_
  have h2 : shH H (r + 1000) = ObjE EvK X := by rw [shH_big]; exact hr
  simp (maxSteps := 4000000) only [go_sem, ↓reduceIte, reduceCtorEq, Nat.reduceEqDiff, Nat.reduceBEq, Nat.reduceAdd, Nat.reduceSub, Nat.reduceMul, Nat.reduceLT, Nat.reduceLeDiff, Nat.reduceBNe, Int.reduceBEq, Int.reduceBNe, Int.reduceLT, Int.reduceLE, Par.a, Opr.a, Ans.a, nul, evW, retM, sh, hr, ObjE, made_Hf]
  refine mcalling (stbE_ok EvK Evt.point cmpE_ok (shH H) (r + 1000) X hb h2) ?_
  simp (maxSteps := 4000000) only [go_sem, ↓reduceIte, reduceCtorEq, Nat.reduceEqDiff, Nat.reduceBEq, Nat.reduceAdd, Nat.reduceSub, Nat.reduceMul, Nat.reduceLT, Nat.reduceLeDiff, Nat.reduceBNe, Int.reduceBEq, Int.reduceBNe, Int.reduceLT, Int.reduceLE, Par.a, Opr.a, Ans.a, nul, evW, retM]
  intro q
  by_cases hq : q = r
  · rw [if_pos hq, if_pos hq]; rfl
  · rw [if_neg hq, if_neg hq]
def hpI (l : List Evt) (k : Nat) (σ : St) : Prop :=
  ∃ i : Nat, i ≤ l.length ∧ k = l.length - i ∧ σ.T 6 = .sl (l.map Evt.a) ∧ σ.T 7 = .int .i64 l.length ∧ σ.T 8 = .int .i64 i ∧ σ.T 3 = .rs 3 0 ((l.take i).filter Evt.done).length ∧ σ.H 3 = some ⟨15, 32, ((l.take i).filter Evt.done).map Evt.a, 0⟩
set_option maxHeartbeats 8000000 in
theorem hPts_ok (l : List Evt) (hl : l.length ≤ 1000000) : AFn Try.prog 16 [.sl (l.map Evt.a)] (.own 15 32 ((ptsF l).map Evt.a)) := by
  refine fn_hPts rfl ?_
  simp (maxSteps := 4000000) only [go_sem, ↓reduceIte, reduceCtorEq, Nat.reduceEqDiff, Nat.reduceBEq, Nat.reduceAdd, Nat.reduceSub, Nat.reduceMul, Nat.reduceLT, Nat.reduceLeDiff, Nat.reduceBNe, Int.reduceBEq, Int.reduceBNe, Int.reduceLT, Int.reduceLE, Par.a, Opr.a, Ans.a, nul, evW, retM, List.length_map]
  refine run_loop (hpI l) (k := l.length) ⟨0, Nat.zero_le _, rfl, ?_, ?_, ?_, ?_, ?_⟩ ?_
  · simp (maxSteps := 4000000) only [go_sem, ↓reduceIte, reduceCtorEq, Nat.reduceEqDiff, Nat.reduceBEq, Nat.reduceAdd, Nat.reduceSub, Nat.reduceMul, Nat.reduceLT, Nat.reduceLeDiff, Nat.reduceBNe, Int.reduceBEq, Int.reduceBNe, Int.reduceLT, Int.reduceLE, Par.a, Opr.a, Ans.a, nul, evW, retM]
  · simp (maxSteps := 4000000) only [go_sem, ↓reduceIte, reduceCtorEq, Nat.reduceEqDiff, Nat.reduceBEq, Nat.reduceAdd, Nat.reduceSub, Nat.reduceMul, Nat.reduceLT, Nat.reduceLeDiff, Nat.reduceBNe, Int.reduceBEq, Int.reduceBNe, Int.reduceLT, Int.reduceLE, Par.a, Opr.a, Ans.a, nul, evW, retM, List.length_map]
  · (simp (maxSteps := 4000000) only [go_sem, ↓reduceIte, reduceCtorEq, Nat.reduceEqDiff, Nat.reduceBEq, Nat.reduceAdd, Nat.reduceSub, Nat.reduceMul, Nat.reduceLT, Nat.reduceLeDiff, Nat.reduceBNe, Int.reduceBEq, Int.reduceBNe, Int.reduceLT, Int.reduceLE, Par.a, Opr.a, Ans.a, nul, evW, retM]) <;> rfl
  · (simp (maxSteps := 4000000) only [go_sem, ↓reduceIte, reduceCtorEq, Nat.reduceEqDiff, Nat.reduceBEq, Nat.reduceAdd, Nat.reduceSub, Nat.reduceMul, Nat.reduceLT, Nat.reduceLeDiff, Nat.reduceBNe, Int.reduceBEq, Int.reduceBNe, Int.reduceLT, Int.reduceLE, Par.a, Opr.a, Ans.a, nul, evW, retM]) <;> rfl
  · (simp (maxSteps := 4000000) only [go_sem, ↓reduceIte, reduceCtorEq, Nat.reduceEqDiff, Nat.reduceBEq, Nat.reduceAdd, Nat.reduceSub, Nat.reduceMul, Nat.reduceLT, Nat.reduceLeDiff, Nat.reduceBNe, Int.reduceBEq, Int.reduceBNe, Int.reduceLT, Int.reduceLE, Par.a, Opr.a, Ans.a, nul, evW, retM]) <;> rfl
  rintro k σ ⟨i, hi, rfl, t6, t7, t8, t3, h3⟩
  simp only [r_hPts_l8]
  have hfl : ((l.take i).filter Evt.done).length ≤ 1000000 := Nat.le_trans (List.length_filter_le _ _) (by rw [List.length_take]; omega)
  by_cases hlt : i < l.length
  case neg =>
    have hlt' : ¬ (i : Int) < (l.length : Int) := by omega
    have e : l.take i = l := List.take_of_length_le (by omega)
    rw [e] at t3 h3 hfl
    simp (maxSteps := 4000000) only [go_sem, ↓reduceIte, reduceCtorEq, Nat.reduceEqDiff, Nat.reduceBEq, Nat.reduceAdd, Nat.reduceSub, Nat.reduceMul, Nat.reduceLT, Nat.reduceLeDiff, Nat.reduceBNe, Int.reduceBEq, Int.reduceBNe, Int.reduceLT, Int.reduceLE, Par.a, Opr.a, Ans.a, nul, evW, retM, t6, t7, t8, hlt', t3, made_Hf]
    refine mcalling (ssE_ok _ 3 (l.filter Evt.done) hfl h3) ?_
    have hp : (srt Evt.point (l.filter Evt.done)).length = (l.filter Evt.done).length := srt_length _ _
    simp (maxSteps := 4000000) only [go_sem, ↓reduceIte, reduceCtorEq, Nat.reduceEqDiff, Nat.reduceBEq, Nat.reduceAdd, Nat.reduceSub, Nat.reduceMul, Nat.reduceLT, Nat.reduceLeDiff, Nat.reduceBNe, Int.reduceBEq, Int.reduceBNe, Int.reduceLT, Int.reduceLE, Par.a, Opr.a, Ans.a, nul, evW, retM, t3, ObjE, made_Hf]
    exact ⟨by rw [List.length_map]; exact hp.symm, rfl⟩
  have hlt' : (i : Int) < (l.length : Int) := by omega
  obtain ⟨e, he⟩ := get_lt hlt
  have hge := at_map (f := Evt.a) he
  simp only [Evt.a] at hge
  have hw := wrapS (j := i) (by omega)
  have tk : l.take (i + 1) = l.take i ++ [e] := by rw [List.take_add_one, he]; rfl
  cases hd : e.done with
  | false =>
    have ef : (l.take (i + 1)).filter Evt.done = (l.take i).filter Evt.done := by rw [tk, List.filter_append]; simp [hd]
    simp (maxSteps := 4000000) only [go_sem, ↓reduceIte, reduceCtorEq, Nat.reduceEqDiff, Nat.reduceBEq, Nat.reduceAdd, Nat.reduceSub, Nat.reduceMul, Nat.reduceLT, Nat.reduceLeDiff, Nat.reduceBNe, Int.reduceBEq, Int.reduceBNe, Int.reduceLT, Int.reduceLE, Par.a, Opr.a, Ans.a, nul, evW, retM, t6, t7, t8, t3, h3, hlt', hge, hd, hw, hlt, List.length_map, Int.toNat_natCast]
    (repeat refine And.intro (by omega) ?_)
    refine ⟨l.length - (i + 1), by omega, i + 1, by omega, rfl, ?_, ?_, ?_, ?_, ?_⟩
    · simp (maxSteps := 4000000) only [go_sem, ↓reduceIte, reduceCtorEq, Nat.reduceEqDiff, Nat.reduceBEq, Nat.reduceAdd, Nat.reduceSub, Nat.reduceMul, Nat.reduceLT, Nat.reduceLeDiff, Nat.reduceBNe, Int.reduceBEq, Int.reduceBNe, Int.reduceLT, Int.reduceLE, Par.a, Opr.a, Ans.a, nul, evW, retM, t6]
    · simp (maxSteps := 4000000) only [go_sem, ↓reduceIte, reduceCtorEq, Nat.reduceEqDiff, Nat.reduceBEq, Nat.reduceAdd, Nat.reduceSub, Nat.reduceMul, Nat.reduceLT, Nat.reduceLeDiff, Nat.reduceBNe, Int.reduceBEq, Int.reduceBNe, Int.reduceLT, Int.reduceLE, Par.a, Opr.a, Ans.a, nul, evW, retM, t7]
    · simp (maxSteps := 4000000) only [go_sem, ↓reduceIte, reduceCtorEq, Nat.reduceEqDiff, Nat.reduceBEq, Nat.reduceAdd, Nat.reduceSub, Nat.reduceMul, Nat.reduceLT, Nat.reduceLeDiff, Nat.reduceBNe, Int.reduceBEq, Int.reduceBNe, Int.reduceLT, Int.reduceLE, Par.a, Opr.a, Ans.a, nul, evW, retM, hw]
    · rw [ef]; simp (maxSteps := 4000000) only [go_sem, ↓reduceIte, reduceCtorEq, Nat.reduceEqDiff, Nat.reduceBEq, Nat.reduceAdd, Nat.reduceSub, Nat.reduceMul, Nat.reduceLT, Nat.reduceLeDiff, Nat.reduceBNe, Int.reduceBEq, Int.reduceBNe, Int.reduceLT, Int.reduceLE, Par.a, Opr.a, Ans.a, nul, evW, retM, t3]
    · rw [ef]; simp (maxSteps := 4000000) only [go_sem, ↓reduceIte, reduceCtorEq, Nat.reduceEqDiff, Nat.reduceBEq, Nat.reduceAdd, Nat.reduceSub, Nat.reduceMul, Nat.reduceLT, Nat.reduceLeDiff, Nat.reduceBNe, Int.reduceBEq, Int.reduceBNe, Int.reduceLT, Int.reduceLE, Par.a, Opr.a, Ans.a, nul, evW, retM, h3]
  | true =>
    have ef : (l.take (i + 1)).filter Evt.done = (l.take i).filter Evt.done ++ [e] := by rw [tk, List.filter_append]; simp [hd]
    generalize hO : (l.take i).filter Evt.done = out at *
    have ttk : List.take out.length (out.map Evt.a) = out.map Evt.a := List.take_of_length_le (by simp)
    have ho1 : (out ++ [e]).map Evt.a = out.map Evt.a ++ [e.a] := List.map_append
    have ho2 : (out ++ [e]).length = out.length + 1 := List.length_append
    simp only [Evt.a] at ho1
    simp (maxSteps := 4000000) only [go_sem, ↓reduceIte, reduceCtorEq, Nat.reduceEqDiff, Nat.reduceBEq, Nat.reduceAdd, Nat.reduceSub, Nat.reduceMul, Nat.reduceLT, Nat.reduceLeDiff, Nat.reduceBNe, Int.reduceBEq, Int.reduceBNe, Int.reduceLT, Int.reduceLE, Par.a, Opr.a, Ans.a, nul, evW, retM, t6, t7, t8, t3, h3, hlt', hge, hd, hw, hlt, ttk, List.length_map, Int.toNat_natCast]
    refine ⟨by omega, ⟨by omega, fun d hd => by (rcases hd with rfl | hd; · exact ⟨rfl, rfl⟩); cases hd⟩, l.length - (i + 1), by omega, i + 1, by omega, rfl, ?_, ?_, ?_, ?_, ?_⟩
    · simp (maxSteps := 4000000) only [go_sem, ↓reduceIte, reduceCtorEq, Nat.reduceEqDiff, Nat.reduceBEq, Nat.reduceAdd, Nat.reduceSub, Nat.reduceMul, Nat.reduceLT, Nat.reduceLeDiff, Nat.reduceBNe, Int.reduceBEq, Int.reduceBNe, Int.reduceLT, Int.reduceLE, Par.a, Opr.a, Ans.a, nul, evW, retM, t6]
    · simp (maxSteps := 4000000) only [go_sem, ↓reduceIte, reduceCtorEq, Nat.reduceEqDiff, Nat.reduceBEq, Nat.reduceAdd, Nat.reduceSub, Nat.reduceMul, Nat.reduceLT, Nat.reduceLeDiff, Nat.reduceBNe, Int.reduceBEq, Int.reduceBNe, Int.reduceLT, Int.reduceLE, Par.a, Opr.a, Ans.a, nul, evW, retM, t7]
    · simp (maxSteps := 4000000) only [go_sem, ↓reduceIte, reduceCtorEq, Nat.reduceEqDiff, Nat.reduceBEq, Nat.reduceAdd, Nat.reduceSub, Nat.reduceMul, Nat.reduceLT, Nat.reduceLeDiff, Nat.reduceBNe, Int.reduceBEq, Int.reduceBNe, Int.reduceLT, Int.reduceLE, Par.a, Opr.a, Ans.a, nul, evW, retM, hw]
    · rw [ef, ho2]; simp (maxSteps := 4000000) only [go_sem, ↓reduceIte, reduceCtorEq, Nat.reduceEqDiff, Nat.reduceBEq, Nat.reduceAdd, Nat.reduceSub, Nat.reduceMul, Nat.reduceLT, Nat.reduceLeDiff, Nat.reduceBNe, Int.reduceBEq, Int.reduceBNe, Int.reduceLT, Int.reduceLE, Par.a, Opr.a, Ans.a, nul, evW, retM, t3]
    · rw [ef, ho1, hd]; simp (maxSteps := 4000000) only [go_sem, ↓reduceIte, reduceCtorEq, Nat.reduceEqDiff, Nat.reduceBEq, Nat.reduceAdd, Nat.reduceSub, Nat.reduceMul, Nat.reduceLT, Nat.reduceLeDiff, Nat.reduceBNe, Int.reduceBEq, Int.reduceBNe, Int.reduceLT, Int.reduceLE, Par.a, Opr.a, Ans.a, nul, evW, retM, t3, h3, ttk]
end
section
/-
  Histories: the law, walked.
-/
open Go.RowKit
set_option linter.unusedVariables false
set_option linter.unusedSimpArgs false
set_option maxRecDepth 100000
attribute [local go_sem ↓] runOp headOp
/-! ### percolate/percolatelaw39.HistoryTells -/
def r_law39_0 : Reg := ⟨[], [⟨(.mv (.c (.bool false))), (some 4), none, [], []⟩], [], [], false⟩
def t_law39_1 : List ROp := [⟨(.mv (.t 0)), (some 8), none, [9], []⟩, ⟨(.callv (.c (.clo 5 [] [])) [(.t 8), (.c (.int .i64 60)), (.c (.int .i64 300))]), (some 9), none, [], []⟩, ⟨(.un .not (.t 9)), (some 10), none, [], []⟩]
def r_law39_1 : Reg := ⟨[], t_law39_1, [9], [], false⟩
def r_law39_2 : Reg := ⟨[], [⟨(.callv (.c (.clo 6 [] [])) []), (some 11), none, [], []⟩, ⟨(.mv (.t 11)), (some 4), none, [], []⟩], [11], [], false⟩
def t_law39_3 : List ROp := [⟨(.mv (.t 0)), (some 12), none, [], []⟩, ⟨(.len false (.t 12)), (some 13), none, [], []⟩, ⟨(.mv (.c (.int .i64 0))), (some 14), none, [], []⟩]
def r_law39_3 : Reg := ⟨[], t_law39_3, [], [], false⟩
def r_law39_4 : Reg := ⟨[], [⟨(.bin .lss (.t 14) (.t 13)), (some 15), none, [], []⟩], [], [], false⟩
def t_law39_5 : List ROp := [⟨(.mv (.t 14)), (some 16), none, [6], []⟩, ⟨(.iaddr 15 (.t 12) (.t 14)), (some 17), none, [6], []⟩, ⟨(.load 15 true (.t 17)), (some 18), none, [6], []⟩, ⟨(.alloc 15 32 (.agg [(.int .i64 0), (.int .i64 0), (.str ⟨#[]⟩), (.str ⟨#[]⟩), (.bool false), (.str ⟨#[]⟩), (.int .i64 0), (.int .i64 0), (.bool false), (.str ⟨#[]⟩), (.sl []), (.int .i64 0), (.int .i64 0), (.int .i64 0), (.bool false)])), (some 6), none, [], []⟩, ⟨(.mv (.t 16)), (some 5), none, [], []⟩, ⟨(.store 15 (.t 6) (.t 18)), none, none, [], []⟩]
def r_law39_5 : Reg := ⟨[], t_law39_5, [6], [], false⟩
def t_law39_6 : List ROp := [⟨(.mv (.t 0)), (some 19), none, [7], []⟩, ⟨(.mv (.t 5)), (some 20), none, [7], []⟩, ⟨(.bin .add (.t 20) (.c (.int .i64 1))), (some 21), none, [7], []⟩, ⟨(.mv (.t 0)), (some 22), none, [7], []⟩, ⟨(.len false (.t 22)), (some 23), none, [7], []⟩, ⟨(.bin .rem (.t 21) (.t 23)), (some 24), none, [7], []⟩, ⟨(.iaddr 15 (.t 19) (.t 24)), (some 25), none, [7], []⟩, ⟨(.load 15 true (.t 25)), (some 26), none, [7], []⟩, ⟨(.alloc 15 32 (.agg [(.int .i64 0), (.int .i64 0), (.str ⟨#[]⟩), (.str ⟨#[]⟩), (.bool false), (.str ⟨#[]⟩), (.int .i64 0), (.int .i64 0), (.bool false), (.str ⟨#[]⟩), (.sl []), (.int .i64 0), (.int .i64 0), (.int .i64 0), (.bool false)])), (some 7), none, [], []⟩, ⟨(.store 15 (.t 7) (.t 26)), none, none, [], []⟩]
def r_law39_6 : Reg := ⟨[], t_law39_6, [7], [], false⟩
def t_law39_7 : List ROp := [⟨(.callv (.c (.clo 11 [] [])) [(.t 53), (.t 54)]), (some 55), (some (52, false)), [], []⟩, ⟨(.un .not (.t 55)), (some 56), (some (52, false)), [], []⟩, ⟨(.pick (.t 52) (.c (.bool true)) (.t 56)), (some 57), none, [], []⟩]
def h_law39_7 : List ROp := [⟨(.load 15 true (.t 6)), (some 27), none, [29, 32, 37, 40, 46, 49, 55], []⟩, ⟨(.mv (.t 1)), (some 28), none, [29, 32, 37, 40, 46, 49, 55], []⟩, ⟨(.callv (.c (.clo 7 [] [])) [(.t 27), (.t 28)]), (some 29), none, [32, 37, 40, 46, 49, 55], []⟩, ⟨(.load 15 true (.t 6)), (some 30), none, [29, 32, 37, 40, 46, 49, 55], []⟩, ⟨(.mv (.t 1)), (some 31), none, [29, 32, 37, 40, 46, 49, 55], []⟩, ⟨(.callv (.c (.clo 8 [] [])) [(.t 30), (.t 31)]), (some 32), none, [37, 40, 46, 49, 55], []⟩, ⟨(.beq true (.t 29) (.t 32)), (some 33), none, [37, 40, 46, 49, 55], []⟩, ⟨(.mv (.t 33)), (some 34), none, [37, 40, 46, 49, 55], []⟩, ⟨(.load 15 true (.t 6)), (some 35), (some (34, false)), [37, 40, 46, 49, 55], []⟩, ⟨(.load 15 true (.t 7)), (some 36), (some (34, false)), [37, 40, 46, 49, 55], []⟩, ⟨(.callv (.c (.clo 9 [] [])) [(.t 35), (.t 36)]), (some 37), (some (34, false)), [40, 46, 49, 55], []⟩, ⟨(.load 15 true (.t 6)), (some 38), (some (34, false)), [37, 40, 46, 49, 55], []⟩, ⟨(.load 15 true (.t 7)), (some 39), (some (34, false)), [37, 40, 46, 49, 55], []⟩, ⟨(.callv (.c (.clo 10 [] [])) [(.t 38), (.t 39)]), (some 40), (some (34, false)), [46, 49, 55], []⟩, ⟨(.beq true (.t 37) (.t 40)), (some 41), (some (34, false)), [46, 49, 55], []⟩, ⟨(.pick (.t 34) (.c (.bool true)) (.t 41)), (some 42), none, [46, 49, 55], []⟩, ⟨(.mv (.t 42)), (some 43), none, [46, 49, 55], []⟩, ⟨(.load 15 true (.t 6)), (some 44), (some (43, false)), [46, 49, 55], []⟩, ⟨(.load 15 true (.t 7)), (some 45), (some (43, false)), [46, 49, 55], []⟩, ⟨(.callv (.c (.clo 11 [] [])) [(.t 44), (.t 45)]), (some 46), (some (43, false)), [49, 55], []⟩, ⟨(.load 15 true (.t 6)), (some 47), (some (43, false)), [46, 49, 55], []⟩, ⟨(.load 15 true (.t 7)), (some 48), (some (43, false)), [46, 49, 55], []⟩, ⟨(.callv (.c (.clo 12 [] [])) [(.t 47), (.t 48)]), (some 49), (some (43, false)), [55], []⟩, ⟨(.beq true (.t 46) (.t 49)), (some 50), (some (43, false)), [55], []⟩, ⟨(.pick (.t 43) (.c (.bool true)) (.t 50)), (some 51), none, [55], []⟩, ⟨(.mv (.t 51)), (some 52), none, [55], []⟩, ⟨(.load 15 true (.t 6)), (some 53), (some (52, false)), [55], []⟩, ⟨(.load 15 true (.t 6)), (some 54), (some (52, false)), [55], []⟩]
def r_law39_7 : Reg := ⟨h_law39_7, t_law39_7, [29, 32, 37, 40, 46, 49, 55], [], true⟩
def r_law39_8 : Reg := ⟨[], [⟨(.mv (.c (.bool false))), (some 4), none, [], []⟩], [], [], false⟩
def r_law39_9 : Reg := ⟨[], [⟨(.bin .add (.t 14) (.c (.int .i64 1))), (some 58), none, [], []⟩, ⟨(.mv (.t 58)), (some 14), none, [], []⟩], [], [], false⟩
def r_law39_l10 : IR := (.seq (.reg r_law39_4)
  (.seq (.cond (.t 15) .skip
  (.exit 0))
  (.seq (.block 1 (.seq (.reg r_law39_5)
  (.seq (.reg r_law39_6)
  (.seq (.reg r_law39_7)
  (.cond (.t 57) (.seq (.reg r_law39_8)
  .ret)
  .skip)))))
  (.reg r_law39_9))))
def t_law39_11 : List ROp := [⟨(.mv (.t 0)), (some 59), none, [61, 64, 68, 70, 71, 75, 77, 81], []⟩, ⟨(.mv (.t 1)), (some 60), none, [61, 64, 68, 70, 71, 75, 77, 81], []⟩, ⟨(.callv (.c (.clo 13 [] [])) [(.t 59), (.t 60)]), (some 61), none, [64, 68, 70, 71, 75, 77, 81], []⟩, ⟨(.mv (.t 0)), (some 62), none, [64, 68, 70, 71, 75, 77, 81], []⟩, ⟨(.mv (.t 1)), (some 63), none, [64, 68, 70, 71, 75, 77, 81], []⟩, ⟨(.callv (.c (.clo 14 [] [])) [(.t 62), (.t 63)]), (some 64), none, [68, 70, 71, 75, 77, 81], []⟩, ⟨(.beq false (.t 61) (.t 64)), (some 65), none, [68, 70, 71, 75, 77, 81], []⟩, ⟨(.mv (.t 65)), (some 66), none, [68, 70, 71, 75, 77, 81], []⟩, ⟨(.mv (.t 0)), (some 67), (some (66, true)), [68, 70, 71, 75, 77, 81], []⟩, ⟨(.callv (.c (.clo 16 [] [])) [(.t 67)]), (some 68), (some (66, true)), [70, 71, 75, 77, 81], []⟩, ⟨(.mv (.t 0)), (some 69), (some (66, true)), [70, 71, 75, 77, 81], []⟩, ⟨(.callv (.c (.clo 17 [] [])) [(.t 69)]), (some 70), (some (66, true)), [71, 75, 77, 81], []⟩, ⟨(.callv (.c (.clo 15 [] [])) [(.t 68), (.t 70)]), (some 71), (some (66, true)), [75, 77, 81], []⟩, ⟨(.pick (.t 66) (.t 71) (.c (.bool false))), (some 72), none, [75, 77, 81], []⟩, ⟨(.mv (.t 72)), (some 73), none, [75, 77, 81], []⟩, ⟨(.mv (.t 0)), (some 74), (some (73, true)), [75, 77, 81], []⟩, ⟨(.callv (.c (.clo 18 [] [])) [(.t 74)]), (some 75), (some (73, true)), [77, 81], []⟩, ⟨(.mv (.t 0)), (some 76), (some (73, true)), [77, 81], []⟩, ⟨(.callv (.c (.clo 19 [] [])) [(.t 76)]), (some 77), (some (73, true)), [81], []⟩, ⟨(.bin .eql (.t 75) (.t 77)), (some 78), (some (73, true)), [81], []⟩, ⟨(.pick (.t 73) (.t 78) (.c (.bool false))), (some 79), none, [81], []⟩, ⟨(.mv (.t 79)), (some 80), none, [81], []⟩, ⟨(.callv (.c (.clo 6 [] [])) []), (some 81), (some (80, true)), [], []⟩, ⟨(.pick (.t 80) (.t 81) (.c (.bool false))), (some 82), none, [], []⟩, ⟨(.mv (.t 82)), (some 4), none, [], []⟩]
def r_law39_11 : Reg := ⟨[], t_law39_11, [61, 64, 68, 70, 71, 75, 77, 81], [], false⟩
def ir_law39 : IR := (.seq (.reg r_law39_0)
  (.seq (.seq (.reg r_law39_1)
  (.cond (.t 10) (.seq (.reg r_law39_2)
  .ret)
  .skip))
  (.seq (.seq (.reg r_law39_3)
  (.block 0 (.loop r_law39_l10)))
  (.seq (.reg r_law39_11)
  .ret))))
def res_law39 : List RDesc := [(.tmp 4)]
theorem e_law39_0 (C : FuncId → List AV → AV → Prop) (σ : St) (K : St → Prop) : runReg C r_law39_0 σ K = runOps C [⟨(.mv (.c (.bool false))), (some 4), none, [], []⟩] (σ.kills []) K := rfl
theorem e_law39_1 (C : FuncId → List AV → AV → Prop) (σ : St) (K : St → Prop) : runReg C r_law39_1 σ K = runOps C t_law39_1 (σ.kills [9]) K := rfl
theorem e_law39_2 (C : FuncId → List AV → AV → Prop) (σ : St) (K : St → Prop) : runReg C r_law39_2 σ K = runOps C [⟨(.callv (.c (.clo 6 [] [])) []), (some 11), none, [], []⟩, ⟨(.mv (.t 11)), (some 4), none, [], []⟩] (σ.kills [11]) K := rfl
theorem e_law39_3 (C : FuncId → List AV → AV → Prop) (σ : St) (K : St → Prop) : runReg C r_law39_3 σ K = runOps C t_law39_3 (σ.kills []) K := rfl
theorem e_law39_4 (C : FuncId → List AV → AV → Prop) (σ : St) (K : St → Prop) : runReg C r_law39_4 σ K = runOps C [⟨(.bin .lss (.t 14) (.t 13)), (some 15), none, [], []⟩] (σ.kills []) K := rfl
theorem e_law39_5 (C : FuncId → List AV → AV → Prop) (σ : St) (K : St → Prop) : runReg C r_law39_5 σ K = runOps C t_law39_5 (σ.kills [6]) K := rfl
theorem e_law39_6 (C : FuncId → List AV → AV → Prop) (σ : St) (K : St → Prop) : runReg C r_law39_6 σ K = runOps C t_law39_6 (σ.kills [7]) K := rfl
theorem e_law39_7 (C : FuncId → List AV → AV → Prop) (σ : St) (K : St → Prop) : runReg C r_law39_7 σ K = runHead C [] t_law39_7 h_law39_7 (σ.kills [29, 32, 37, 40, 46, 49, 55]) K := rfl
theorem e_law39_8 (C : FuncId → List AV → AV → Prop) (σ : St) (K : St → Prop) : runReg C r_law39_8 σ K = runOps C [⟨(.mv (.c (.bool false))), (some 4), none, [], []⟩] (σ.kills []) K := rfl
theorem e_law39_9 (C : FuncId → List AV → AV → Prop) (σ : St) (K : St → Prop) : runReg C r_law39_9 σ K = runOps C [⟨(.bin .add (.t 14) (.c (.int .i64 1))), (some 58), none, [], []⟩, ⟨(.mv (.t 58)), (some 14), none, [], []⟩] (σ.kills []) K := rfl
theorem e_law39_11 (C : FuncId → List AV → AV → Prop) (σ : St) (K : St → Prop) : runReg C r_law39_11 σ K = runOps C t_law39_11 (σ.kills [61, 64, 68, 70, 71, 75, 77, 81]) K := rfl
theorem fn_law39 {args : List AV} {r : AV} (ha : args.length.ble Try.f3.ntmps = true) (h : run (AFn Try.prog) ir_law39 (endQ res_law39 r) (initSt args)) : AFn Try.prog 3 args r :=
  AFn.of_code (pv := false) (hint := fun _ => []) (c := Try.f3.body.getD .skip) (by kernel_rfl) (by kernel_rfl) Try.func3 (by kernel_rfl) (by kernel_rfl) (by kernel_rfl) (of_decide_eq_true (by kernel_rfl)) (Nat.le_of_ble_eq_true ha) (Nat.le_of_ble_eq_true (by kernel_rfl)) (run_ok h)
/-! ### percolate/percolatelaw39.awake -/
def r_awk39_0 : Reg := ⟨[], [⟨(.mv (.c (.bool false))), (some 0), none, [], []⟩], [], [], false⟩
def t_awk39_1 : List ROp := [⟨(.bld [(.int .i64 0), (.int .i64 0), (.str ⟨#[]⟩), (.str ⟨#[]⟩), (.bool false), (.str ⟨#[]⟩), (.int .i64 0), (.int .i64 0), (.bool false), (.str ⟨#[]⟩), (.sl []), (.int .i64 0), (.int .i64 0), (.int .i64 0), (.bool false)] [⟨11, 1, (.c (.int .i64 1))⟩, ⟨12, 1, (.c (.int .i64 2))⟩, ⟨13, 1, (.c (.int .i64 4))⟩, ⟨14, 1, (.c (.bool true))⟩]), (some 2), none, [1], []⟩, ⟨(.alloc 15 32 (.agg [(.int .i64 0), (.int .i64 0), (.str ⟨#[]⟩), (.str ⟨#[]⟩), (.bool false), (.str ⟨#[]⟩), (.int .i64 0), (.int .i64 0), (.bool false), (.str ⟨#[]⟩), (.sl []), (.int .i64 0), (.int .i64 0), (.int .i64 0), (.bool false)])), (some 1), none, [], []⟩, ⟨(.store 15 (.t 1) (.t 2)), none, none, [], []⟩]
def r_awk39_1 : Reg := ⟨[], t_awk39_1, [1], [], false⟩
def t_awk39_2 : List ROp := [⟨(.load 15 true (.t 1)), (some 3), none, [5, 9, 14, 18], []⟩, ⟨(.bld [(.int .i64 0), (.int .i64 0), (.str ⟨#[]⟩), (.str ⟨#[]⟩), (.bool false), (.str ⟨#[]⟩), (.int .i64 0), (.int .i64 0), (.bool false), (.str ⟨#[]⟩), (.sl []), (.int .i64 0), (.int .i64 0), (.int .i64 0), (.bool false)] [⟨11, 1, (.c (.int .i64 5))⟩]), (some 4), none, [5, 9, 14, 18], []⟩, ⟨(.callv (.c (.clo 9 [] [])) [(.t 3), (.t 4)]), (some 5), none, [9, 14, 18], []⟩, ⟨(.mv (.t 5)), (some 6), none, [9, 14, 18], []⟩, ⟨(.load 15 true (.t 1)), (some 7), (some (6, true)), [9, 14, 18], []⟩, ⟨(.bld [(.int .i64 0), (.int .i64 0), (.str ⟨#[]⟩), (.str ⟨#[]⟩), (.bool false), (.str ⟨#[]⟩), (.int .i64 0), (.int .i64 0), (.bool false), (.str ⟨#[]⟩), (.sl []), (.int .i64 0), (.int .i64 0), (.int .i64 0), (.bool false)] [⟨11, 1, (.c (.int .i64 4))⟩]), (some 8), (some (6, true)), [9, 14, 18], []⟩, ⟨(.callv (.c (.clo 9 [] [])) [(.t 7), (.t 8)]), (some 9), (some (6, true)), [14, 18], []⟩, ⟨(.un .not (.t 9)), (some 10), (some (6, true)), [14, 18], []⟩, ⟨(.pick (.t 6) (.t 10) (.c (.bool false))), (some 11), none, [14, 18], []⟩, ⟨(.mv (.t 11)), (some 12), none, [14, 18], []⟩, ⟨(.load 15 true (.t 1)), (some 13), (some (12, true)), [14, 18], []⟩, ⟨(.callv (.c (.clo 7 [] [])) [(.t 13), (.c (.int .i64 4))]), (some 14), (some (12, true)), [18], []⟩, ⟨(.pick (.t 12) (.t 14) (.c (.bool false))), (some 15), none, [18], []⟩, ⟨(.mv (.t 15)), (some 16), none, [18], []⟩, ⟨(.load 15 true (.t 1)), (some 17), (some (16, true)), [18], []⟩, ⟨(.callv (.c (.clo 7 [] [])) [(.t 17), (.c (.int .i64 3))]), (some 18), (some (16, true)), [], []⟩, ⟨(.un .not (.t 18)), (some 19), (some (16, true)), [], []⟩, ⟨(.pick (.t 16) (.t 19) (.c (.bool false))), (some 20), none, [], []⟩, ⟨(.mv (.t 20)), (some 0), none, [], []⟩]
def r_awk39_2 : Reg := ⟨[], t_awk39_2, [5, 9, 14, 18], [], false⟩
def ir_awk39 : IR := (.seq (.reg r_awk39_0)
  (.seq (.reg r_awk39_1)
  (.seq (.reg r_awk39_2)
  .ret)))
def res_awk39 : List RDesc := [(.tmp 0)]
theorem e_awk39_0 (C : FuncId → List AV → AV → Prop) (σ : St) (K : St → Prop) : runReg C r_awk39_0 σ K = runOps C [⟨(.mv (.c (.bool false))), (some 0), none, [], []⟩] (σ.kills []) K := rfl
theorem e_awk39_1 (C : FuncId → List AV → AV → Prop) (σ : St) (K : St → Prop) : runReg C r_awk39_1 σ K = runOps C t_awk39_1 (σ.kills [1]) K := rfl
theorem e_awk39_2 (C : FuncId → List AV → AV → Prop) (σ : St) (K : St → Prop) : runReg C r_awk39_2 σ K = runOps C t_awk39_2 (σ.kills [5, 9, 14, 18]) K := rfl
theorem fn_awk39 {args : List AV} {r : AV} (ha : args.length.ble Try.f6.ntmps = true) (h : run (AFn Try.prog) ir_awk39 (endQ res_awk39 r) (initSt args)) : AFn Try.prog 6 args r :=
  AFn.of_code (pv := false) (hint := fun _ => []) (c := Try.f6.body.getD .skip) (by kernel_rfl) (by kernel_rfl) Try.func6 (by kernel_rfl) (by kernel_rfl) (by kernel_rfl) (of_decide_eq_true (by kernel_rfl)) (Nat.le_of_ble_eq_true ha) (Nat.le_of_ble_eq_true (by kernel_rfl)) (run_ok h)
attribute [local go_sem ↓] ir_law39
attribute [local go_sem] res_law39 e_law39_0 e_law39_1 t_law39_1 e_law39_2 e_law39_3 t_law39_3 e_law39_4 e_law39_5 t_law39_5 e_law39_6 t_law39_6 e_law39_7 t_law39_7 h_law39_7 e_law39_8 e_law39_9 e_law39_11 t_law39_11
attribute [local go_sem ↓] ir_awk39
attribute [local go_sem] res_awk39 e_awk39_0 e_awk39_1 t_awk39_1 e_awk39_2 t_awk39_2
theorem eqPs_self : ∀ l : List Par, eqPs l l = true
  | [] => rfl
  | x :: l => by
    show (eqP x x && eqPs l l) = true
    rw [eqPs_self l]; unfold eqP; simp
theorem ansB_self (a : Ans) : ansB a a = true := by unfold ansB; rw [eqPs_self]; simp
theorem evB_self (a : Evt) : evB a a = true := by unfold evB opB; rw [ansB_self]; simp
theorem eqEs_self : ∀ l : List Evt, eqEs l l = true
  | [] => rfl
  | x :: l => by
    show (evB x x && eqEs l l) = true
    rw [eqEs_self l, evB_self]; rfl
def e39 (b p n : Int) (d : Bool) : Evt := ⟨0, Opr.zero, Ans.zero, b, p, n, d⟩
set_option maxHeartbeats 4000000 in
theorem awk39_ok : AFn Try.prog 6 [] (.bool true) := by
  refine fn_awk39 rfl ?_
  have c1 := hBef_ok (e39 1 2 4 true) (e39 5 0 0 false)
  have c2 := hBef_ok (e39 1 2 4 true) (e39 4 0 0 false)
  have c3 := hMay_ok (e39 1 2 4 true) 4 (by decide)
  have c4 := hMay_ok (e39 1 2 4 true) 3 (by decide)
  rw [show befB (e39 1 2 4 true) (e39 5 0 0 false) = true by decide] at c1
  rw [show befB (e39 1 2 4 true) (e39 4 0 0 false) = false by decide] at c2
  rw [show mayB (e39 1 2 4 true) 4 = true by decide] at c3
  rw [show mayB (e39 1 2 4 true) 3 = false by decide] at c4
  simp only [e39, Evt.a, Opr.zero, Ans.zero, Opr.a, Ans.a, nul, List.map_nil] at c1 c2 c3 c4
  (repeat (first | simp (maxSteps := 4000000) only [go_sem, ↓reduceIte, reduceCtorEq, Nat.reduceEqDiff, Nat.reduceBEq, Nat.reduceAdd, Nat.reduceSub, Nat.reduceMul, Nat.reduceLT, Nat.reduceLeDiff, Nat.reduceBNe, Int.reduceBEq, Int.reduceBNe, Int.reduceLT, Int.reduceLE, Par.a, Opr.a, Ans.a, nul] | refine calling (c1) ?_ | refine callingH (c1) ?_ | refine calling (c2) ?_ | refine callingH (c2) ?_ | refine calling (c3) ?_ | refine callingH (c3) ?_ | refine calling (c4) ?_ | refine callingH (c4) ?_ | refine And.intro (by omega) ?_ | refine And.intro (fun d hd => by (repeat (rcases hd with rfl | hd; · exact ⟨rfl, rfl⟩)); cases hd) ?_))
def l39I (l : List Evt) (clock : Int) (k : Nat) (σ : St) : Prop :=
  ∃ i : Nat, i ≤ l.length ∧ k = l.length - i ∧ σ.T 0 = .sl (l.map Evt.a) ∧ σ.T 1 = .int .i64 clock ∧ σ.T 12 = .sl (l.map Evt.a) ∧ σ.T 13 = .int .i64 l.length ∧ σ.T 14 = .int .i64 i
set_option maxHeartbeats 8000000 in
theorem hist_law (l : List Evt) (clock : Int) (hs : ∀ x, x ∈ l → x.ok) (hl : l.length ≤ 281474976710656) : AFn Try.prog 3 [.sl (l.map Evt.a), .int .i64 clock] (.bool true) := by
  refine fn_law39 rfl ?_
  have cL := rLt_ok l 60 300 (by decide) (by decide) hs hl
  have aw := awk39_ok
  cases hL : lightE l 60 300 with
  | false =>
    rw [hL] at cL
    (repeat (first | simp (maxSteps := 4000000) only [go_sem, ↓reduceIte, reduceCtorEq, Nat.reduceEqDiff, Nat.reduceBEq, Nat.reduceAdd, Nat.reduceSub, Nat.reduceMul, Nat.reduceLT, Nat.reduceLeDiff, Nat.reduceBNe, Int.reduceBEq, Int.reduceBNe, Int.reduceLT, Int.reduceLE, Par.a, Opr.a, Ans.a, nul] | refine calling (cL) ?_ | refine callingH (cL) ?_ | refine calling (aw) ?_ | refine callingH (aw) ?_ | refine And.intro (by omega) ?_ | refine And.intro (fun d hd => by (repeat (rcases hd with rfl | hd; · exact ⟨rfl, rfl⟩)); cases hd) ?_))
  | true =>
    rw [hL] at cL
    unfold lightE at hL
    rw [Bool.and_eq_true, decide_eq_true_eq, List.all_eq_true] at hL
    obtain ⟨hl60, hall⟩ := hL
    have hl60 : l.length ≤ 60 := by omega
    have pa : ∀ e, e ∈ l → e.ans.prs.length ≤ 1000000000 := fun e he => by
      have := hall e he
      unfold evL at this
      rw [Bool.and_eq_true, Bool.and_eq_true, decide_eq_true_eq, decide_eq_true_eq] at this
      have h1 := this.2.2
      have h2 := sumN_len (f := Par.bulk) (fun p => by unfold Par.bulk; omega) e.ans.prs
      omega
    (repeat (first | simp (maxSteps := 4000000) only [go_sem, ↓reduceIte, reduceCtorEq, Nat.reduceEqDiff, Nat.reduceBEq, Nat.reduceAdd, Nat.reduceSub, Nat.reduceMul, Nat.reduceLT, Nat.reduceLeDiff, Nat.reduceBNe, Int.reduceBEq, Int.reduceBNe, Int.reduceLT, Int.reduceLE, Par.a, Opr.a, Ans.a, nul, List.length_map] | refine calling (cL) ?_ | refine callingH (cL) ?_ | refine And.intro (by omega) ?_ | refine And.intro (fun d hd => by (repeat (rcases hd with rfl | hd; · exact ⟨rfl, rfl⟩)); cases hd) ?_))
    refine run_loop (l39I l clock) (k := l.length) ⟨0, Nat.zero_le _, rfl, ?_, ?_, ?_, ?_, ?_⟩ ?_
    · simp (maxSteps := 4000000) only [go_sem, ↓reduceIte, reduceCtorEq, Nat.reduceEqDiff, Nat.reduceBEq, Nat.reduceAdd, Nat.reduceSub, Nat.reduceMul, Nat.reduceLT, Nat.reduceLeDiff, Nat.reduceBNe, Int.reduceBEq, Int.reduceBNe, Int.reduceLT, Int.reduceLE, Par.a, Opr.a, Ans.a, nul]
    · simp (maxSteps := 4000000) only [go_sem, ↓reduceIte, reduceCtorEq, Nat.reduceEqDiff, Nat.reduceBEq, Nat.reduceAdd, Nat.reduceSub, Nat.reduceMul, Nat.reduceLT, Nat.reduceLeDiff, Nat.reduceBNe, Int.reduceBEq, Int.reduceBNe, Int.reduceLT, Int.reduceLE, Par.a, Opr.a, Ans.a, nul]
    · simp (maxSteps := 4000000) only [go_sem, ↓reduceIte, reduceCtorEq, Nat.reduceEqDiff, Nat.reduceBEq, Nat.reduceAdd, Nat.reduceSub, Nat.reduceMul, Nat.reduceLT, Nat.reduceLeDiff, Nat.reduceBNe, Int.reduceBEq, Int.reduceBNe, Int.reduceLT, Int.reduceLE, Par.a, Opr.a, Ans.a, nul]
    · simp (maxSteps := 4000000) only [go_sem, ↓reduceIte, reduceCtorEq, Nat.reduceEqDiff, Nat.reduceBEq, Nat.reduceAdd, Nat.reduceSub, Nat.reduceMul, Nat.reduceLT, Nat.reduceLeDiff, Nat.reduceBNe, Int.reduceBEq, Int.reduceBNe, Int.reduceLT, Int.reduceLE, Par.a, Opr.a, Ans.a, nul, List.length_map]
    · (simp (maxSteps := 4000000) only [go_sem, ↓reduceIte, reduceCtorEq, Nat.reduceEqDiff, Nat.reduceBEq, Nat.reduceAdd, Nat.reduceSub, Nat.reduceMul, Nat.reduceLT, Nat.reduceLeDiff, Nat.reduceBNe, Int.reduceBEq, Int.reduceBNe, Int.reduceLT, Int.reduceLE, Par.a, Opr.a, Ans.a, nul]) <;> rfl
    rintro k σ ⟨i, hi, rfl, t0, t1, t12, t13, t14⟩
    simp only [r_law39_l10]
    by_cases hlt : i < l.length
    case neg =>
      have hlt' : ¬ (i : Int) < (l.length : Int) := by omega
      have pm : ∀ e, e ∈ ptsF l → e ∈ l := fun e he => by
        unfold ptsF at he
        have := (Stab.mem (srt_stab Evt.point (l.filter Evt.done))).1 he
        exact (List.mem_filter.1 this).1
      have pl : (ptsF l).length ≤ 60 := by
        unfold ptsF
        rw [srt_length]
        exact Nat.le_trans (List.length_filter_le _ _) hl60
      have c1 := hRt_ok l clock (by omega) pa
      have c2 := rHis_ok l clock (by omega) pa
      rw [hist_same] at c1
      have c3 := hPts_ok l (by omega)
      have c4 := rPts_ok l (by omega)
      have c5 := eAll_ok (ptsF l) (ptsF l) (by omega) (by omega) (fun e he => pa e (pm e he)) (fun e he => pa e (pm e he))
      rw [eqEs_self] at c5
      have c6 := hMost_ok l (by omega)
      have c7 := rMost_ok l (by omega)
      generalize histB l clock = R at *
      generalize mostF l = M at *
      generalize hP : ptsF l = pts at *
      have tk : List.take pts.length (pts.map Evt.a) = pts.map Evt.a := List.take_of_length_le (by simp)
      (repeat (first | simp (maxSteps := 4000000) only [go_sem, ↓reduceIte, reduceCtorEq, Nat.reduceEqDiff, Nat.reduceBEq, Nat.reduceAdd, Nat.reduceSub, Nat.reduceMul, Nat.reduceLT, Nat.reduceLeDiff, Nat.reduceBNe, Int.reduceBEq, Int.reduceBNe, Int.reduceLT, Int.reduceLE, Par.a, Opr.a, Ans.a, nul, t0, t1, t13, t14, hlt', tk, List.length_map, beq_self_eq_true] | refine calling (c1) ?_ | refine callingH (c1) ?_ | refine calling (c2) ?_ | refine callingH (c2) ?_ | refine calling (c3) ?_ | refine callingH (c3) ?_ | refine calling (c4) ?_ | refine callingH (c4) ?_ | refine calling (c5) ?_ | refine callingH (c5) ?_ | refine calling (c6) ?_ | refine callingH (c6) ?_ | refine calling (c7) ?_ | refine callingH (c7) ?_ | refine calling (aw) ?_ | refine callingH (aw) ?_ | refine And.intro (by omega) ?_ | refine And.intro (fun d hd => by (repeat (rcases hd with rfl | hd; · exact ⟨rfl, rfl⟩)); cases hd) ?_))
    have hlt' : (i : Int) < (l.length : Int) := by omega
    obtain ⟨x, hx⟩ := get_lt hlt
    obtain ⟨y, hy⟩ := get_lt (l := l) (j := (i + 1) % l.length) (Nat.mod_lt _ (by omega))
    have hge := at_map (f := Evt.a) hx
    have hgy := at_map (f := Evt.a) hy
    have px := pa x (List.mem_of_getElem? hx)
    have py := pa y (List.mem_of_getElem? hy)
    have c1 := hMay_ok x clock px
    have c2 := rRt_ok x clock px
    have c3 := hBef_ok x y
    have c4 := rBf_ok x y
    have c5 := hSame_ok x y px py
    have c6 := rSm_ok x y px py
    have c7 := hSame_ok x x px px
    rw [evB_self] at c7
    generalize mayB x clock = R1 at *
    generalize befB x y = R2 at *
    generalize evB x y = R3 at *
    simp only [Evt.a] at hge hgy c1 c2 c3 c4 c5 c6 c7
    have hw := wrapS (j := i) (by omega)
    have hm : (((i + 1 : Nat) : Int)).tmod (l.length : Int) = (((i + 1) % l.length : Nat) : Int) := Int.ofNat_tmod ..
    have hn0 : ¬ (l.length : Int) = 0 := by omega
    have hpos : 0 < l.length := by omega
    have hn1 : ((l.length : Int) ≠ 0) = True := eq_true (by omega)
    have hj : ((((i + 1) % l.length : Nat)) : Int) < (l.length : Int) := Int.ofNat_lt.2 (Nat.mod_lt _ (by omega))
    have hjl : (i + 1) % l.length < l.length := Nat.mod_lt _ (by omega)
    generalize (i + 1) % l.length = j at *
    have b1 : (R1 != R1) = false := by cases R1 <;> rfl
    have b2 : (R2 != R2) = false := by cases R2 <;> rfl
    have b3 : (R3 != R3) = false := by cases R3 <;> rfl
    (repeat (first | simp (maxSteps := 4000000) only [go_sem, ↓reduceIte, reduceCtorEq, Nat.reduceEqDiff, Nat.reduceBEq, Nat.reduceAdd, Nat.reduceSub, Nat.reduceMul, Nat.reduceLT, Nat.reduceLeDiff, Nat.reduceBNe, Int.reduceBEq, Int.reduceBNe, Int.reduceLT, Int.reduceLE, Par.a, Opr.a, Ans.a, nul, t0, t1, t12, t13, t14, hlt', hlt, hge, hgy, hw, hm, hn0, hn1, hj, hjl, b1, b2, b3, List.length_map, Int.toNat_natCast] | refine calling (c1) ?_ | refine callingH (c1) ?_ | refine calling (c2) ?_ | refine callingH (c2) ?_ | refine calling (c3) ?_ | refine callingH (c3) ?_ | refine calling (c4) ?_ | refine callingH (c4) ?_ | refine calling (c5) ?_ | refine callingH (c5) ?_ | refine calling (c6) ?_ | refine callingH (c6) ?_ | refine calling (c7) ?_ | refine callingH (c7) ?_ | refine And.intro (by omega) ?_ | refine And.intro (fun d hd => by (repeat (rcases hd with rfl | hd; · exact ⟨rfl, rfl⟩)); cases hd) ?_))
    refine ⟨l.length - (i + 1), by omega, i + 1, by omega, rfl, ?_, ?_, ?_, ?_, ?_⟩
    · simp (maxSteps := 4000000) only [go_sem, ↓reduceIte, reduceCtorEq, Nat.reduceEqDiff, Nat.reduceBEq, Nat.reduceAdd, Nat.reduceSub, Nat.reduceMul, Nat.reduceLT, Nat.reduceLeDiff, Nat.reduceBNe, Int.reduceBEq, Int.reduceBNe, Int.reduceLT, Int.reduceLE, Par.a, Opr.a, Ans.a, nul, t0]
    · simp (maxSteps := 4000000) only [go_sem, ↓reduceIte, reduceCtorEq, Nat.reduceEqDiff, Nat.reduceBEq, Nat.reduceAdd, Nat.reduceSub, Nat.reduceMul, Nat.reduceLT, Nat.reduceLeDiff, Nat.reduceBNe, Int.reduceBEq, Int.reduceBNe, Int.reduceLT, Int.reduceLE, Par.a, Opr.a, Ans.a, nul, t1]
    · simp (maxSteps := 4000000) only [go_sem, ↓reduceIte, reduceCtorEq, Nat.reduceEqDiff, Nat.reduceBEq, Nat.reduceAdd, Nat.reduceSub, Nat.reduceMul, Nat.reduceLT, Nat.reduceLeDiff, Nat.reduceBNe, Int.reduceBEq, Int.reduceBNe, Int.reduceLT, Int.reduceLE, Par.a, Opr.a, Ans.a, nul, t12]
    · simp (maxSteps := 4000000) only [go_sem, ↓reduceIte, reduceCtorEq, Nat.reduceEqDiff, Nat.reduceBEq, Nat.reduceAdd, Nat.reduceSub, Nat.reduceMul, Nat.reduceLT, Nat.reduceLeDiff, Nat.reduceBNe, Int.reduceBEq, Int.reduceBNe, Int.reduceLT, Int.reduceLE, Par.a, Opr.a, Ans.a, nul, t13]
    · simp (maxSteps := 4000000) only [go_sem, ↓reduceIte, reduceCtorEq, Nat.reduceEqDiff, Nat.reduceBEq, Nat.reduceAdd, Nat.reduceSub, Nat.reduceMul, Nat.reduceLT, Nat.reduceLeDiff, Nat.reduceBNe, Int.reduceBEq, Int.reduceBNe, Int.reduceLT, Int.reduceLE, Par.a, Opr.a, Ans.a, nul]
theorem readsOne {w : World} {T : Ty} {v : Value} {ds : List AV} (h : ReadsAs w T [v] ds) : ∃ d, ds = [d] ∧ VR (fun b _ => b < w.heap.size) w d v := by
  obtain ⟨h1, h2, h3⟩ := h
  match ds, h2 with
  | [d], _ => exact ⟨d, rfl, h3 0 d v rfl rfl⟩
theorem runAll {f : FuncId} {w : World} {ds : List AV} {vs : List Value} (hl : ds.length = vs.length) (h : ∀ (j : Nat) (d : AV) (u : Value), ds[j]? = some d → vs[j]? = some u → VR (fun b _ => b < w.heap.size) w d u) (hA : AFn Try.prog f ds (.bool true)) :
    Calls Try.prog f ⟨vs⟩ w fun e w' => e = .returned (.bool true) ∧ Below w.heap.size w w' := by
  have := hA.calls w (fun b _ => b < w.heap.size) vs trivial (fun b o hb => hb) hl h
  refine this.mono fun e w' ⟨u, he, hb, hr⟩ => ?_
  have hr' : VR _ w' (.bool true) u := hr
  cases hr'
  exact ⟨he, hb⟩
theorem hist_walk (v0 : Value) (a : Int) (w : World) (f0 : ∃ ds, ReadsAs w (.sl EvtT) [v0] ds) (f1 : -9223372036854775808 ≤ a ∧ a ≤ 9223372036854775807) :
    Calls Try.prog 3 #[v0, .int .i64 a] w fun e w' => e = .returned (.bool true) ∧ Below w.heap.size w w' := by
  obtain ⟨d1, r1⟩ := f0
  obtain ⟨d, rfl, u1⟩ := readsOne r1
  obtain ⟨l, hd, hl, hok⟩ := sl_of Evt.a Evt.ok r1.1 (fun c h => Evt.of h)
  cases hd
  refine runAll (vs := [v0, .int .i64 a]) rfl (fun j d u hj hu => ?_) (hist_law l a hok hl)
  match j with
  | 0 => cases hj; cases hu; exact u1
  | 1 => cases hj; cases hu; exact .int .i64 a
  | j + 2 => simp at hj
end
section
/-
  'Rows.HistoryTellsSaid' is proved: the law percolatelaw39.HistoryTells returns true at every input, and its arguments read as they did. No condition.
-/
namespace historyTells
open Go.ChangeShapes Go.WideShapes Go.ChangeAt Go.RowKit
open Go.ChangeMaps (open_string shut_string)
set_option linter.unusedVariables false
set_option maxRecDepth 100000 in
theorem lifted (os : Os) (started : os.Started) (H : Type) (enc : TypeId × Value → H) :
    ReturnsInHanded {} Try.checked os 3 .any (Rows.historyTellsSpec.pre6 enc Try.prog Try.f3 Rows.historyTellsRow.domain false) (Rows.historyTellsSpec.post enc Try.prog Try.f3 false true false false) := by
  refine returnsInHanded_of_change_sized (C := Try.checked) ownK started (by kernel_rfl) Try.func3
    (ChangeSpec.witness6 (enc := enc) (C := Try.checked) false ⟨#[], #[.slice none 0 0, .int .i64 0], []⟩ 8 (by kernel_rfl) (by kernel_rfl) (by kernel_rfl) (by kernel_rfl)) ?_
  intro W base args ds gs before hval0 hW hcnd hsz _
  have hval : ∀ (j : Nat) t v, Try.f3.params[j]? = some t → args[j]? = some v → Value.okWide Try.prog W .any base t v := hval0
  have hW' := hW
  obtain ⟨p, q, hA0, hV, rfl, hfz, hnd⟩ := hW
  have hA : DataW.TrodAll enc Try.prog W 0 (fun _ => true) true Try.f3.params.toList args.toList ds p := hA0
  rw [Try.params3] at hA hval
  obtain ⟨v0, vs0, d0, ds0, p0, q0, hargs, rfl, rfl, h0, r0⟩ := trodAll_cons hA
  obtain ⟨v1, vs1, d1, ds1, p1, q1, rfl, rfl, rfl, h1, r1⟩ := trodAll_cons r0
  obtain ⟨rfl, rfl, rfl⟩ := trodAll_nil r1
  obtain rfl : args = #[v0, v1] := by cases args; simp_all
  obtain ⟨rfl, rfl⟩ := trodVars_none hV
  have hw0 : (d0.weights Try.prog 22).all (· ≤ reachBytes) = true := weightsEach_mem hsz 0 22 d0 rfl rfl
  obtain ⟨s0, n0, c0, rfl⟩ := okWide_slice Try.underlying22 (hval 0 22 v0 rfl rfl)
  obtain ⟨fu0, ht0⟩ := h0
  have f0 : ∃ ds, ReadsAs W (.sl EvtT) [.slice s0 n0 c0] ds := typed_in 8 (x := (d0, p0)) (by kernel_rfl) hw0 ht0
  obtain ⟨a1, rfl, hd1, hp1, w1⟩ := open_int Try.underlying3 (hval 1 3 v1 rfl rfl) h1
  have f1 := bounds_i64 w1
  refine (hist_walk _ a1 W f0 f1).mono fun e W' ⟨he, hb⟩ => ?_
  subst he
  exact ⟨_, rfl, post_law laidOut hW' rfl rfl rfl rfl rfl Try.underlying4 (by intro t ht; rw [Try.params3] at ht; simp only [List.mem_cons, List.not_mem_nil, or_false] at ht; rcases ht with rfl | rfl <;> exact ⟨by kernel_rfl, of_decide_eq_true (by kernel_rfl)⟩) hb⟩
theorem proved : Rows.HistoryTellsSaid :=
  OpenClaim.holds_of_wide 3 Try.f3 rfl rfl rfl rfl rfl rfl rfl ⟨rfl, rfl, rfl, rfl, rfl⟩ rfl rfl rfl rfl rfl (by kernel_rfl) Try.func3 (by kernel_rfl)
    (of_decide_eq_true (by kernel_rfl)) (by unfold Func.isWrapper; first | (rw [if_pos (by decide +kernel)]; kernel_rfl) | (rw [if_neg (by decide +kernel)]; exact ⟨rfl, rfl⟩))
    (fun os started H enc _ => lifted os started H enc)
end historyTells
end
end Go.Proofs.Ytjkicoiiadgebaa
