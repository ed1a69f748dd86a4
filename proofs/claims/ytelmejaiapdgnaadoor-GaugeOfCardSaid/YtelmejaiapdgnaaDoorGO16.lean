/-
  'Rows.GaugeOfSaid' is proved: the law percolatelaw50.GaugeOf returns true at every input, and its arguments read as they did. No condition.
-/
import Derived.SizedLaws
import Derived.Test.YtelmejaiapdgnaaDoorCards
import Derived.Test.YtelmejaiapdgnaaDoorTie
import Derived.Deep.DeepHandedRow
import Derived.LaidLaws
import Derived.Lay
import Derived.SevenTiedAt
import Derived.Test.YtelmejaiapdgnaaDoorGO15
namespace Go.Proofs.YtelmejaiapdgnaaDoor
attribute [local go_sem] ev0 ev1 ev2 ev3 ev4 evA stHOk.eq_1 stHOk.eq_2 stHSt.eq_1 stHSt.eq_2 okV valV fzV okF valF okBld valBld mxOk.eq_1 mxOk.eq_2 mxVal.eq_1 mxVal.eq_2 cellFit.eq_1 cellFit.eq_2 cellFit.eq_3 cellEq.eq_1 cellEq.eq_2 cellEq.eq_3 upd_at AV.flatB AV.flatBs binIok binIV binSok binSV cellsOk.eq_1 cellsOk.eq_2 cellsVal.eq_1 cellsVal.eq_2 objCells.eq_1 objCells.eq_2 objZ.eq_1 objZ.eq_2 objProt.eq_1 objProt.eq_2 oneObj ptrOk.eq_1 ptrOk.eq_2 ptrOk.eq_3 ptrCells.eq_1 ptrCells.eq_2 ptrCells.eq_3 lenOk.eq_1 lenOk.eq_2 lenOk.eq_3 lenOk.eq_4 lenVal.eq_1 lenVal.eq_2 lenVal.eq_3 lenVal.eq_4 faOk.eq_1 faOk.eq_2 faOk.eq_3 faVal.eq_1 faVal.eq_2 faVal.eq_3 iaOk.eq_1 iaOk.eq_2 iaOk.eq_3 iaVal.eq_1 iaVal.eq_2 iaVal.eq_3 slcLen.eq_1 slcLen.eq_2 slcLen.eq_3 slcLen.eq_4 bdOk.eq_1 bdOk.eq_2 bdVal.eq_1 bdVal.eq_2 slcOk.eq_1 slcOk.eq_2 slcOk.eq_3 slcOk.eq_4 slcVal.eq_1 slcVal.eq_2 slcVal.eq_3 slcVal.eq_4 slcFz.eq_1 slcFz.eq_2 loK.eq_1 loK.eq_2 loK.eq_3 rsVal.eq_1 rsVal.eq_2 rsVal.eq_3 byOk.eq_1 byOk.eq_2 byOk.eq_3 byOk.eq_4 byOk.eq_5 byOk.eq_6 byOk.eq_7 byOk.eq_8 byVal.eq_1 byVal.eq_2 byVal.eq_3 byFz.eq_1 byFz.eq_2 byFz.eq_3 byOks byVals byFzs allOne resSt.eq_1 resSt.eq_2 resName.eq_1 resName.eq_2 stOk.eq_1 stOk.eq_2 stArr.eq_1 stArr.eq_2 stSt.eq_1 stSt.eq_2 AV.patch nameOk_none gB.eq_1 gB.eq_2 gB.eq_3 gIs.eq_1 gIs.eq_2 gIs.eq_3 retV resV resVs evalV cellsV St.byval List.getD_cons_zero List.getD_cons_succ List.getD_nil List.map_cons List.map_nil List.length_cons List.length_nil List.take_succ_cons List.take_zero List.drop_succ_cons List.drop_zero List.headD_cons List.set_cons_zero List.append_nil List.nil_append List.cons_append List.contains_cons List.contains_nil List.elem_cons List.elem_nil List.all_cons List.all_nil List.getElem?_cons_zero List.getElem?_cons_succ List.filterMap_cons List.filterMap_nil Option.isSome_some Option.isSome_none Option.map_some Option.map_none Option.some.injEq AV.int.injEq AV.bool.injEq AV.str.injEq AV.tup.injEq AV.agg.injEq AV.sl.injEq List.cons.injEq Bool.false_eq_true Bool.true_eq_false Bool.not_true Bool.not_false Bool.and_true Bool.true_and Bool.or_false Bool.or_true Bool.false_or Bool.true_or Bool.or_self Bool.and_self Bool.not_eq_true' Bool.not_eq_false' Bool.not_not beq_self_eq_true true_and and_true false_and and_false and_self not_true_eq_false not_false_eq_true forall_const true_implies false_implies implies_true imp_self Nat.lt_add_one Nat.le_refl Nat.zero_le Nat.add_zero Nat.zero_add decide_true decide_false decide_eq_true_eq decide_eq_false_iff_not exists_eq_left exists_eq_left' ge_iff_le gt_iff_lt ite_branch ite_branch' nilOk.eq_1 nilOk.eq_2 nilMay.eq_1 nilMay.eq_2 AV.isSl.eq_1 objTy'.eq_1 objTy'.eq_2 apSt.eq_1 apArr.eq_1 apArr.eq_2 apTwo.eq_1 apTwo.eq_2 apSt2.eq_1 apArr2.eq_1 apArr2.eq_2 slOf.eq_1 fitsV List.mem_cons List.not_mem_nil Bool.false_and Bool.and_false primOk.eq_1 primOk.eq_2 primOk.eq_3 primOk.eq_4 primOk.eq_5 primVal.eq_1 primVal.eq_2 primVal.eq_3 primVal.eq_4 primVal.eq_5 mOk.eq_1 mOk.eq_2 mVal.eq_1 mVal.eq_2 mFz.eq_1 mFz.eq_2 mOks mVals mFzs mCalOk.eq_1 mCalOk.eq_2 mFn.eq_1 mFn.eq_2 mArgs.eq_1 mArgs.eq_2 ckOk.eq_1 ckOk.eq_2 cloOk.eq_1 ptrAt.eq_1 sh.eq_1 sh.eq_2 sh.eq_3 sh.eq_4 sh.eq_5 sh.eq_6 retM shH_small evM entOk.eq_1 entOk.eq_2 ents.eq_1 ents.eq_2 kI.eq_1 mpOk.eq_1 mpR.eq_1 lkV.eq_1 lkV.eq_2 remp.eq_2 evP pvOk.eq_1 pvOk.eq_2 pvVal.eq_1 pvVal.eq_2 plOk.eq_1 plOk.eq_2 plOk.eq_3 plV.eq_1 plV.eq_2 plF.eq_1 plF.eq_2 plVal.eq_1 plVal.eq_2 plFz.eq_1 plFz.eq_2 lpOk.eq_1 lpOk.eq_2 lpVal.eq_1 lpVal.eq_2 lpFz.eq_1 lpFz.eq_2 stpOk.eq_1 stpOk.eq_2 stpSt.eq_1 stpSt.eq_2 stpArr.eq_1 keepS.eq_1 keepS.eq_2
section
/-
  How full the leaves are, and how many leaves so many pairs need, by the code: walked.
-/
open Go.RowKit
set_option linter.unusedVariables false
set_option linter.unusedSimpArgs false
set_option maxRecDepth 100000
attribute [local go_sem ↓] runOp headOp
/-! ### percolate/gauge.Fill -/
def r_gFl_0 : Reg := ⟨[], [⟨(.box 5 23 (.t 0)), (some 2), none, [], []⟩, ⟨(.mv (.c (.int .i64 0))), (some 4), none, [], []⟩], [2], [], false⟩
def r_gFl_1 : Reg := ⟨[], [⟨(.mv (.c (.int .i64 0))), (some 5), none, [], []⟩, ⟨(.mv (.c (.int .i64 0))), (some 6), none, [], []⟩], [], [], false⟩
def t_gFl_2 : List ROp := [⟨(.mv (.t 1)), (some 9), none, [], []⟩, ⟨(.len false (.t 9)), (some 10), none, [], []⟩, ⟨(.mv (.c (.int .i64 0))), (some 11), none, [], []⟩]
def r_gFl_2 : Reg := ⟨[], t_gFl_2, [], [], false⟩
def r_gFl_3 : Reg := ⟨[], [⟨(.bin .lss (.t 11) (.t 10)), (some 12), none, [], []⟩], [], [], false⟩
def t_gFl_4 : List ROp := [⟨(.iaddr 10 (.t 9) (.t 11)), (some 13), none, [8], []⟩, ⟨(.load 10 true (.t 13)), (some 14), none, [8], []⟩, ⟨(.alloc 10 34 (.agg [(.int .i64 0), (.int .i64 0), (.sl []), (.sl []), (.str ⟨#[]⟩), (.bool false), (.int .i64 0), (.int .i64 0), (.sl []), (.sl [])])), (some 8), none, [], []⟩, ⟨(.store 10 (.t 8) (.t 14)), none, none, [], []⟩]
def r_gFl_4 : Reg := ⟨[], t_gFl_4, [8], [], false⟩
def t_gFl_5 : List ROp := [⟨(.faddr 1 (.t 8)), (some 15), none, [], []⟩, ⟨(.load 1 false (.t 15)), (some 16), none, [], []⟩, ⟨(.bin .eql (.t 16) (.c (.int .i64 0))), (some 17), none, [], []⟩]
def r_gFl_5 : Reg := ⟨[], t_gFl_5, [], [], false⟩
def t_gFl_6 : List ROp := [⟨(.mv (.t 5)), (some 18), none, [], []⟩, ⟨(.bin .add (.t 18) (.c (.int .i64 1))), (some 19), none, [], []⟩, ⟨(.mv (.t 19)), (some 5), none, [], []⟩]
def r_gFl_6 : Reg := ⟨[], t_gFl_6, [], [], false⟩
def t_gFl_7 : List ROp := [⟨(.mv (.t 6)), (some 20), none, [], []⟩, ⟨(.faddr 9 (.t 8)), (some 21), none, [], []⟩, ⟨(.load 1 false (.t 21)), (some 22), none, [], []⟩, ⟨(.len false (.t 22)), (some 23), none, [], []⟩, ⟨(.bin .add (.t 20) (.t 23)), (some 24), none, [], []⟩, ⟨(.mv (.t 24)), (some 6), none, [], []⟩]
def r_gFl_7 : Reg := ⟨[], t_gFl_7, [], [], false⟩
def r_gFl_8 : Reg := ⟨[], [⟨(.bin .add (.t 11) (.c (.int .i64 1))), (some 25), none, [], []⟩, ⟨(.mv (.t 25)), (some 11), none, [], []⟩], [], [], false⟩
def r_gFl_l9 : IR := (.seq (.reg r_gFl_3)
  (.seq (.cond (.t 12) .skip
  (.exit 0))
  (.seq (.block 1 (.seq (.reg r_gFl_4)
  (.seq (.reg r_gFl_5)
  (.cond (.t 17) (.seq (.reg r_gFl_6)
  (.reg r_gFl_7))
  .skip))))
  (.reg r_gFl_8))))
def t_gFl_10 : List ROp := [⟨(.mv (.t 5)), (some 26), none, [], []⟩, ⟨(.bin .eql (.t 26) (.c (.int .i64 0))), (some 27), none, [], []⟩, ⟨(.mv (.t 27)), (some 28), none, [], []⟩, ⟨(.faddr 1 (.t 2)), (some 29), (some (28, false)), [], []⟩, ⟨(.load 1 false (.t 29)), (some 30), (some (28, false)), [], []⟩, ⟨(.bin .lss (.t 30) (.c (.int .i64 1))), (some 31), (some (28, false)), [], []⟩, ⟨(.pick (.t 28) (.c (.bool true)) (.t 31)), (some 32), none, [], []⟩]
def r_gFl_10 : Reg := ⟨[], t_gFl_10, [], [], false⟩
def r_gFl_11 : Reg := ⟨[], [⟨(.mv (.c (.int .i64 0))), (some 4), none, [], []⟩], [], [], false⟩
def t_gFl_12 : List ROp := [⟨(.mv (.t 6)), (some 33), none, [], []⟩, ⟨(.bin .mul (.t 33) (.c (.int .i64 100))), (some 34), none, [], []⟩, ⟨(.mv (.t 5)), (some 35), none, [], []⟩, ⟨(.faddr 1 (.t 2)), (some 36), none, [], []⟩, ⟨(.load 1 false (.t 36)), (some 37), none, [], []⟩, ⟨(.bin .mul (.t 35) (.t 37)), (some 38), none, [], []⟩, ⟨(.bin .quo (.t 34) (.t 38)), (some 39), none, [], []⟩, ⟨(.mv (.t 39)), (some 4), none, [], []⟩]
def r_gFl_12 : Reg := ⟨[], t_gFl_12, [], [], false⟩
def ir_gFl : IR := (.seq (.reg r_gFl_0)
  (.seq (.reg r_gFl_1)
  (.seq (.seq (.reg r_gFl_2)
  (.block 0 (.loop r_gFl_l9)))
  (.seq (.seq (.reg r_gFl_10)
  (.cond (.t 32) (.seq (.reg r_gFl_11)
  .ret)
  .skip))
  (.seq (.reg r_gFl_12)
  .ret)))))
def res_gFl : List RDesc := [(.tmp 4)]
theorem e_gFl_0 (C : FuncId → List AV → AV → Prop) (σ : St) (K : St → Prop) : runReg C r_gFl_0 σ K = runOps C [⟨(.box 5 23 (.t 0)), (some 2), none, [], []⟩, ⟨(.mv (.c (.int .i64 0))), (some 4), none, [], []⟩] (σ.kills [2]) K := rfl
theorem e_gFl_1 (C : FuncId → List AV → AV → Prop) (σ : St) (K : St → Prop) : runReg C r_gFl_1 σ K = runOps C [⟨(.mv (.c (.int .i64 0))), (some 5), none, [], []⟩, ⟨(.mv (.c (.int .i64 0))), (some 6), none, [], []⟩] (σ.kills []) K := rfl
theorem e_gFl_2 (C : FuncId → List AV → AV → Prop) (σ : St) (K : St → Prop) : runReg C r_gFl_2 σ K = runOps C t_gFl_2 (σ.kills []) K := rfl
theorem e_gFl_3 (C : FuncId → List AV → AV → Prop) (σ : St) (K : St → Prop) : runReg C r_gFl_3 σ K = runOps C [⟨(.bin .lss (.t 11) (.t 10)), (some 12), none, [], []⟩] (σ.kills []) K := rfl
theorem e_gFl_4 (C : FuncId → List AV → AV → Prop) (σ : St) (K : St → Prop) : runReg C r_gFl_4 σ K = runOps C t_gFl_4 (σ.kills [8]) K := rfl
theorem e_gFl_5 (C : FuncId → List AV → AV → Prop) (σ : St) (K : St → Prop) : runReg C r_gFl_5 σ K = runOps C t_gFl_5 (σ.kills []) K := rfl
theorem e_gFl_6 (C : FuncId → List AV → AV → Prop) (σ : St) (K : St → Prop) : runReg C r_gFl_6 σ K = runOps C t_gFl_6 (σ.kills []) K := rfl
theorem e_gFl_7 (C : FuncId → List AV → AV → Prop) (σ : St) (K : St → Prop) : runReg C r_gFl_7 σ K = runOps C t_gFl_7 (σ.kills []) K := rfl
theorem e_gFl_8 (C : FuncId → List AV → AV → Prop) (σ : St) (K : St → Prop) : runReg C r_gFl_8 σ K = runOps C [⟨(.bin .add (.t 11) (.c (.int .i64 1))), (some 25), none, [], []⟩, ⟨(.mv (.t 25)), (some 11), none, [], []⟩] (σ.kills []) K := rfl
theorem e_gFl_10 (C : FuncId → List AV → AV → Prop) (σ : St) (K : St → Prop) : runReg C r_gFl_10 σ K = runOps C t_gFl_10 (σ.kills []) K := rfl
theorem e_gFl_11 (C : FuncId → List AV → AV → Prop) (σ : St) (K : St → Prop) : runReg C r_gFl_11 σ K = runOps C [⟨(.mv (.c (.int .i64 0))), (some 4), none, [], []⟩] (σ.kills []) K := rfl
theorem e_gFl_12 (C : FuncId → List AV → AV → Prop) (σ : St) (K : St → Prop) : runReg C r_gFl_12 σ K = runOps C t_gFl_12 (σ.kills []) K := rfl
theorem fn_gFl {args : List AV} {r : AV} (ha : args.length.ble Tryd.f8.ntmps = true) (h : run (AFn Tryd.prog) ir_gFl (endQ res_gFl r) (initSt args)) : AFn Tryd.prog 8 args r :=
  AFn.of_code (pv := false) (hint := fun _ => []) (c := Tryd.f8.body.getD .skip) (by kernel_rfl) (by kernel_rfl) Tryd.func8 (by kernel_rfl) (by kernel_rfl) (by kernel_rfl) (of_decide_eq_true (by kernel_rfl)) (Nat.le_of_ble_eq_true ha) (Nat.le_of_ble_eq_true (by kernel_rfl)) (run_ok h)
/-! ### percolate/gauge.Least -/
def r_gLs_0 : Reg := ⟨[], [⟨(.box 5 23 (.t 0)), (some 2), none, [], []⟩, ⟨(.mv (.c (.int .i64 0))), (some 4), none, [], []⟩], [2], [], false⟩
def t_gLs_1 : List ROp := [⟨(.faddr 1 (.t 2)), (some 6), none, [], []⟩, ⟨(.load 1 false (.t 6)), (some 7), none, [], []⟩, ⟨(.bin .lss (.t 7) (.c (.int .i64 1))), (some 8), none, [], []⟩]
def r_gLs_1 : Reg := ⟨[], t_gLs_1, [], [], false⟩
def r_gLs_2 : Reg := ⟨[], [⟨(.mv (.c (.int .i64 0))), (some 4), none, [], []⟩], [], [], false⟩
def t_gLs_3 : List ROp := [⟨(.mv (.t 1)), (some 9), none, [], []⟩, ⟨(.mx true (.t 9) (.c (.int .i64 0))), (some 10), none, [], []⟩, ⟨(.faddr 1 (.t 2)), (some 11), none, [], []⟩, ⟨(.load 1 false (.t 11)), (some 12), none, [], []⟩, ⟨(.bin .quo (.t 10) (.t 12)), (some 13), none, [], []⟩, ⟨(.mv (.t 13)), (some 5), none, [], []⟩]
def r_gLs_3 : Reg := ⟨[], t_gLs_3, [], [], false⟩
def t_gLs_4 : List ROp := [⟨(.mv (.t 1)), (some 14), none, [], []⟩, ⟨(.mx true (.t 14) (.c (.int .i64 0))), (some 15), none, [], []⟩, ⟨(.faddr 1 (.t 2)), (some 16), none, [], []⟩, ⟨(.load 1 false (.t 16)), (some 17), none, [], []⟩, ⟨(.bin .rem (.t 15) (.t 17)), (some 18), none, [], []⟩, ⟨(.bin .gtr (.t 18) (.c (.int .i64 0))), (some 19), none, [], []⟩]
def r_gLs_4 : Reg := ⟨[], t_gLs_4, [], [], false⟩
def t_gLs_5 : List ROp := [⟨(.mv (.t 5)), (some 20), none, [], []⟩, ⟨(.bin .add (.t 20) (.c (.int .i64 1))), (some 21), none, [], []⟩, ⟨(.mv (.t 21)), (some 5), none, [], []⟩]
def r_gLs_5 : Reg := ⟨[], t_gLs_5, [], [], false⟩
def t_gLs_6 : List ROp := [⟨(.mv (.t 5)), (some 22), none, [], []⟩, ⟨(.mx true (.t 22) (.c (.int .i64 1))), (some 23), none, [], []⟩, ⟨(.mv (.t 23)), (some 4), none, [], []⟩]
def r_gLs_6 : Reg := ⟨[], t_gLs_6, [], [], false⟩
def ir_gLs : IR := (.seq (.reg r_gLs_0)
  (.seq (.seq (.reg r_gLs_1)
  (.cond (.t 8) (.seq (.reg r_gLs_2)
  .ret)
  .skip))
  (.seq (.reg r_gLs_3)
  (.seq (.seq (.reg r_gLs_4)
  (.cond (.t 19) (.reg r_gLs_5)
  .skip))
  (.seq (.reg r_gLs_6)
  .ret)))))
def res_gLs : List RDesc := [(.tmp 4)]
theorem e_gLs_0 (C : FuncId → List AV → AV → Prop) (σ : St) (K : St → Prop) : runReg C r_gLs_0 σ K = runOps C [⟨(.box 5 23 (.t 0)), (some 2), none, [], []⟩, ⟨(.mv (.c (.int .i64 0))), (some 4), none, [], []⟩] (σ.kills [2]) K := rfl
theorem e_gLs_1 (C : FuncId → List AV → AV → Prop) (σ : St) (K : St → Prop) : runReg C r_gLs_1 σ K = runOps C t_gLs_1 (σ.kills []) K := rfl
theorem e_gLs_2 (C : FuncId → List AV → AV → Prop) (σ : St) (K : St → Prop) : runReg C r_gLs_2 σ K = runOps C [⟨(.mv (.c (.int .i64 0))), (some 4), none, [], []⟩] (σ.kills []) K := rfl
theorem e_gLs_3 (C : FuncId → List AV → AV → Prop) (σ : St) (K : St → Prop) : runReg C r_gLs_3 σ K = runOps C t_gLs_3 (σ.kills []) K := rfl
theorem e_gLs_4 (C : FuncId → List AV → AV → Prop) (σ : St) (K : St → Prop) : runReg C r_gLs_4 σ K = runOps C t_gLs_4 (σ.kills []) K := rfl
theorem e_gLs_5 (C : FuncId → List AV → AV → Prop) (σ : St) (K : St → Prop) : runReg C r_gLs_5 σ K = runOps C t_gLs_5 (σ.kills []) K := rfl
theorem e_gLs_6 (C : FuncId → List AV → AV → Prop) (σ : St) (K : St → Prop) : runReg C r_gLs_6 σ K = runOps C t_gLs_6 (σ.kills []) K := rfl
theorem fn_gLs {args : List AV} {r : AV} (ha : args.length.ble Tryd.f9.ntmps = true) (h : run (AFn Tryd.prog) ir_gLs (endQ res_gLs r) (initSt args)) : AFn Tryd.prog 9 args r :=
  AFn.of_code (pv := false) (hint := fun _ => []) (c := Tryd.f9.body.getD .skip) (by kernel_rfl) (by kernel_rfl) Tryd.func9 (by kernel_rfl) (by kernel_rfl) (by kernel_rfl) (of_decide_eq_true (by kernel_rfl)) (Nat.le_of_ble_eq_true ha) (Nat.le_of_ble_eq_true (by kernel_rfl)) (run_ok h)
attribute [local go_sem ↓] ir_gFl
attribute [local go_sem] res_gFl e_gFl_0 e_gFl_1 e_gFl_2 t_gFl_2 e_gFl_3 e_gFl_4 t_gFl_4 e_gFl_5 t_gFl_5 e_gFl_6 t_gFl_6 e_gFl_7 t_gFl_7 e_gFl_8 e_gFl_10 t_gFl_10 e_gFl_11 e_gFl_12 t_gFl_12
attribute [local go_sem ↓] ir_gLs
attribute [local go_sem] res_gLs e_gLs_0 e_gLs_1 t_gLs_1 e_gLs_2 e_gLs_3 t_gLs_3 e_gLs_4 t_gLs_4 e_gLs_5 t_gLs_5 e_gLs_6 t_gLs_6
/-- the pairs in the leaves -/
def lrw (p : List Nd) : Nat := sumN (fun n => if n.level == 0 then n.rows.length else 0) p
theorem lvs_snoc (p : List Nd) (x : Nd) : lvs (p ++ [x]) = lvs p + if x.level == 0 then 1 else 0 := by
  unfold lvs
  rw [List.countP_append, List.countP_singleton]
theorem lrw_snoc (p : List Nd) (x : Nd) : lrw (p ++ [x]) = lrw p + if x.level == 0 then x.rows.length else 0 := by
  unfold lrw
  rw [sumN_snoc]
theorem lrw_le {p : List Nd} (hl : p.length ≤ 60) (hg : ∀ x, x ∈ p → x.rows.length ≤ 1000) : lrw p ≤ 60000 := by
  unfold lrw
  have h := sumN_le (l := p) (f := fun n : Nd => if n.level == 0 then n.rows.length else 0) (b := 1000) fun y hy => by
    have := hg y hy
    split <;> omega
  have := Nat.mul_le_mul_right 1000 hl
  omega
def fillF (c : Cfg) (l : List Nd) : Int := if lvs l = 0 ∨ c.leaf < 1 then 0 else ((lrw l : Int) * 100).tdiv ((lvs l : Int) * c.leaf)
def flI (c : Cfg) (l : List Nd) (k : Nat) (σ : St) : Prop :=
  ∃ i : Nat, i ≤ l.length ∧ k = l.length - i ∧ σ.T 2 = .ptr 2 0 0 ∧ σ.H 2 = some ⟨5, 23, [c.a], 0⟩ ∧ σ.T 5 = .int .i64 (lvs (l.take i) : Nat) ∧ σ.T 6 = .int .i64 (lrw (l.take i) : Nat) ∧ σ.T 9 = .sl (l.map Nd.a) ∧ σ.T 10 = .int .i64 l.length ∧ σ.T 11 = .int .i64 i
set_option maxHeartbeats 8000000 in
theorem gFl_ok (c : Cfg) (l : List Nd) (hl : l.length ≤ 60) (hg : ∀ x, x ∈ l → x.rows.length ≤ 1000) (hc : c.leaf ≤ 1099511627776) : AFn Tryd.prog 8 [c.a, .sl (l.map Nd.a)] (.int .i64 (fillF c l)) := by
  refine fn_gFl rfl ?_
  simp (maxSteps := 4000000) only [go_sem, ↓reduceIte, reduceCtorEq, Nat.reduceEqDiff, Nat.reduceBEq, Nat.reduceAdd, Nat.reduceSub, Nat.reduceMul, Nat.reduceLT, Nat.reduceLeDiff, Nat.reduceBNe, Int.reduceBEq, Int.reduceBNe, Int.reduceLT, Int.reduceLE, evG, evP, Nat.reduceMod, Nat.reduceDiv, Nat.reduceSub, Nat.reduceLeDiff, Nat.reduceMul, Nat.reduceAdd, Msg.a, Par.a, Cfg.a]
  refine run_loop (flI c l) (k := l.length) ⟨0, Nat.zero_le _, rfl, ?_, ?_, ?_, ?_, ?_, ?_, ?_⟩ ?_
  · simp (maxSteps := 4000000) only [go_sem, ↓reduceIte, reduceCtorEq, Nat.reduceEqDiff, Nat.reduceBEq, Nat.reduceAdd, Nat.reduceSub, Nat.reduceMul, Nat.reduceLT, Nat.reduceLeDiff, Nat.reduceBNe, Int.reduceBEq, Int.reduceBNe, Int.reduceLT, Int.reduceLE, evG, evP, Nat.reduceMod, Nat.reduceDiv, Nat.reduceSub, Nat.reduceLeDiff, Nat.reduceMul, Nat.reduceAdd, Msg.a, Par.a]
  · (simp (maxSteps := 4000000) only [go_sem, ↓reduceIte, reduceCtorEq, Nat.reduceEqDiff, Nat.reduceBEq, Nat.reduceAdd, Nat.reduceSub, Nat.reduceMul, Nat.reduceLT, Nat.reduceLeDiff, Nat.reduceBNe, Int.reduceBEq, Int.reduceBNe, Int.reduceLT, Int.reduceLE, evG, evP, Nat.reduceMod, Nat.reduceDiv, Nat.reduceSub, Nat.reduceLeDiff, Nat.reduceMul, Nat.reduceAdd, Msg.a, Par.a, Cfg.a]) <;> rfl
  · (simp (maxSteps := 4000000) only [go_sem, ↓reduceIte, reduceCtorEq, Nat.reduceEqDiff, Nat.reduceBEq, Nat.reduceAdd, Nat.reduceSub, Nat.reduceMul, Nat.reduceLT, Nat.reduceLeDiff, Nat.reduceBNe, Int.reduceBEq, Int.reduceBNe, Int.reduceLT, Int.reduceLE, evG, evP, Nat.reduceMod, Nat.reduceDiv, Nat.reduceSub, Nat.reduceLeDiff, Nat.reduceMul, Nat.reduceAdd, Msg.a, Par.a]) <;> rfl
  · (simp (maxSteps := 4000000) only [go_sem, ↓reduceIte, reduceCtorEq, Nat.reduceEqDiff, Nat.reduceBEq, Nat.reduceAdd, Nat.reduceSub, Nat.reduceMul, Nat.reduceLT, Nat.reduceLeDiff, Nat.reduceBNe, Int.reduceBEq, Int.reduceBNe, Int.reduceLT, Int.reduceLE, evG, evP, Nat.reduceMod, Nat.reduceDiv, Nat.reduceSub, Nat.reduceLeDiff, Nat.reduceMul, Nat.reduceAdd, Msg.a, Par.a]) <;> rfl
  · simp (maxSteps := 4000000) only [go_sem, ↓reduceIte, reduceCtorEq, Nat.reduceEqDiff, Nat.reduceBEq, Nat.reduceAdd, Nat.reduceSub, Nat.reduceMul, Nat.reduceLT, Nat.reduceLeDiff, Nat.reduceBNe, Int.reduceBEq, Int.reduceBNe, Int.reduceLT, Int.reduceLE, evG, evP, Nat.reduceMod, Nat.reduceDiv, Nat.reduceSub, Nat.reduceLeDiff, Nat.reduceMul, Nat.reduceAdd, Msg.a, Par.a]
  · simp (maxSteps := 4000000) only [go_sem, ↓reduceIte, reduceCtorEq, Nat.reduceEqDiff, Nat.reduceBEq, Nat.reduceAdd, Nat.reduceSub, Nat.reduceMul, Nat.reduceLT, Nat.reduceLeDiff, Nat.reduceBNe, Int.reduceBEq, Int.reduceBNe, Int.reduceLT, Int.reduceLE, evG, evP, Nat.reduceMod, Nat.reduceDiv, Nat.reduceSub, Nat.reduceLeDiff, Nat.reduceMul, Nat.reduceAdd, Msg.a, Par.a, List.length_map]
  · (simp (maxSteps := 4000000) only [go_sem, ↓reduceIte, reduceCtorEq, Nat.reduceEqDiff, Nat.reduceBEq, Nat.reduceAdd, Nat.reduceSub, Nat.reduceMul, Nat.reduceLT, Nat.reduceLeDiff, Nat.reduceBNe, Int.reduceBEq, Int.reduceBNe, Int.reduceLT, Int.reduceLE, evG, evP, Nat.reduceMod, Nat.reduceDiv, Nat.reduceSub, Nat.reduceLeDiff, Nat.reduceMul, Nat.reduceAdd, Msg.a, Par.a]) <;> rfl
  rintro k σ ⟨i, hi, rfl, t2, h2, t5, t6, t9, t10, t11⟩
  simp only [Cfg.a] at h2
  simp only [r_gFl_l9]
  by_cases hlt : i < l.length
  case neg =>
    have hlt' : ¬ (i : Int) < (l.length : Int) := by omega
    have e : l.take i = l := List.take_of_length_le (by omega)
    rw [e] at t5 t6
    have b1 : lvs l ≤ 60 := Nat.le_trans List.countP_le_length hl
    have b2 := lrw_le hl hg
    unfold fillF
    generalize lvs l = L at *
    generalize lrw l = R at *
    by_cases hL : L = 0
    · subst hL
      rw [if_pos (.inl rfl)]
      have z : (((0 : Nat) : Int) == 0) = true := rfl
      simp (maxSteps := 4000000) only [go_sem, ↓reduceIte, reduceCtorEq, Nat.reduceEqDiff, Nat.reduceBEq, Nat.reduceAdd, Nat.reduceSub, Nat.reduceMul, Nat.reduceLT, Nat.reduceLeDiff, Nat.reduceBNe, Int.reduceBEq, Int.reduceBNe, Int.reduceLT, Int.reduceLE, evG, evP, Nat.reduceMod, Nat.reduceDiv, Nat.reduceSub, Nat.reduceLeDiff, Nat.reduceMul, Nat.reduceAdd, Msg.a, Par.a, t2, h2, t5, t6, t10, t11, hlt', z]
    · have z : ((L : Int) == 0) = false := beq_eq_false_iff_ne.2 (by omega)
      by_cases hc1 : c.leaf < 1
      · rw [if_pos (.inr hc1)]
        simp (maxSteps := 4000000) only [go_sem, ↓reduceIte, reduceCtorEq, Nat.reduceEqDiff, Nat.reduceBEq, Nat.reduceAdd, Nat.reduceSub, Nat.reduceMul, Nat.reduceLT, Nat.reduceLeDiff, Nat.reduceBNe, Int.reduceBEq, Int.reduceBNe, Int.reduceLT, Int.reduceLE, evG, evP, Nat.reduceMod, Nat.reduceDiv, Nat.reduceSub, Nat.reduceLeDiff, Nat.reduceMul, Nat.reduceAdd, Msg.a, Par.a, t2, h2, t5, t6, t10, t11, hlt', z, hc1]
      · rw [if_neg (by omega)]
        have m1 : (L : Int) * c.leaf ≤ 60 * 1099511627776 := Int.mul_le_mul (by omega) hc (by omega) (by omega)
        have m0 : 0 < (L : Int) * c.leaf := Int.mul_pos (by omega) (by omega)
        have w1 : IntKind.i64.wrap ((R : Int) * 100) = (R : Int) * 100 := IntWalk.i64_in _ (by omega)
        have w2 : IntKind.i64.wrap ((L : Int) * c.leaf) = (L : Int) * c.leaf := IntWalk.i64_in _ (by omega)
        have fl := fill_law (L := L) (c := c.leaf) (R := R) (by omega) (by omega) (by omega)
        have w3 : IntKind.i64.wrap (((R : Int) * 100).tdiv ((L : Int) * c.leaf)) = ((R : Int) * 100).tdiv ((L : Int) * c.leaf) := IntWalk.i64_in _ (by omega)
        have n0 : ¬ (L : Int) * c.leaf = 0 := by omega
        simp (maxSteps := 4000000) only [go_sem, ↓reduceIte, reduceCtorEq, Nat.reduceEqDiff, Nat.reduceBEq, Nat.reduceAdd, Nat.reduceSub, Nat.reduceMul, Nat.reduceLT, Nat.reduceLeDiff, Nat.reduceBNe, Int.reduceBEq, Int.reduceBNe, Int.reduceLT, Int.reduceLE, evG, evP, Nat.reduceMod, Nat.reduceDiv, Nat.reduceSub, Nat.reduceLeDiff, Nat.reduceMul, Nat.reduceAdd, Msg.a, Par.a, t2, h2, t5, t6, t10, t11, hlt', z, hc1, w1, w2, w3, n0]
        exact n0
  have hlt' : (i : Int) < (l.length : Int) := by omega
  obtain ⟨x, hx⟩ := get_lt hlt
  have gr := hg x (List.mem_of_getElem? hx)
  have hge := at_map (f := Nd.a) hx
  simp only [Nd.a] at hge
  have tk : l.take (i + 1) = l.take i ++ [x] := by rw [List.take_add_one, hx]; rfl
  have hpl : (l.take i).length ≤ 60 := by rw [List.length_take]; omega
  have b1 : lvs (l.take i) ≤ 60 := Nat.le_trans List.countP_le_length hpl
  have b2 := lrw_le hpl fun y hy => hg y (List.mem_of_mem_take hy)
  have w0 := wrapS (j := i) (by omega)
  have w1 := wrapS (j := lvs (l.take i)) (by omega)
  have w2 : IntKind.i64.wrap ((lrw (l.take i) : Int) + (x.rows.length : Int)) = ((lrw (l.take i) + x.rows.length : Nat) : Int) := by rw [IntWalk.i64_in _ (by omega)]; omega
  by_cases hz : x.level = 0
  · have q0 : (x.level == 0) = true := by simp [hz]
    simp (maxSteps := 4000000) only [go_sem, ↓reduceIte, reduceCtorEq, Nat.reduceEqDiff, Nat.reduceBEq, Nat.reduceAdd, Nat.reduceSub, Nat.reduceMul, Nat.reduceLT, Nat.reduceLeDiff, Nat.reduceBNe, Int.reduceBEq, Int.reduceBNe, Int.reduceLT, Int.reduceLE, evG, evP, Nat.reduceMod, Nat.reduceDiv, Nat.reduceSub, Nat.reduceLeDiff, Nat.reduceMul, Nat.reduceAdd, Msg.a, Par.a, t2, h2, t5, t6, t9, t10, t11, hlt', hlt, hge, q0, w0, w1, w2, List.length_map, Int.toNat_natCast]
    (repeat refine And.intro (by omega) ?_)
    refine ⟨l.length - (i + 1), by omega, i + 1, by omega, rfl, ?_, ?_, ?_, ?_, ?_, ?_, ?_⟩
    · simp (maxSteps := 4000000) only [go_sem, ↓reduceIte, reduceCtorEq, Nat.reduceEqDiff, Nat.reduceBEq, Nat.reduceAdd, Nat.reduceSub, Nat.reduceMul, Nat.reduceLT, Nat.reduceLeDiff, Nat.reduceBNe, Int.reduceBEq, Int.reduceBNe, Int.reduceLT, Int.reduceLE, evG, evP, Nat.reduceMod, Nat.reduceDiv, Nat.reduceSub, Nat.reduceLeDiff, Nat.reduceMul, Nat.reduceAdd, Msg.a, Par.a, t2]
    · simp (maxSteps := 4000000) only [go_sem, ↓reduceIte, reduceCtorEq, Nat.reduceEqDiff, Nat.reduceBEq, Nat.reduceAdd, Nat.reduceSub, Nat.reduceMul, Nat.reduceLT, Nat.reduceLeDiff, Nat.reduceBNe, Int.reduceBEq, Int.reduceBNe, Int.reduceLT, Int.reduceLE, evG, evP, Nat.reduceMod, Nat.reduceDiv, Nat.reduceSub, Nat.reduceLeDiff, Nat.reduceMul, Nat.reduceAdd, Msg.a, Par.a, h2, Cfg.a]
    · rw [tk, lvs_snoc, q0, if_pos rfl]; simp (maxSteps := 4000000) only [go_sem, ↓reduceIte, reduceCtorEq, Nat.reduceEqDiff, Nat.reduceBEq, Nat.reduceAdd, Nat.reduceSub, Nat.reduceMul, Nat.reduceLT, Nat.reduceLeDiff, Nat.reduceBNe, Int.reduceBEq, Int.reduceBNe, Int.reduceLT, Int.reduceLE, evG, evP, Nat.reduceMod, Nat.reduceDiv, Nat.reduceSub, Nat.reduceLeDiff, Nat.reduceMul, Nat.reduceAdd, Msg.a, Par.a, w1]
    · rw [tk, lrw_snoc, q0, if_pos rfl]; simp (maxSteps := 4000000) only [go_sem, ↓reduceIte, reduceCtorEq, Nat.reduceEqDiff, Nat.reduceBEq, Nat.reduceAdd, Nat.reduceSub, Nat.reduceMul, Nat.reduceLT, Nat.reduceLeDiff, Nat.reduceBNe, Int.reduceBEq, Int.reduceBNe, Int.reduceLT, Int.reduceLE, evG, evP, Nat.reduceMod, Nat.reduceDiv, Nat.reduceSub, Nat.reduceLeDiff, Nat.reduceMul, Nat.reduceAdd, Msg.a, Par.a, w2]
    · simp (maxSteps := 4000000) only [go_sem, ↓reduceIte, reduceCtorEq, Nat.reduceEqDiff, Nat.reduceBEq, Nat.reduceAdd, Nat.reduceSub, Nat.reduceMul, Nat.reduceLT, Nat.reduceLeDiff, Nat.reduceBNe, Int.reduceBEq, Int.reduceBNe, Int.reduceLT, Int.reduceLE, evG, evP, Nat.reduceMod, Nat.reduceDiv, Nat.reduceSub, Nat.reduceLeDiff, Nat.reduceMul, Nat.reduceAdd, Msg.a, Par.a, t9]
    · simp (maxSteps := 4000000) only [go_sem, ↓reduceIte, reduceCtorEq, Nat.reduceEqDiff, Nat.reduceBEq, Nat.reduceAdd, Nat.reduceSub, Nat.reduceMul, Nat.reduceLT, Nat.reduceLeDiff, Nat.reduceBNe, Int.reduceBEq, Int.reduceBNe, Int.reduceLT, Int.reduceLE, evG, evP, Nat.reduceMod, Nat.reduceDiv, Nat.reduceSub, Nat.reduceLeDiff, Nat.reduceMul, Nat.reduceAdd, Msg.a, Par.a, t10]
    · simp (maxSteps := 4000000) only [go_sem, ↓reduceIte, reduceCtorEq, Nat.reduceEqDiff, Nat.reduceBEq, Nat.reduceAdd, Nat.reduceSub, Nat.reduceMul, Nat.reduceLT, Nat.reduceLeDiff, Nat.reduceBNe, Int.reduceBEq, Int.reduceBNe, Int.reduceLT, Int.reduceLE, evG, evP, Nat.reduceMod, Nat.reduceDiv, Nat.reduceSub, Nat.reduceLeDiff, Nat.reduceMul, Nat.reduceAdd, Msg.a, Par.a, w0]
  · have q0 : (x.level == 0) = false := by simpa using hz
    simp (maxSteps := 4000000) only [go_sem, ↓reduceIte, reduceCtorEq, Nat.reduceEqDiff, Nat.reduceBEq, Nat.reduceAdd, Nat.reduceSub, Nat.reduceMul, Nat.reduceLT, Nat.reduceLeDiff, Nat.reduceBNe, Int.reduceBEq, Int.reduceBNe, Int.reduceLT, Int.reduceLE, evG, evP, Nat.reduceMod, Nat.reduceDiv, Nat.reduceSub, Nat.reduceLeDiff, Nat.reduceMul, Nat.reduceAdd, Msg.a, Par.a, t2, h2, t5, t6, t9, t10, t11, hlt', hlt, hge, q0, w0, List.length_map, Int.toNat_natCast]
    (repeat refine And.intro (by omega) ?_)
    refine ⟨l.length - (i + 1), by omega, i + 1, by omega, rfl, ?_, ?_, ?_, ?_, ?_, ?_, ?_⟩
    · simp (maxSteps := 4000000) only [go_sem, ↓reduceIte, reduceCtorEq, Nat.reduceEqDiff, Nat.reduceBEq, Nat.reduceAdd, Nat.reduceSub, Nat.reduceMul, Nat.reduceLT, Nat.reduceLeDiff, Nat.reduceBNe, Int.reduceBEq, Int.reduceBNe, Int.reduceLT, Int.reduceLE, evG, evP, Nat.reduceMod, Nat.reduceDiv, Nat.reduceSub, Nat.reduceLeDiff, Nat.reduceMul, Nat.reduceAdd, Msg.a, Par.a, t2]
    · simp (maxSteps := 4000000) only [go_sem, ↓reduceIte, reduceCtorEq, Nat.reduceEqDiff, Nat.reduceBEq, Nat.reduceAdd, Nat.reduceSub, Nat.reduceMul, Nat.reduceLT, Nat.reduceLeDiff, Nat.reduceBNe, Int.reduceBEq, Int.reduceBNe, Int.reduceLT, Int.reduceLE, evG, evP, Nat.reduceMod, Nat.reduceDiv, Nat.reduceSub, Nat.reduceLeDiff, Nat.reduceMul, Nat.reduceAdd, Msg.a, Par.a, h2, Cfg.a]
    · rw [tk, lvs_snoc, q0]; simp (maxSteps := 4000000) only [go_sem, ↓reduceIte, reduceCtorEq, Nat.reduceEqDiff, Nat.reduceBEq, Nat.reduceAdd, Nat.reduceSub, Nat.reduceMul, Nat.reduceLT, Nat.reduceLeDiff, Nat.reduceBNe, Int.reduceBEq, Int.reduceBNe, Int.reduceLT, Int.reduceLE, evG, evP, Nat.reduceMod, Nat.reduceDiv, Nat.reduceSub, Nat.reduceLeDiff, Nat.reduceMul, Nat.reduceAdd, Msg.a, Par.a, t5]
    · rw [tk, lrw_snoc, q0]; simp (maxSteps := 4000000) only [go_sem, ↓reduceIte, reduceCtorEq, Nat.reduceEqDiff, Nat.reduceBEq, Nat.reduceAdd, Nat.reduceSub, Nat.reduceMul, Nat.reduceLT, Nat.reduceLeDiff, Nat.reduceBNe, Int.reduceBEq, Int.reduceBNe, Int.reduceLT, Int.reduceLE, evG, evP, Nat.reduceMod, Nat.reduceDiv, Nat.reduceSub, Nat.reduceLeDiff, Nat.reduceMul, Nat.reduceAdd, Msg.a, Par.a, t6]
    · simp (maxSteps := 4000000) only [go_sem, ↓reduceIte, reduceCtorEq, Nat.reduceEqDiff, Nat.reduceBEq, Nat.reduceAdd, Nat.reduceSub, Nat.reduceMul, Nat.reduceLT, Nat.reduceLeDiff, Nat.reduceBNe, Int.reduceBEq, Int.reduceBNe, Int.reduceLT, Int.reduceLE, evG, evP, Nat.reduceMod, Nat.reduceDiv, Nat.reduceSub, Nat.reduceLeDiff, Nat.reduceMul, Nat.reduceAdd, Msg.a, Par.a, t9]
    · simp (maxSteps := 4000000) only [go_sem, ↓reduceIte, reduceCtorEq, Nat.reduceEqDiff, Nat.reduceBEq, Nat.reduceAdd, Nat.reduceSub, Nat.reduceMul, Nat.reduceLT, Nat.reduceLeDiff, Nat.reduceBNe, Int.reduceBEq, Int.reduceBNe, Int.reduceLT, Int.reduceLE, evG, evP, Nat.reduceMod, Nat.reduceDiv, Nat.reduceSub, Nat.reduceLeDiff, Nat.reduceMul, Nat.reduceAdd, Msg.a, Par.a, t10]
    · simp (maxSteps := 4000000) only [go_sem, ↓reduceIte, reduceCtorEq, Nat.reduceEqDiff, Nat.reduceBEq, Nat.reduceAdd, Nat.reduceSub, Nat.reduceMul, Nat.reduceLT, Nat.reduceLeDiff, Nat.reduceBNe, Int.reduceBEq, Int.reduceBNe, Int.reduceLT, Int.reduceLE, evG, evP, Nat.reduceMod, Nat.reduceDiv, Nat.reduceSub, Nat.reduceLeDiff, Nat.reduceMul, Nat.reduceAdd, Msg.a, Par.a, w0]
def leastF (c : Cfg) (p : Int) : Int := if c.leaf < 1 then 0 else if p ≤ 0 then 1 else (p - 1).tdiv c.leaf + 1
set_option maxHeartbeats 8000000 in
theorem gLs_ok (c : Cfg) (p : Int) (hp : -9223372036854775808 ≤ p ∧ p ≤ 9223372036854775807) : AFn Tryd.prog 9 [c.a, .int .i64 p] (.int .i64 (leastF c p)) := by
  refine fn_gLs rfl ?_
  unfold leastF
  by_cases hc : c.leaf < 1
  · rw [if_pos hc]
    simp (maxSteps := 4000000) only [go_sem, ↓reduceIte, reduceCtorEq, Nat.reduceEqDiff, Nat.reduceBEq, Nat.reduceAdd, Nat.reduceSub, Nat.reduceMul, Nat.reduceLT, Nat.reduceLeDiff, Nat.reduceBNe, Int.reduceBEq, Int.reduceBNe, Int.reduceLT, Int.reduceLE, evG, evP, Nat.reduceMod, Nat.reduceDiv, Nat.reduceSub, Nat.reduceLeDiff, Nat.reduceMul, Nat.reduceAdd, Msg.a, Par.a, Cfg.a, hc]
  rw [if_neg hc]
  have n0 : ¬ c.leaf = 0 := by omega
  have n1 : (c.leaf ≠ 0) = True := eq_true n0
  by_cases hp0 : p ≤ 0
  · rw [if_pos hp0]
    have g0 : ¬ p > 0 := by omega
    by_cases hpe : p = 0
    · subst hpe
      have z1 : (0 : Int).tdiv c.leaf = 0 := Int.zero_tdiv _
      have z2 : (0 : Int).tmod c.leaf = 0 := Int.zero_tmod _
      have w1 : IntKind.i64.wrap (0 : Int) = 0 := rfl
      simp (maxSteps := 4000000) only [go_sem, ↓reduceIte, reduceCtorEq, Nat.reduceEqDiff, Nat.reduceBEq, Nat.reduceAdd, Nat.reduceSub, Nat.reduceMul, Nat.reduceLT, Nat.reduceLeDiff, Nat.reduceBNe, Int.reduceBEq, Int.reduceBNe, Int.reduceLT, Int.reduceLE, evG, evP, Nat.reduceMod, Nat.reduceDiv, Nat.reduceSub, Nat.reduceLeDiff, Nat.reduceMul, Nat.reduceAdd, Msg.a, Par.a, Cfg.a, hc, n0, n1, z1, z2, w1, g0]
    · have hpl : p < 0 := by omega
      have z1 : (0 : Int).tdiv c.leaf = 0 := Int.zero_tdiv _
      have z2 : (0 : Int).tmod c.leaf = 0 := Int.zero_tmod _
      have w1 : IntKind.i64.wrap (0 : Int) = 0 := rfl
      simp (maxSteps := 4000000) only [go_sem, ↓reduceIte, reduceCtorEq, Nat.reduceEqDiff, Nat.reduceBEq, Nat.reduceAdd, Nat.reduceSub, Nat.reduceMul, Nat.reduceLT, Nat.reduceLeDiff, Nat.reduceBNe, Int.reduceBEq, Int.reduceBNe, Int.reduceLT, Int.reduceLE, evG, evP, Nat.reduceMod, Nat.reduceDiv, Nat.reduceSub, Nat.reduceLeDiff, Nat.reduceMul, Nat.reduceAdd, Msg.a, Par.a, Cfg.a, hc, n0, n1, z1, z2, w1, g0, hpl]
  · rw [if_neg hp0]
    have g0 : p > 0 := by omega
    have ll := least_law (p := p) (c := c.leaf) (by omega) (by omega)
    obtain ⟨e1, e2, e3⟩ := ll
    have q0 : 0 ≤ p.tdiv c.leaf := Int.tdiv_nonneg (by omega) (by omega)
    have m0 : 0 ≤ p.tmod c.leaf := Int.tmod_nonneg _ (by omega)
    have m1 : p.tmod c.leaf ≤ p := by
      have := Int.mul_tdiv_add_tmod p c.leaf
      have h2 : 0 ≤ c.leaf * p.tdiv c.leaf := Int.mul_nonneg (by omega) q0
      omega
    have np : ¬ p < 0 := by omega
    have gx : (if p < 0 then 0 else p) = p := if_neg np
    simp (maxSteps := 4000000) only [go_sem, ↓reduceIte, reduceCtorEq, Nat.reduceEqDiff, Nat.reduceBEq, Nat.reduceAdd, Nat.reduceSub, Nat.reduceMul, Nat.reduceLT, Nat.reduceLeDiff, Nat.reduceBNe, Int.reduceBEq, Int.reduceBNe, Int.reduceLT, Int.reduceLE, evG, evP, Nat.reduceMod, Nat.reduceDiv, Nat.reduceSub, Nat.reduceLeDiff, Nat.reduceMul, Nat.reduceAdd, Msg.a, Par.a, Cfg.a, hc, n0, n1, g0]
    simp only [gx]
    generalize (p - 1).tdiv c.leaf = E at *
    generalize p.tdiv c.leaf = q at *
    generalize p.tmod c.leaf = m at *
    by_cases hm : 0 < m
    · rw [if_pos hm] at e1 ⊢
      have w2 : IntKind.i64.wrap q = q := IntWalk.i64_in _ (by omega)
      have w3 : IntKind.i64.wrap (q + 1) = q + 1 := IntWalk.i64_in _ (by omega)
      rw [w2, w3, if_neg (by omega), e1]
    · rw [if_neg hm] at e1 ⊢
      have w2 : IntKind.i64.wrap q = q := IntWalk.i64_in _ (by omega)
      rw [w2, if_neg (by omega), e1]
end
section
/-
  The chapter's example of the gauges, by the code: walked; and that the numbers of a tree are small.
-/
open Go.RowKit
set_option linter.unusedVariables false
set_option linter.unusedSimpArgs false
set_option maxRecDepth 100000
attribute [local go_sem ↓] runOp headOp
/-! ### percolate/percolatelaw50.awake -/
def r_awk50_0 : Reg := ⟨[], [⟨(.mv (.c (.bool false))), (some 0), none, [], []⟩], [], [], false⟩
def t_awk50_1 : List ROp := [⟨(.bld [(.str ⟨#[]⟩), (.str ⟨#[]⟩)] [⟨0, 1, (.c (.str ⟨#[97]⟩))⟩]), (some 2), none, [3, 5], []⟩, ⟨(.bsl 2 46 [(.t 2)]), (some 3), none, [5], []⟩, ⟨(.bld [(.int .i64 0), (.int .i64 0), (.sl []), (.sl []), (.str ⟨#[]⟩), (.bool false), (.int .i64 0), (.int .i64 0), (.sl []), (.sl [])] [⟨5, 1, (.c (.bool true))⟩, ⟨6, 1, (.c (.int .i64 (-1)))⟩, ⟨9, 1, (.t 3)⟩]), (some 4), none, [5], []⟩, ⟨(.bsl 10 34 [(.t 4)]), (some 5), none, [], []⟩, ⟨(.mv (.t 5)), (some 1), none, [], []⟩]
def r_awk50_1 : Reg := ⟨[], t_awk50_1, [3, 5], [], false⟩
def t_awk50_2 : List ROp := [⟨(.mv (.t 1)), (some 6), none, [7, 8, 13, 18], []⟩, ⟨(.callv (.c (.clo 10 [] [])) [(.t 6)]), (some 7), none, [8, 13, 18], []⟩, ⟨(.callv (.c (.clo 13 [] [])) [(.t 7)]), (some 8), none, [13, 18], []⟩, ⟨(.bin .eql (.t 8) (.c (.str ⟨#[110, 111, 100, 101, 115, 32, 49, 32, 108, 101, 97, 118, 101, 115, 32, 49, 32, 104, 101, 105, 103, 104, 116, 32, 49, 32, 114, 111, 119, 115, 32, 49, 32, 109, 115, 103, 115, 32, 48, 32, 98, 121, 116, 101, 115, 32, 48, 32, 101, 109, 112, 116, 121, 32, 48, 32, 108, 101, 118, 101, 108, 32, 49, 32, 48]⟩))), (some 9), none, [13, 18], []⟩, ⟨(.mv (.t 9)), (some 10), none, [13, 18], []⟩, ⟨(.bld [(.int .i64 0), (.int .i64 0), (.int .i64 0), (.int .i64 0), (.int .i64 0)] [⟨1, 1, (.c (.int .i64 2))⟩]), (some 11), (some (10, true)), [13, 18], []⟩, ⟨(.mv (.t 1)), (some 12), (some (10, true)), [13, 18], []⟩, ⟨(.callv (.c (.clo 8 [] [])) [(.t 11), (.t 12)]), (some 13), (some (10, true)), [18], []⟩, ⟨(.bin .eql (.t 13) (.c (.int .i64 50))), (some 14), (some (10, true)), [18], []⟩, ⟨(.pick (.t 10) (.t 14) (.c (.bool false))), (some 15), none, [18], []⟩, ⟨(.mv (.t 15)), (some 16), none, [18], []⟩, ⟨(.bld [(.int .i64 0), (.int .i64 0), (.int .i64 0), (.int .i64 0), (.int .i64 0)] [⟨1, 1, (.c (.int .i64 2))⟩]), (some 17), (some (16, true)), [18], []⟩, ⟨(.callv (.c (.clo 9 [] [])) [(.t 17), (.c (.int .i64 3))]), (some 18), (some (16, true)), [], []⟩, ⟨(.bin .eql (.t 18) (.c (.int .i64 2))), (some 19), (some (16, true)), [], []⟩, ⟨(.pick (.t 16) (.t 19) (.c (.bool false))), (some 20), none, [], []⟩, ⟨(.mv (.t 20)), (some 0), none, [], []⟩]
def r_awk50_2 : Reg := ⟨[], t_awk50_2, [7, 8, 13, 18], [], false⟩
def ir_awk50 : IR := (.seq (.reg r_awk50_0)
  (.seq (.reg r_awk50_1)
  (.seq (.reg r_awk50_2)
  .ret)))
def res_awk50 : List RDesc := [(.tmp 0)]
theorem e_awk50_0 (C : FuncId → List AV → AV → Prop) (σ : St) (K : St → Prop) : runReg C r_awk50_0 σ K = runOps C [⟨(.mv (.c (.bool false))), (some 0), none, [], []⟩] (σ.kills []) K := rfl
theorem e_awk50_1 (C : FuncId → List AV → AV → Prop) (σ : St) (K : St → Prop) : runReg C r_awk50_1 σ K = runOps C t_awk50_1 (σ.kills [3, 5]) K := rfl
theorem e_awk50_2 (C : FuncId → List AV → AV → Prop) (σ : St) (K : St → Prop) : runReg C r_awk50_2 σ K = runOps C t_awk50_2 (σ.kills [7, 8, 13, 18]) K := rfl
theorem fn_awk50 {args : List AV} {r : AV} (ha : args.length.ble Tryd.f7.ntmps = true) (h : run (AFn Tryd.prog) ir_awk50 (endQ res_awk50 r) (initSt args)) : AFn Tryd.prog 7 args r :=
  AFn.of_code (pv := false) (hint := fun _ => []) (c := Tryd.f7.body.getD .skip) (by kernel_rfl) (by kernel_rfl) Tryd.func7 (by kernel_rfl) (by kernel_rfl) (by kernel_rfl) (of_decide_eq_true (by kernel_rfl)) (Nat.le_of_ble_eq_true ha) (Nat.le_of_ble_eq_true (by kernel_rfl)) (run_ok h)
attribute [local go_sem ↓] ir_awk50
attribute [local go_sem] res_awk50 e_awk50_0 e_awk50_1 t_awk50_1 e_awk50_2 t_awk50_2
def nd50 : Nd := ⟨0, 0, [], [], ⟨#[]⟩, true, -1, 0, [], [⟨⟨#[97]⟩, ⟨#[]⟩⟩]⟩
def g50 : Gau := ⟨1, 1, 1, 1, 0, 0, 0, [1], [0]⟩
def c50 : Cfg := ⟨0, 2, 0, 0, 0⟩
def s50 : ByteArray := ⟨#[110, 111, 100, 101, 115, 32, 49, 32, 108, 101, 97, 118, 101, 115, 32, 49, 32, 104, 101, 105, 103, 104, 116, 32, 49, 32, 114, 111, 119, 115, 32, 49, 32, 109, 115, 103, 115, 32, 48, 32, 98, 121, 116, 101, 115, 32, 48, 32, 101, 109, 112, 116, 121, 32, 48, 32, 108, 101, 118, 101, 108, 32, 49, 32, 48]⟩
theorem of50 : ofG (hiG 0 [nd50]) [nd50].length [nd50] = g50 := rfl
theorem line50 : joinB (lineW g50) ⟨#[32]⟩ = s50 := by decide +kernel
theorem fits50 : g50.fits := by
  unfold g50
  refine ⟨?_, ?_, ?_, ?_, ?_, ?_, ?_, ?_, ?_, by decide, by decide⟩
  · unfold inI; decide
  · unfold inI; decide
  · unfold inI; decide
  · unfold inI; decide
  · unfold inI; decide
  · unfold inI; decide
  · unfold inI; decide
  · intro x hx; rw [List.mem_singleton.1 hx]; unfold inI; decide
  · intro x hx; rw [List.mem_singleton.1 hx]; unfold inI; decide
set_option maxHeartbeats 8000000 in
theorem awk50_ok : AFn Tryd.prog 7 [] (.bool true) := by
  refine fn_awk50 rfl ?_
  have c1 := gOf_ok [nd50] (by decide) (fun x hx => by
    rw [List.mem_singleton.1 hx]
    exact ⟨by decide, by decide, ⟨by decide, fun m hm => by cases hm⟩⟩)
  rw [of50] at c1
  have c2 := gLn_ok g50 fits50
  rw [line50] at c2
  have c3 := gFl_ok c50 [nd50] (by decide) (fun x hx => by rw [List.mem_singleton.1 hx]; decide) (by decide)
  have c4 := gLs_ok c50 3 (by decide)
  rw [show fillF c50 [nd50] = 50 by decide] at c3
  rw [show leastF c50 3 = 2 by decide] at c4
  simp only [nd50, g50, c50, s50, Nd.a, Gau.a, Cfg.a, Par.a, List.map_cons, List.map_nil] at c1 c2 c3 c4
  (repeat (first | simp (maxSteps := 4000000) only [go_sem, ↓reduceIte, reduceCtorEq, Nat.reduceEqDiff, Nat.reduceBEq, Nat.reduceAdd, Nat.reduceSub, Nat.reduceMul, Nat.reduceLT, Nat.reduceLeDiff, Nat.reduceBNe, Int.reduceBEq, Int.reduceBNe, Int.reduceLT, Int.reduceLE, evG, evP, Nat.reduceMod, Nat.reduceDiv, Nat.reduceSub, Nat.reduceLeDiff, Nat.reduceMul, Nat.reduceAdd, Msg.a, Par.a] | refine calling (c1) ?_ | refine callingH (c1) ?_ | refine calling (c2) ?_ | refine callingH (c2) ?_ | refine calling (c3) ?_ | refine callingH (c3) ?_ | refine calling (c4) ?_ | refine callingH (c4) ?_ | refine And.intro (by omega) ?_ | refine And.intro (fun d hd => by (repeat (rcases hd with rfl | hd; · exact ⟨rfl, rfl⟩)); cases hd) ?_))
theorem ofG_fits (l : List Nd) (hl : l.length ≤ 60) (hg : ∀ x, x ∈ l → x.Gd) : (ofG (hiG 0 l) l.length l).fits := by
  have hH := hiG_le l (Nat.zero_le 61)
  generalize hiG 0 l = H at *
  have b1 : lvs l ≤ 60 := Nat.le_trans List.countP_le_length hl
  have b6 : emp l ≤ 60 := Nat.le_trans List.countP_le_length hl
  have b3 : rwsN l ≤ 60 * 1000 := Nat.le_trans (sumN_le fun y hy => (hg y hy).rows) (Nat.mul_le_mul_right _ hl)
  have b4 : msgN l ≤ 60 * 1000 := Nat.le_trans (sumN_le fun y hy => (hg y hy).msgs) (Nat.mul_le_mul_right _ hl)
  have b5 : bytN l ≤ 60 * 2000036000000 := Nat.le_trans (sumN_le fun y hy => by
    have := sizes_take (hg y hy).kok y.msgs.length
    rwa [List.take_length] at this) (Nat.mul_le_mul_right _ hl)
  have sm : ∀ n : Nat, n ≤ 1000000000000000 → inI (n : Int) := fun n hn => by unfold inI; omega
  have c1 : ∀ q, cntL l q ≤ 60 := fun q => Nat.le_trans List.countP_le_length hl
  have c2 : ∀ q, msgL l q ≤ 60 * 1000 := fun q => Nat.le_trans (sumN_le fun y hy => by
    split
    · exact (hg y hy).msgs
    · omega) (Nat.mul_le_mul_right _ hl)
  refine ⟨sm _ (by omega), sm _ (by unfold lvs at b1; omega), sm _ (by omega), sm _ (by unfold rwsN at b3; omega), sm _ (by unfold msgN at b4; omega), sm _ (by unfold bytN at b5; omega), sm _ (by unfold emp at b6; omega), ?_, ?_, ?_, ?_⟩
  · intro x hx
    obtain ⟨q, _, rfl⟩ := List.mem_map.1 hx
    exact sm _ (by have := c1 q; omega)
  · intro x hx
    obtain ⟨q, _, rfl⟩ := List.mem_map.1 hx
    exact sm _ (by have := c2 q; omega)
  · show (rngI H (cntL l)).length ≤ 1000
    rw [rngI_len]; omega
  · show (rngI H (msgL l)).length ≤ 1000
    rw [rngI_len]; omega
end
section
/-
  A gauge as a line, by the document: walked; and that these are one line.
-/
open Go.RowKit
set_option linter.unusedVariables false
set_option linter.unusedSimpArgs false
set_option maxRecDepth 100000
attribute [local go_sem ↓] runOp headOp
/-! ### percolate/percolateref50.Line -/
def r_rLn_0 : Reg := ⟨[], [⟨(.box 9 37 (.t 0)), (some 1), none, [], []⟩, ⟨(.mv (.c (.str ⟨#[]⟩))), (some 2), none, [], []⟩], [1], [], false⟩
def h_rLn_1 : List ROp := [⟨(.faddr 0 (.t 1)), (some 5), none, [7, 12, 17, 22, 27, 32, 37], []⟩, ⟨(.load 1 false (.t 5)), (some 6), none, [7, 12, 17, 22, 27, 32, 37], []⟩, ⟨(.callv (.c (.clo 26 [] [])) [(.t 6)]), (some 7), none, [12, 17, 22, 27, 32, 37], []⟩, ⟨(.bin .add (.c (.str ⟨#[110, 111, 100, 101, 115, 32]⟩)) (.t 7)), (some 8), none, [12, 17, 22, 27, 32, 37], []⟩, ⟨(.bin .add (.t 8) (.c (.str ⟨#[32, 108, 101, 97, 118, 101, 115, 32]⟩))), (some 9), none, [12, 17, 22, 27, 32, 37], []⟩, ⟨(.faddr 1 (.t 1)), (some 10), none, [7, 12, 17, 22, 27, 32, 37], []⟩, ⟨(.load 1 false (.t 10)), (some 11), none, [7, 12, 17, 22, 27, 32, 37], []⟩, ⟨(.callv (.c (.clo 26 [] [])) [(.t 11)]), (some 12), none, [17, 22, 27, 32, 37], []⟩, ⟨(.bin .add (.t 9) (.t 12)), (some 13), none, [17, 22, 27, 32, 37], []⟩, ⟨(.bin .add (.t 13) (.c (.str ⟨#[32, 104, 101, 105, 103, 104, 116, 32]⟩))), (some 14), none, [17, 22, 27, 32, 37], []⟩, ⟨(.faddr 2 (.t 1)), (some 15), none, [7, 12, 17, 22, 27, 32, 37], []⟩, ⟨(.load 1 false (.t 15)), (some 16), none, [7, 12, 17, 22, 27, 32, 37], []⟩, ⟨(.callv (.c (.clo 26 [] [])) [(.t 16)]), (some 17), none, [22, 27, 32, 37], []⟩, ⟨(.bin .add (.t 14) (.t 17)), (some 18), none, [22, 27, 32, 37], []⟩, ⟨(.bin .add (.t 18) (.c (.str ⟨#[32, 114, 111, 119, 115, 32]⟩))), (some 19), none, [22, 27, 32, 37], []⟩, ⟨(.faddr 3 (.t 1)), (some 20), none, [7, 12, 17, 22, 27, 32, 37], []⟩, ⟨(.load 1 false (.t 20)), (some 21), none, [7, 12, 17, 22, 27, 32, 37], []⟩, ⟨(.callv (.c (.clo 26 [] [])) [(.t 21)]), (some 22), none, [27, 32, 37], []⟩, ⟨(.bin .add (.t 19) (.t 22)), (some 23), none, [27, 32, 37], []⟩, ⟨(.bin .add (.t 23) (.c (.str ⟨#[32, 109, 115, 103, 115, 32]⟩))), (some 24), none, [27, 32, 37], []⟩, ⟨(.faddr 4 (.t 1)), (some 25), none, [7, 12, 17, 22, 27, 32, 37], []⟩, ⟨(.load 1 false (.t 25)), (some 26), none, [7, 12, 17, 22, 27, 32, 37], []⟩, ⟨(.callv (.c (.clo 26 [] [])) [(.t 26)]), (some 27), none, [32, 37], []⟩, ⟨(.bin .add (.t 24) (.t 27)), (some 28), none, [32, 37], []⟩, ⟨(.bin .add (.t 28) (.c (.str ⟨#[32, 98, 121, 116, 101, 115, 32]⟩))), (some 29), none, [32, 37], []⟩, ⟨(.faddr 5 (.t 1)), (some 30), none, [7, 12, 17, 22, 27, 32, 37], []⟩, ⟨(.load 1 false (.t 30)), (some 31), none, [7, 12, 17, 22, 27, 32, 37], []⟩, ⟨(.callv (.c (.clo 26 [] [])) [(.t 31)]), (some 32), none, [37], []⟩, ⟨(.bin .add (.t 29) (.t 32)), (some 33), none, [37], []⟩, ⟨(.bin .add (.t 33) (.c (.str ⟨#[32, 101, 109, 112, 116, 121, 32]⟩))), (some 34), none, [37], []⟩, ⟨(.faddr 6 (.t 1)), (some 35), none, [7, 12, 17, 22, 27, 32, 37], []⟩, ⟨(.load 1 false (.t 35)), (some 36), none, [7, 12, 17, 22, 27, 32, 37], []⟩, ⟨(.callv (.c (.clo 26 [] [])) [(.t 36)]), (some 37), none, [], []⟩]
def r_rLn_1 : Reg := ⟨h_rLn_1, [⟨(.bin .add (.t 34) (.t 37)), (some 38), none, [], []⟩, ⟨(.mv (.t 38)), (some 3), none, [], []⟩], [7, 12, 17, 22, 27, 32, 37], [], true⟩
def r_rLn_2 : Reg := ⟨[], [⟨(.mv (.c (.int .i64 0))), (some 4), none, [], []⟩], [], [], false⟩
def t_rLn_3 : List ROp := [⟨(.mv (.t 4)), (some 39), none, [], []⟩, ⟨(.faddr 7 (.t 1)), (some 40), none, [], []⟩, ⟨(.load 1 false (.t 40)), (some 41), none, [], []⟩, ⟨(.len false (.t 41)), (some 42), none, [], []⟩, ⟨(.bin .lss (.t 39) (.t 42)), (some 43), none, [], []⟩]
def r_rLn_3 : Reg := ⟨[], t_rLn_3, [], [], false⟩
def t_rLn_4 : List ROp := [⟨(.mv (.t 3)), (some 46), none, [52], []⟩, ⟨(.faddr 7 (.t 1)), (some 47), none, [52], []⟩, ⟨(.load 1 false (.t 47)), (some 48), none, [52], []⟩, ⟨(.mv (.t 4)), (some 49), none, [52], []⟩, ⟨(.iaddr 1 (.t 48) (.t 49)), (some 50), none, [52], []⟩, ⟨(.load 1 false (.t 50)), (some 51), none, [52], []⟩, ⟨(.callv (.c (.clo 26 [] [])) [(.t 51)]), (some 52), none, [], []⟩, ⟨(.bin .add (.c (.str ⟨#[32, 108, 101, 118, 101, 108, 32]⟩)) (.t 52)), (some 53), none, [], []⟩, ⟨(.bin .add (.t 53) (.c (.str ⟨#[32]⟩))), (some 54), none, [], []⟩, ⟨(.bin .add (.t 46) (.t 54)), (some 55), none, [], []⟩, ⟨(.mv (.t 55)), (some 3), none, [], []⟩]
def r_rLn_4 : Reg := ⟨[], t_rLn_4, [52], [], false⟩
def t_rLn_5 : List ROp := [⟨(.mv (.t 4)), (some 56), none, [], []⟩, ⟨(.faddr 8 (.t 1)), (some 57), none, [], []⟩, ⟨(.load 1 false (.t 57)), (some 58), none, [], []⟩, ⟨(.len false (.t 58)), (some 59), none, [], []⟩, ⟨(.bin .lss (.t 56) (.t 59)), (some 60), none, [], []⟩]
def r_rLn_5 : Reg := ⟨[], t_rLn_5, [], [], false⟩
def t_rLn_6 : List ROp := [⟨(.mv (.t 3)), (some 61), none, [67], []⟩, ⟨(.faddr 8 (.t 1)), (some 62), none, [67], []⟩, ⟨(.load 1 false (.t 62)), (some 63), none, [67], []⟩, ⟨(.mv (.t 4)), (some 64), none, [67], []⟩, ⟨(.iaddr 1 (.t 63) (.t 64)), (some 65), none, [67], []⟩, ⟨(.load 1 false (.t 65)), (some 66), none, [67], []⟩, ⟨(.callv (.c (.clo 26 [] [])) [(.t 66)]), (some 67), none, [], []⟩, ⟨(.bin .add (.t 61) (.t 67)), (some 68), none, [], []⟩, ⟨(.mv (.t 68)), (some 3), none, [], []⟩]
def r_rLn_6 : Reg := ⟨[], t_rLn_6, [67], [], false⟩
def t_rLn_7 : List ROp := [⟨(.mv (.t 3)), (some 69), none, [], []⟩, ⟨(.bin .add (.t 69) (.c (.str ⟨#[48]⟩))), (some 70), none, [], []⟩, ⟨(.mv (.t 70)), (some 3), none, [], []⟩]
def r_rLn_7 : Reg := ⟨[], t_rLn_7, [], [], false⟩
def t_rLn_8 : List ROp := [⟨(.mv (.t 4)), (some 44), none, [], []⟩, ⟨(.bin .add (.t 44) (.c (.int .i64 1))), (some 45), none, [], []⟩, ⟨(.mv (.t 45)), (some 4), none, [], []⟩]
def r_rLn_8 : Reg := ⟨[], t_rLn_8, [], [], false⟩
def r_rLn_l9 : IR := (.seq (.seq (.reg r_rLn_3)
  (.cond (.t 43) .skip
  (.exit 0)))
  (.seq (.block 1 (.seq (.reg r_rLn_4)
  (.seq (.reg r_rLn_5)
  (.cond (.t 60) (.reg r_rLn_6)
  (.reg r_rLn_7)))))
  (.reg r_rLn_8)))
def r_rLn_10 : Reg := ⟨[], [⟨(.mv (.t 3)), (some 71), none, [], []⟩, ⟨(.mv (.t 71)), (some 2), none, [], []⟩], [], [], false⟩
def ir_rLn : IR := (.seq (.reg r_rLn_0)
  (.seq (.reg r_rLn_1)
  (.seq (.seq (.reg r_rLn_2)
  (.block 0 (.loop r_rLn_l9)))
  (.seq (.reg r_rLn_10)
  .ret))))
def res_rLn : List RDesc := [(.tmp 2)]
theorem e_rLn_0 (C : FuncId → List AV → AV → Prop) (σ : St) (K : St → Prop) : runReg C r_rLn_0 σ K = runOps C [⟨(.box 9 37 (.t 0)), (some 1), none, [], []⟩, ⟨(.mv (.c (.str ⟨#[]⟩))), (some 2), none, [], []⟩] (σ.kills [1]) K := rfl
theorem e_rLn_1 (C : FuncId → List AV → AV → Prop) (σ : St) (K : St → Prop) : runReg C r_rLn_1 σ K = runHead C [] [⟨(.bin .add (.t 34) (.t 37)), (some 38), none, [], []⟩, ⟨(.mv (.t 38)), (some 3), none, [], []⟩] h_rLn_1 (σ.kills [7, 12, 17, 22, 27, 32, 37]) K := rfl
theorem e_rLn_2 (C : FuncId → List AV → AV → Prop) (σ : St) (K : St → Prop) : runReg C r_rLn_2 σ K = runOps C [⟨(.mv (.c (.int .i64 0))), (some 4), none, [], []⟩] (σ.kills []) K := rfl
theorem e_rLn_3 (C : FuncId → List AV → AV → Prop) (σ : St) (K : St → Prop) : runReg C r_rLn_3 σ K = runOps C t_rLn_3 (σ.kills []) K := rfl
theorem e_rLn_4 (C : FuncId → List AV → AV → Prop) (σ : St) (K : St → Prop) : runReg C r_rLn_4 σ K = runOps C t_rLn_4 (σ.kills [52]) K := rfl
theorem e_rLn_5 (C : FuncId → List AV → AV → Prop) (σ : St) (K : St → Prop) : runReg C r_rLn_5 σ K = runOps C t_rLn_5 (σ.kills []) K := rfl
theorem e_rLn_6 (C : FuncId → List AV → AV → Prop) (σ : St) (K : St → Prop) : runReg C r_rLn_6 σ K = runOps C t_rLn_6 (σ.kills [67]) K := rfl
theorem e_rLn_7 (C : FuncId → List AV → AV → Prop) (σ : St) (K : St → Prop) : runReg C r_rLn_7 σ K = runOps C t_rLn_7 (σ.kills []) K := rfl
theorem e_rLn_8 (C : FuncId → List AV → AV → Prop) (σ : St) (K : St → Prop) : runReg C r_rLn_8 σ K = runOps C t_rLn_8 (σ.kills []) K := rfl
theorem e_rLn_10 (C : FuncId → List AV → AV → Prop) (σ : St) (K : St → Prop) : runReg C r_rLn_10 σ K = runOps C [⟨(.mv (.t 3)), (some 71), none, [], []⟩, ⟨(.mv (.t 71)), (some 2), none, [], []⟩] (σ.kills []) K := rfl
theorem fn_rLn {args : List AV} {r : AV} (ha : args.length.ble Tryd.f14.ntmps = true) (h : run (AFn Tryd.prog) ir_rLn (endQ res_rLn r) (initSt args)) : AFn Tryd.prog 14 args r :=
  AFn.of_code (pv := false) (hint := fun _ => []) (c := Tryd.f14.body.getD .skip) (by kernel_rfl) (by kernel_rfl) Tryd.func14 (by kernel_rfl) (by kernel_rfl) (by kernel_rfl) (of_decide_eq_true (by kernel_rfl)) (Nat.le_of_ble_eq_true ha) (Nat.le_of_ble_eq_true (by kernel_rfl)) (run_ok h)
attribute [local go_sem ↓] ir_rLn
attribute [local go_sem] res_rLn e_rLn_0 e_rLn_1 h_rLn_1 e_rLn_2 e_rLn_3 t_rLn_3 e_rLn_4 t_rLn_4 e_rLn_5 t_rLn_5 e_rLn_6 t_rLn_6 e_rLn_7 t_rLn_7 e_rLn_8 t_rLn_8 e_rLn_10
def q_nodes : ByteArray := ⟨#[110, 111, 100, 101, 115, 32]⟩
def q_leaves : ByteArray := ⟨#[32, 108, 101, 97, 118, 101, 115, 32]⟩
def q_height : ByteArray := ⟨#[32, 104, 101, 105, 103, 104, 116, 32]⟩
def q_rows : ByteArray := ⟨#[32, 114, 111, 119, 115, 32]⟩
def q_msgs : ByteArray := ⟨#[32, 109, 115, 103, 115, 32]⟩
def q_bytes : ByteArray := ⟨#[32, 98, 121, 116, 101, 115, 32]⟩
def q_empty : ByteArray := ⟨#[32, 101, 109, 112, 116, 121, 32]⟩
def q_level : ByteArray := ⟨#[32, 108, 101, 118, 101, 108, 32]⟩
def q_sp : ByteArray := ⟨#[32]⟩
def headQ (g : Gau) : ByteArray := q_nodes ++ decS g.nodes ++ q_leaves ++ decS g.leaves ++ q_height ++ decS g.height ++ q_rows ++ decS g.rows ++ q_msgs ++ decS g.msgs ++ q_bytes ++ decS g.bytes ++ q_empty ++ decS g.empty
def lvlQ (ws : List Int) : Nat → List Int → ByteArray → ByteArray
  | _, [], s => s
  | i, n :: r, s => lvlQ ws (i + 1) r (s ++ (q_level ++ decS n ++ q_sp) ++ decS (waitN ws i))
def lineQ (g : Gau) : ByteArray := lvlQ g.waits 0 g.levels (headQ g)
theorem lvlQ_list (ws : List Int) : ∀ (i : Nat) (l : List Int) (s : ByteArray), (lvlQ ws i l s).data.toList = s.data.toList ++ ((lvls ws i l).map fun x => 32 :: x.data.toList).flatten
  | _, [], s => by simp [lvlQ, lvls]
  | i, n :: r, s => by
    rw [lvlQ, lvls, lvlQ_list ws (i + 1) r]
    simp [ByteArray.data_append, q_level, q_sp, w_level]
theorem joinT (l : List (List UInt8)) : Lib.joinTail [32] l = (l.map fun x => 32 :: x).flatten := by
  induction l with
  | nil => rfl
  | cons y r ih =>
    show ([32] ++ y) ++ Lib.joinTail [32] r = _
    rw [ih]; simp
/-- they are one line -/
theorem line_same (g : Gau) : lineQ g = joinB (lineW g) ⟨#[32]⟩ := by
  apply ba_ext
  unfold lineQ
  rw [lvlQ_list]
  have e : (joinB (lineW g) ⟨#[32]⟩).data.toList = Lib.join ((lineW g).map (·.data.toList)) [32] := rfl
  rw [e]
  have e2 : (lineW g).map (·.data.toList) = w_nodes.data.toList :: ((lineW g).drop 1).map (·.data.toList) := rfl
  rw [e2, Lib.join_cons, joinT]
  have e3 : (lineW g).drop 1 = [decS g.nodes, w_leaves, decS g.leaves, w_height, decS g.height, w_rows, decS g.rows, w_msgs, decS g.msgs, w_bytes, decS g.bytes, w_empty, decS g.empty] ++ lvls g.waits 0 g.levels := rfl
  rw [e3]
  simp [headQ, ByteArray.data_append, q_nodes, q_leaves, q_height, q_rows, q_msgs, q_bytes, q_empty, w_nodes, w_leaves, w_height, w_rows, w_msgs, w_bytes, w_empty, Function.comp_def]
def rlI (g : Gau) (R : ByteArray) (k : Nat) (σ : St) : Prop :=
  ∃ (i : Nat) (s : ByteArray), i ≤ g.levels.length ∧ k = g.levels.length - i ∧ s.size ≤ 100000 + 10000 * i ∧ lvlQ g.waits i (g.levels.drop i) s = R ∧ σ.T 1 = .ptr 1 0 0 ∧ σ.H 1 = some ⟨9, 37, [.agg (gauC g)], 0⟩ ∧ σ.T 3 = .str s ∧ σ.T 4 = .int .i64 i
set_option maxHeartbeats 16000000 in
theorem rLn_ok (g : Gau) (hf : g.fits) : AFn Tryd.prog 14 [g.a] (.str (joinB (lineW g) ⟨#[32]⟩)) := by
  refine fn_rLn rfl ?_
  rw [← line_same]
  have hll := hf.ll
  have d1 := rDec_ok _ hf.nodes
  have d2 := rDec_ok _ hf.leaves
  have d3 := rDec_ok _ hf.height
  have d4 := rDec_ok _ hf.rows
  have d5 := rDec_ok _ hf.msgs
  have d6 := rDec_ok _ hf.bytes
  have d7 := rDec_ok _ hf.empty
  have s1 := decS_few hf.nodes
  have s2 := decS_few hf.leaves
  have s3 := decS_few hf.height
  have s4 := decS_few hf.rows
  have s5 := decS_few hf.msgs
  have s6 := decS_few hf.bytes
  have s7 := decS_few hf.empty
  obtain ⟨R, hR⟩ : ∃ R, lineQ g = R := ⟨_, rfl⟩
  rw [hR]
  have hsz : (headQ g).size ≤ 100000 := by
    unfold headQ
    simp only [ByteArray.size_append]
    have : q_nodes.size = 6 ∧ q_leaves.size = 8 ∧ q_height.size = 8 ∧ q_rows.size = 6 ∧ q_msgs.size = 6 ∧ q_bytes.size = 7 ∧ q_empty.size = 7 := ⟨rfl, rfl, rfl, rfl, rfl, rfl, rfl⟩
    omega
  unfold lineQ at hR
  have eg : g.a = .agg (gauC g) := rfl
  rw [eg]
  generalize hH : headQ g = hd at *
  unfold headQ at hH
  unfold gauC
  (repeat (first | simp (maxSteps := 4000000) only [go_sem, ↓reduceIte, reduceCtorEq, Nat.reduceEqDiff, Nat.reduceBEq, Nat.reduceAdd, Nat.reduceSub, Nat.reduceMul, Nat.reduceLT, Nat.reduceLeDiff, Nat.reduceBNe, Int.reduceBEq, Int.reduceBNe, Int.reduceLT, Int.reduceLE, ByteArray.size_append, List.size_toArray, List.length_cons, List.length_nil, Nat.reduceAdd] | refine calling (d1) ?_ | refine callingH (d1) ?_ | refine calling (d2) ?_ | refine callingH (d2) ?_ | refine calling (d3) ?_ | refine callingH (d3) ?_ | refine calling (d4) ?_ | refine callingH (d4) ?_ | refine calling (d5) ?_ | refine callingH (d5) ?_ | refine calling (d6) ?_ | refine callingH (d6) ?_ | refine calling (d7) ?_ | refine callingH (d7) ?_ | refine And.intro (by omega) ?_ | refine And.intro (fun d hd => by (repeat (rcases hd with rfl | hd; · exact ⟨rfl, rfl⟩)); cases hd) ?_))
  refine run_loop (rlI g R) (k := g.levels.length) ⟨0, hd, Nat.zero_le _, rfl, by omega, hR, ?_, ?_, ?_, ?_⟩ ?_
  · simp (maxSteps := 4000000) only [go_sem, ↓reduceIte, reduceCtorEq, Nat.reduceEqDiff, Nat.reduceBEq, Nat.reduceAdd, Nat.reduceSub, Nat.reduceMul, Nat.reduceLT, Nat.reduceLeDiff, Nat.reduceBNe, Int.reduceBEq, Int.reduceBNe, Int.reduceLT, Int.reduceLE]
  · (simp (maxSteps := 4000000) only [go_sem, ↓reduceIte, reduceCtorEq, Nat.reduceEqDiff, Nat.reduceBEq, Nat.reduceAdd, Nat.reduceSub, Nat.reduceMul, Nat.reduceLT, Nat.reduceLeDiff, Nat.reduceBNe, Int.reduceBEq, Int.reduceBNe, Int.reduceLT, Int.reduceLE]) <;> rfl
  · simp (maxSteps := 4000000) only [go_sem, ↓reduceIte, reduceCtorEq, Nat.reduceEqDiff, Nat.reduceBEq, Nat.reduceAdd, Nat.reduceSub, Nat.reduceMul, Nat.reduceLT, Nat.reduceLeDiff, Nat.reduceBNe, Int.reduceBEq, Int.reduceBNe, Int.reduceLT, Int.reduceLE]
    rw [← hH]; rfl
  · (simp (maxSteps := 4000000) only [go_sem, ↓reduceIte, reduceCtorEq, Nat.reduceEqDiff, Nat.reduceBEq, Nat.reduceAdd, Nat.reduceSub, Nat.reduceMul, Nat.reduceLT, Nat.reduceLeDiff, Nat.reduceBNe, Int.reduceBEq, Int.reduceBNe, Int.reduceLT, Int.reduceLE]) <;> rfl
  clear d1 d2 d3 d4 d5 d6 d7 s1 s2 s3 s4 s5 s6 s7 hsz hR hH eg
  rintro k σ ⟨i, s, hi, rfl, hs, hR, t1, h1, t3, t4⟩
  simp only [r_rLn_l9]
  have h1' := h1
  unfold gauC at h1'
  by_cases hlt : i < g.levels.length
  case neg =>
    have hlt' : ¬ (i : Int) < (g.levels.length : Int) := by omega
    have e : g.levels.drop i = [] := List.drop_eq_nil_of_le (by omega)
    rw [e, lvlQ] at hR
    subst hR
    simp (maxSteps := 4000000) only [go_sem, ↓reduceIte, reduceCtorEq, Nat.reduceEqDiff, Nat.reduceBEq, Nat.reduceAdd, Nat.reduceSub, Nat.reduceMul, Nat.reduceLT, Nat.reduceLeDiff, Nat.reduceBNe, Int.reduceBEq, Int.reduceBNe, Int.reduceLT, Int.reduceLE, t1, h1', t3, t4, hlt', List.length_map]
  have hlt' : (i : Int) < (g.levels.length : Int) := by omega
  obtain ⟨x, hx⟩ := get_lt hlt
  have hgx := at_map (f := AV.int .i64) hx
  have dk : g.levels.drop i = x :: g.levels.drop (i + 1) := by rw [List.drop_eq_getElem_cons hlt, (List.getElem?_eq_some_iff.1 hx).2]
  rw [dk, lvlQ] at hR
  unfold q_level q_sp at hR
  have hw := wrapS (j := i) (by omega)
  have cx := rDec_ok x (hf.levels x (List.mem_of_getElem? hx))
  have sx := decS_few (hf.levels x (List.mem_of_getElem? hx))
  have cw := rDec_ok _ (waitN_in hf.waits i)
  have sw := decS_few (waitN_in hf.waits i)
  have fin : ∀ (σ' : St) (s' : ByteArray), s' = s ++ (⟨#[32, 108, 101, 118, 101, 108, 32]⟩ ++ decS x ++ ⟨#[32]⟩) ++ decS (waitN g.waits i) → σ'.T 1 = .ptr 1 0 0 → σ'.H 1 = some ⟨9, 37, [.agg (gauC g)], 0⟩ → σ'.T 3 = .str s' → σ'.T 4 = .int .i64 ((i + 1 : Nat) : Int) → ∃ m, m < g.levels.length - i ∧ rlI g R m σ' := fun σ' s' e a1 a2 a3 a4 =>
    ⟨g.levels.length - (i + 1), by omega, i + 1, s', by omega, rfl, by
      rw [e]
      have z1 : (⟨#[32, 108, 101, 118, 101, 108, 32]⟩ : ByteArray).size = 7 := rfl
      have z2 : (⟨#[32]⟩ : ByteArray).size = 1 := rfl
      simp only [ByteArray.size_append, z1, z2]
      omega, by rw [e]; exact hR, a1, a2, a3, a4⟩
  by_cases hwt : i < g.waits.length
  · have hwt' : (i : Int) < (g.waits.length : Int) := by omega
    obtain ⟨y, hy⟩ := get_lt hwt
    have hgy := at_map (f := AV.int .i64) hy
    have ew : waitN g.waits i = y := by unfold waitN; rw [hy]; rfl
    rw [ew] at cw fin sw
    (repeat (first | simp (maxSteps := 4000000) only [go_sem, ↓reduceIte, reduceCtorEq, Nat.reduceEqDiff, Nat.reduceBEq, Nat.reduceAdd, Nat.reduceSub, Nat.reduceMul, Nat.reduceLT, Nat.reduceLeDiff, Nat.reduceBNe, Int.reduceBEq, Int.reduceBNe, Int.reduceLT, Int.reduceLE, t1, h1', t3, t4, hlt', hlt, hgx, hwt', hwt, hgy, hw, ByteArray.size_append, List.size_toArray, List.length_cons, List.length_nil, Nat.reduceAdd, List.length_map, Int.toNat_natCast] | refine calling (cx) ?_ | refine callingH (cx) ?_ | refine calling (cw) ?_ | refine callingH (cw) ?_ | refine And.intro (by omega) ?_ | refine And.intro (fun d hd => by (repeat (rcases hd with rfl | hd; · exact ⟨rfl, rfl⟩)); cases hd) ?_))
    refine fin _ _ rfl ?_ ?_ ?_ ?_
    · simp (maxSteps := 4000000) only [go_sem, ↓reduceIte, reduceCtorEq, Nat.reduceEqDiff, Nat.reduceBEq, Nat.reduceAdd, Nat.reduceSub, Nat.reduceMul, Nat.reduceLT, Nat.reduceLeDiff, Nat.reduceBNe, Int.reduceBEq, Int.reduceBNe, Int.reduceLT, Int.reduceLE, t1]
    · (simp (maxSteps := 4000000) only [go_sem, ↓reduceIte, reduceCtorEq, Nat.reduceEqDiff, Nat.reduceBEq, Nat.reduceAdd, Nat.reduceSub, Nat.reduceMul, Nat.reduceLT, Nat.reduceLeDiff, Nat.reduceBNe, Int.reduceBEq, Int.reduceBNe, Int.reduceLT, Int.reduceLE, h1]) <;> rfl
    · simp (maxSteps := 4000000) only [go_sem, ↓reduceIte, reduceCtorEq, Nat.reduceEqDiff, Nat.reduceBEq, Nat.reduceAdd, Nat.reduceSub, Nat.reduceMul, Nat.reduceLT, Nat.reduceLeDiff, Nat.reduceBNe, Int.reduceBEq, Int.reduceBNe, Int.reduceLT, Int.reduceLE]
    · simp (maxSteps := 4000000) only [go_sem, ↓reduceIte, reduceCtorEq, Nat.reduceEqDiff, Nat.reduceBEq, Nat.reduceAdd, Nat.reduceSub, Nat.reduceMul, Nat.reduceLT, Nat.reduceLeDiff, Nat.reduceBNe, Int.reduceBEq, Int.reduceBNe, Int.reduceLT, Int.reduceLE]
  · have hwt' : ¬ (i : Int) < (g.waits.length : Int) := by omega
    have ew : waitN g.waits i = 0 := by unfold waitN; rw [List.getElem?_eq_none (by omega)]; rfl
    have ez : decS 0 = ⟨#[48]⟩ := by decide +kernel
    rw [ew, ez] at fin
    (repeat (first | simp (maxSteps := 4000000) only [go_sem, ↓reduceIte, reduceCtorEq, Nat.reduceEqDiff, Nat.reduceBEq, Nat.reduceAdd, Nat.reduceSub, Nat.reduceMul, Nat.reduceLT, Nat.reduceLeDiff, Nat.reduceBNe, Int.reduceBEq, Int.reduceBNe, Int.reduceLT, Int.reduceLE, t1, h1', t3, t4, hlt', hlt, hgx, hwt', hw, ByteArray.size_append, List.size_toArray, List.length_cons, List.length_nil, Nat.reduceAdd, List.length_map, Int.toNat_natCast] | refine calling (cx) ?_ | refine callingH (cx) ?_ | refine And.intro (by omega) ?_ | refine And.intro (fun d hd => by (repeat (rcases hd with rfl | hd; · exact ⟨rfl, rfl⟩)); cases hd) ?_))
    refine fin _ _ rfl ?_ ?_ ?_ ?_
    · simp (maxSteps := 4000000) only [go_sem, ↓reduceIte, reduceCtorEq, Nat.reduceEqDiff, Nat.reduceBEq, Nat.reduceAdd, Nat.reduceSub, Nat.reduceMul, Nat.reduceLT, Nat.reduceLeDiff, Nat.reduceBNe, Int.reduceBEq, Int.reduceBNe, Int.reduceLT, Int.reduceLE, t1]
    · (simp (maxSteps := 4000000) only [go_sem, ↓reduceIte, reduceCtorEq, Nat.reduceEqDiff, Nat.reduceBEq, Nat.reduceAdd, Nat.reduceSub, Nat.reduceMul, Nat.reduceLT, Nat.reduceLeDiff, Nat.reduceBNe, Int.reduceBEq, Int.reduceBNe, Int.reduceLT, Int.reduceLE, h1]) <;> rfl
    · simp (maxSteps := 4000000) only [go_sem, ↓reduceIte, reduceCtorEq, Nat.reduceEqDiff, Nat.reduceBEq, Nat.reduceAdd, Nat.reduceSub, Nat.reduceMul, Nat.reduceLT, Nat.reduceLeDiff, Nat.reduceBNe, Int.reduceBEq, Int.reduceBNe, Int.reduceLT, Int.reduceLE]
    · simp (maxSteps := 4000000) only [go_sem, ↓reduceIte, reduceCtorEq, Nat.reduceEqDiff, Nat.reduceBEq, Nat.reduceAdd, Nat.reduceSub, Nat.reduceMul, Nat.reduceLT, Nat.reduceLeDiff, Nat.reduceBNe, Int.reduceBEq, Int.reduceBNe, Int.reduceLT, Int.reduceLE]
end
section
/-
  The laws of the gauges' lines and of the gauges of trees: walked.
-/
open Go.RowKit
set_option linter.unusedVariables false
set_option linter.unusedSimpArgs false
set_option maxRecDepth 100000
attribute [local go_sem ↓] runOp headOp
/-! ### percolate/percolatelaw50.GaugeLines -/
/-! ### percolate/percolatelaw50.GaugeOf -/
def r_gGO_0 : Reg := ⟨[], [⟨(.mv (.c (.bool false))), (some 2), none, [], []⟩], [], [], false⟩
def t_gGO_1 : List ROp := [⟨(.mv (.t 0)), (some 4), none, [5], []⟩, ⟨(.callv (.c (.clo 6 [] [])) [(.t 4), (.c (.int .i64 60)), (.c (.int .i64 1000))]), (some 5), none, [], []⟩, ⟨(.un .not (.t 5)), (some 6), none, [], []⟩]
def r_gGO_1 : Reg := ⟨[], t_gGO_1, [5], [], false⟩
def r_gGO_2 : Reg := ⟨[], [⟨(.callv (.c (.clo 7 [] [])) []), (some 7), none, [], []⟩, ⟨(.mv (.t 7)), (some 2), none, [], []⟩], [7], [], false⟩
def t_gGO_3 : List ROp := [⟨(.mv (.t 0)), (some 8), none, [9, 3], []⟩, ⟨(.callv (.c (.clo 10 [] [])) [(.t 8)]), (some 9), none, [3], []⟩, ⟨(.alloc 9 37 (.agg [(.int .i64 0), (.int .i64 0), (.int .i64 0), (.int .i64 0), (.int .i64 0), (.int .i64 0), (.int .i64 0), (.sl []), (.sl [])])), (some 3), none, [], []⟩, ⟨(.store 9 (.t 3) (.t 9)), none, none, [], []⟩]
def r_gGO_3 : Reg := ⟨[], t_gGO_3, [9, 3], [], false⟩
def t_gGO_4 : List ROp := [⟨(.callv (.c (.clo 15 [] [])) [(.t 22), (.t 24)]), (some 25), (some (21, true)), [28], []⟩, ⟨(.pick (.t 21) (.t 25) (.c (.bool false))), (some 26), none, [28], []⟩, ⟨(.mv (.t 26)), (some 27), none, [28], []⟩, ⟨(.callv (.c (.clo 7 [] [])) []), (some 28), (some (27, true)), [], []⟩, ⟨(.pick (.t 27) (.t 28) (.c (.bool false))), (some 29), none, [], []⟩, ⟨(.mv (.t 29)), (some 2), none, [], []⟩]
def h_gGO_4 : List ROp := [⟨(.load 9 true (.t 3)), (some 10), none, [12, 13, 16, 18, 24, 25, 28], []⟩, ⟨(.mv (.t 0)), (some 11), none, [12, 13, 16, 18, 24, 25, 28], []⟩, ⟨(.callv (.c (.clo 12 [] [])) [(.t 11)]), (some 12), none, [13, 16, 18, 24, 25, 28], []⟩, ⟨(.callv (.c (.clo 11 [] [])) [(.t 10), (.t 12)]), (some 13), none, [16, 18, 24, 25, 28], []⟩, ⟨(.mv (.t 13)), (some 14), none, [16, 18, 24, 25, 28], []⟩, ⟨(.load 9 true (.t 3)), (some 15), (some (14, true)), [16, 18, 24, 25, 28], []⟩, ⟨(.callv (.c (.clo 13 [] [])) [(.t 15)]), (some 16), (some (14, true)), [18, 24, 25, 28], []⟩, ⟨(.load 9 true (.t 3)), (some 17), (some (14, true)), [16, 18, 24, 25, 28], []⟩, ⟨(.callv (.c (.clo 14 [] [])) [(.t 17)]), (some 18), (some (14, true)), [24, 25, 28], []⟩, ⟨(.bin .eql (.t 16) (.t 18)), (some 19), (some (14, true)), [24, 25, 28], []⟩, ⟨(.pick (.t 14) (.t 19) (.c (.bool false))), (some 20), none, [24, 25, 28], []⟩, ⟨(.mv (.t 20)), (some 21), none, [24, 25, 28], []⟩, ⟨(.load 9 true (.t 3)), (some 22), (some (21, true)), [24, 25, 28], []⟩, ⟨(.mv (.t 0)), (some 23), (some (21, true)), [24, 25, 28], []⟩, ⟨(.callv (.c (.clo 12 [] [])) [(.t 23)]), (some 24), (some (21, true)), [25, 28], []⟩]
def r_gGO_4 : Reg := ⟨h_gGO_4, t_gGO_4, [12, 13, 16, 18, 24, 25, 28], [], true⟩
def ir_gGO : IR := (.seq (.reg r_gGO_0)
  (.seq (.seq (.reg r_gGO_1)
  (.cond (.t 6) (.seq (.reg r_gGO_2)
  .ret)
  .skip))
  (.seq (.reg r_gGO_3)
  (.seq (.reg r_gGO_4)
  .ret))))
def res_gGO : List RDesc := [(.tmp 2)]
theorem e_gGO_0 (C : FuncId → List AV → AV → Prop) (σ : St) (K : St → Prop) : runReg C r_gGO_0 σ K = runOps C [⟨(.mv (.c (.bool false))), (some 2), none, [], []⟩] (σ.kills []) K := rfl
theorem e_gGO_1 (C : FuncId → List AV → AV → Prop) (σ : St) (K : St → Prop) : runReg C r_gGO_1 σ K = runOps C t_gGO_1 (σ.kills [5]) K := rfl
theorem e_gGO_2 (C : FuncId → List AV → AV → Prop) (σ : St) (K : St → Prop) : runReg C r_gGO_2 σ K = runOps C [⟨(.callv (.c (.clo 7 [] [])) []), (some 7), none, [], []⟩, ⟨(.mv (.t 7)), (some 2), none, [], []⟩] (σ.kills [7]) K := rfl
theorem e_gGO_3 (C : FuncId → List AV → AV → Prop) (σ : St) (K : St → Prop) : runReg C r_gGO_3 σ K = runOps C t_gGO_3 (σ.kills [9, 3]) K := rfl
theorem e_gGO_4 (C : FuncId → List AV → AV → Prop) (σ : St) (K : St → Prop) : runReg C r_gGO_4 σ K = runHead C [] t_gGO_4 h_gGO_4 (σ.kills [12, 13, 16, 18, 24, 25, 28]) K := rfl
theorem fn_gGO {args : List AV} {r : AV} (ha : args.length.ble Tryd.f4.ntmps = true) (h : run (AFn Tryd.prog) ir_gGO (endQ res_gGO r) (initSt args)) : AFn Tryd.prog 4 args r :=
  AFn.of_code (pv := false) (hint := fun _ => []) (c := Tryd.f4.body.getD .skip) (by kernel_rfl) (by kernel_rfl) Tryd.func4 (by kernel_rfl) (by kernel_rfl) (by kernel_rfl) (of_decide_eq_true (by kernel_rfl)) (Nat.le_of_ble_eq_true ha) (Nat.le_of_ble_eq_true (by kernel_rfl)) (run_ok h)
attribute [local go_sem ↓] ir_gGO
attribute [local go_sem] res_gGO e_gGO_0 e_gGO_1 t_gGO_1 e_gGO_2 e_gGO_3 t_gGO_3 e_gGO_4 t_gGO_4 h_gGO_4
theorem gd_of {x : Nd} (h : x.light 1000 = true) : x.Gd := by
  unfold Nd.light at h
  simp only [Bool.and_eq_true, decide_eq_true_eq] at h
  obtain ⟨⟨⟨⟨h1, h2⟩, h3⟩, h4⟩, h5⟩ := h
  have m1 := sumN_len (f := Par.bulk) (fun p => by unfold Par.bulk; omega) x.rows
  have m2 := sumN_len (f := Msg.bulkN) (fun p => by unfold Msg.bulkN; omega) x.msgs
  refine ⟨by omega, by omega, by omega, fun m hm => ?_⟩
  have h6 := sumN_mem (f := Msg.bulkN) hm
  unfold Msg.bulkN at h4 h6
  omega
set_option maxHeartbeats 8000000 in
theorem of50_law (l : List Nd) (hs : ∀ x, x ∈ l → x.ok) (hl : l.length ≤ 281474976710656) : AFn Tryd.prog 4 [.sl (l.map Nd.a)] (.bool true) := by
  refine fn_gGO rfl ?_
  have aw := awk50_ok
  have cL := light_ok l 60 1000 (by decide) (by decide) hs hl
  cases hL : lightB l 60 1000 with
  | false =>
    rw [hL] at cL
    (repeat (first | simp (maxSteps := 4000000) only [go_sem, ↓reduceIte, reduceCtorEq, Nat.reduceEqDiff, Nat.reduceBEq, Nat.reduceAdd, Nat.reduceSub, Nat.reduceMul, Nat.reduceLT, Nat.reduceLeDiff, Nat.reduceBNe, Int.reduceBEq, Int.reduceBNe, Int.reduceLT, Int.reduceLE, evG, evP, Nat.reduceMod, Nat.reduceDiv, Nat.reduceSub, Nat.reduceLeDiff, Nat.reduceMul, Nat.reduceAdd, Msg.a, Par.a] | refine calling (cL) ?_ | refine callingH (cL) ?_ | refine calling (aw) ?_ | refine callingH (aw) ?_ | refine And.intro (by omega) ?_ | refine And.intro (fun d hd => by (repeat (rcases hd with rfl | hd; · exact ⟨rfl, rfl⟩)); cases hd) ?_))
  | true =>
    rw [hL] at cL
    unfold lightB at hL
    rw [Bool.and_eq_true, decide_eq_true_eq, List.all_eq_true] at hL
    obtain ⟨hl60, hall⟩ := hL
    have hl60 : l.length ≤ 60 := by omega
    have hg : ∀ x, x ∈ l → x.Gd := fun x hx => gd_of (hall x hx)
    have c1 := gOf_ok l hl60 hg
    have c2 := rOf50_ok l hl60 hg
    have hf := ofG_fits l hl60 hg
    have lv := hf.ll
    have lw := hf.lw
    generalize ofG (hiG 0 l) l.length l = g at *
    have c3 := gLn_ok g hf
    have c4 := rLn_ok g hf
    have c5 := gSm_ok g g (by omega) (by omega) (by omega) (by omega)
    have c6 := r50S_ok g g (by omega) (by omega) (by omega) (by omega)
    rw [gauB_self] at c5 c6
    generalize joinB (lineW g) ⟨#[32]⟩ = L at *
    simp only [Gau.a] at c1 c2 c3 c4 c5 c6
    (repeat (first | simp (maxSteps := 4000000) only [go_sem, ↓reduceIte, reduceCtorEq, Nat.reduceEqDiff, Nat.reduceBEq, Nat.reduceAdd, Nat.reduceSub, Nat.reduceMul, Nat.reduceLT, Nat.reduceLeDiff, Nat.reduceBNe, Int.reduceBEq, Int.reduceBNe, Int.reduceLT, Int.reduceLE, evG, evP, Nat.reduceMod, Nat.reduceDiv, Nat.reduceSub, Nat.reduceLeDiff, Nat.reduceMul, Nat.reduceAdd, Msg.a, Par.a, Gau.a, List.length_map, beq_self_eq_true] | refine calling (cL) ?_ | refine callingH (cL) ?_ | refine calling (c1) ?_ | refine callingH (c1) ?_ | refine calling (c2) ?_ | refine callingH (c2) ?_ | refine calling (c3) ?_ | refine callingH (c3) ?_ | refine calling (c4) ?_ | refine callingH (c4) ?_ | refine calling (c5) ?_ | refine callingH (c5) ?_ | refine calling (c6) ?_ | refine callingH (c6) ?_ | refine calling (aw) ?_ | refine callingH (aw) ?_ | refine And.intro (by omega) ?_ | refine And.intro (fun d hd => by (repeat (rcases hd with rfl | hd; · exact ⟨rfl, rfl⟩)); cases hd) ?_))
end
section
/-
  The three laws of the gauges, at what came in.
-/
open Go.RowKit
set_option linter.unusedVariables false
set_option linter.unusedSimpArgs false
set_option maxRecDepth 100000
theorem reads_one {w : World} {T : Ty} {v : Value} {ds : List AV} (h : ReadsAs w T [v] ds) : ∃ d, ds = [d] ∧ VR (fun b _ => b < w.heap.size) w d v := by
  obtain ⟨h1, h2, h3⟩ := h
  match ds, h2 with
  | [d], _ => exact ⟨d, rfl, h3 0 d v rfl rfl⟩
theorem of50_walk (v0 : Value) (w : World) (hG : Glob w) (f0 : ∃ ds, ReadsAs w (.sl NdT) [v0] ds) :
    Calls Tryd.prog 4 #[v0] w fun e w' => e = .returned (.bool true) ∧ Below w.heap.size w w' := by
  obtain ⟨d1, r1⟩ := f0
  obtain ⟨d, rfl, u1⟩ := reads_one r1
  obtain ⟨l, hd, hl, hok⟩ := sl_of Nd.a Nd.ok r1.1 (fun c h => Nd.of h)
  cases hd
  refine run_args (vs := [v0]) hG rfl (fun j d u hj hu => ?_) (of50_law l hok hl)
  match j with
  | 0 => cases hj; cases hu; exact u1
  | j + 1 => simp at hj
end
section
/-
  'Rows.GaugeOfSaid' is proved: the law percolatelaw50.GaugeOf returns true at every input, and its arguments read as they did. No condition.
-/
namespace gaugeOf
open Go.ChangeShapes Go.WideShapes Go.ChangeAt Go.RowKit
open Go.ChangeMaps (open_string shut_string)
set_option linter.unusedVariables false
set_option maxRecDepth 100000 in
theorem lifted (os : Os) (started : os.Started) (H : Type) (enc : TypeId × Value → H) :
    ReturnsInHanded {} Tryd.checked os 4 .any (fun w args => (Rows.gaugeOfSpec.pre enc Tryd.prog Tryd.f4 [] false w args ∧ laidMetH Tryd.prog Rows.gaugeOfRow.laid w) ∧ sizedMet enc Tryd.prog Tryd.f4 (OpenSpec.ofChange Rows.gaugeOfSpec) false w args) (Rows.gaugeOfSpec.post enc Tryd.prog Tryd.f4 false true false false) := by
  refine returnsInHanded_of_row (C := Tryd.checked) (s := OpenSpec.ofChange Rows.gaugeOfSpec) (F := fun _ _ _ => 0) ownK started (by kernel_rfl) Tryd.func4
    (ChangeSpec.witness_shaped (enc := enc) (C := Tryd.checked) (os := os) (X := fun w _ => laidMetH Tryd.prog Rows.gaugeOfRow.laid w) false (World.laidAll Tryd.prog os Rows.gaugeOfRow.laid) #[.slice none 0 0] 8 (World.laidAll_os _ _ _)
      (World.shaped_of_ZipB (by kernel_rfl) (by kernel_rfl)) (by kernel_rfl) (by kernel_rfl) (by kernel_rfl)
      (by rw [MakeChecks.laidMetH_plain _ _ _ (by kernel_rfl)]; exact laidMet_laidAll _ (by kernel_rfl) (by kernel_rfl))) ?_
  intro W base args ds gs before hval0 hW hcnd hk hsz hL hsh _
  have hval : ∀ (j : Nat) t v, Tryd.f4.params[j]? = some t → args[j]? = some v → Value.okWide Tryd.prog W .any base t v := hval0
  have hW' := hW
  obtain ⟨p, q, hA0, hV, rfl, hfz, hnd⟩ := hW
  have hA : DataW.TrodAll enc Tryd.prog W 0 (fun _ => true) true Tryd.f4.params.toList args.toList ds p := hA0
  rw [Tryd.params4] at hA hval
  obtain ⟨v0, vs0, d0, ds0, p0, q0, hargs, rfl, rfl, h0, r0⟩ := trodAll_cons hA
  obtain ⟨rfl, rfl, rfl⟩ := trodAll_nil r0
  obtain rfl : args = #[v0] := by cases args; simp_all
  obtain ⟨rfl, rfl⟩ := trodVars_none hV
  have hw0 : (d0.weights Tryd.prog 24).all (· ≤ reachBytes) = true := weightsEach_mem hsz 0 24 d0 rfl rfl
  obtain ⟨s0, n0, c0, rfl⟩ := okWide_slice Tryd.underlying24 (hval 0 24 v0 rfl rfl)
  obtain ⟨fu0, ht0⟩ := h0
  have f0 : ∃ ds, ReadsAs W (.sl NdT) [.slice s0 n0 c0] ds := typed_in 8 (x := (d0, p0)) (by kernel_rfl) hw0 ht0
  have hL' := hL
  rw [MakeChecks.laidMetH_plain _ _ _ (by kernel_rfl)] at hL'
  have hL3 : laidMet Tryd.prog (("internal/strconv.uint64pow10", Rows.laid_internal_strconv_uint64pow10) :: []) W := (laidMet.tail (laidMet.tail hL'))
  rw [show (Rows.laid_internal_strconv_uint64pow10 : DataW Unit) = Lib.tabData .u64 Lib.pow10Tab by kernel_rfl] at hL3
  have htab : PowTab W := Lib.tabIs_of_head (g := 1) (t := 79) (e := 72) (n := 20) (by kernel_rfl) (by kernel_rfl) Tryd.underlying79 Tryd.underlying72 (by kernel_rfl) (by kernel_rfl) hL3
  refine (of50_walk _ W (Glob.start hsh htab) f0).mono fun e W' ⟨he, hb⟩ => ?_
  subst he
  exact ⟨_, rfl, post_law laidOut hW' rfl rfl rfl rfl rfl Tryd.underlying4 (by intro t ht; rw [Tryd.params4] at ht; simp only [List.mem_cons, List.not_mem_nil, or_false] at ht; rcases ht with rfl <;> exact ⟨by kernel_rfl, of_decide_eq_true (by kernel_rfl)⟩) hb⟩
theorem holds : Rows.GaugeOfSaid :=
  OpenClaim.holds_of_wide 4 Tryd.f4 rfl rfl rfl rfl rfl rfl rfl ⟨rfl, rfl, rfl, rfl, rfl⟩ rfl rfl rfl rfl rfl (by kernel_rfl) Tryd.func4 (by kernel_rfl)
    (of_decide_eq_true (by kernel_rfl)) (by unfold Func.isWrapper; first | (rw [if_pos (by decide +kernel)]; kernel_rfl) | (rw [if_neg (by decide +kernel)]; exact ⟨rfl, rfl⟩))
    (fun os started H enc _ => lifted os started H enc)
theorem proved : Rows.GaugeOfCardSaid :=
  Claim7.holds_tied_plain_at .later [] [.data, .data, .data] true (true, "e990057c32c98bc34feb26bc7100bbde4d8815cb900e9cea29065f5ffcb988c9") false holds (fun _ h => by cases h) (by kernel_rfl) (fun _ h => by cases h) gaugeOf_row_tie rfl ⟨rfl, rfl⟩ (by kernel_rfl) rfl
    (fun f fn hf hfn => by
      obtain rfl : f = 4 := Option.some.inj ((show Tryd.prog.funcNamed "percolate/percolatelaw50.GaugeOf" = some 4 by kernel_rfl).symm.trans hf) |>.symm
      obtain rfl : fn = Tryd.f4 := (Option.some.inj (Tryd.func4.symm.trans hfn)).symm
      exact ⟨by kernel_rfl, fun j t ht => by
        rw [Tryd.params4] at ht
        have hm : t ∈ [24] := by simpa using Array.mem_of_getElem? ht
        have hall : ([24].all fun u => !Tryd.prog.wantsStandIn u) = true := by kernel_rfl
        exact (show Tryd.prog.wantsStandIn t = false by simpa using List.all_eq_true.1 hall t hm)⟩)
    (by kernel_rfl)
end gaugeOf
end
end Go.Proofs.YtelmejaiapdgnaaDoor
