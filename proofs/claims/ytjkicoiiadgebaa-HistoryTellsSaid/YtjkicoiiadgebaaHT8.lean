/-
  Part 8 of a proof: HsD, HsE, HsI, HsJ.
-/
import Derived.Test.YtjkicoiiadgebaaHT7
namespace Go.Proofs.Ytjkicoiiadgebaa
attribute [local go_sem] ev0 ev1 ev2 ev3 ev4 evA stHOk.eq_1 stHOk.eq_2 stHSt.eq_1 stHSt.eq_2 okV valV fzV okF valF okBld valBld mxOk.eq_1 mxOk.eq_2 mxVal.eq_1 mxVal.eq_2 cellFit.eq_1 cellFit.eq_2 cellFit.eq_3 cellEq.eq_1 cellEq.eq_2 cellEq.eq_3 upd_at AV.flatB AV.flatBs binIok binIV binSok binSV cellsOk.eq_1 cellsOk.eq_2 cellsVal.eq_1 cellsVal.eq_2 objCells.eq_1 objCells.eq_2 objZ.eq_1 objZ.eq_2 objProt.eq_1 objProt.eq_2 oneObj ptrOk.eq_1 ptrOk.eq_2 ptrOk.eq_3 ptrCells.eq_1 ptrCells.eq_2 ptrCells.eq_3 lenOk.eq_1 lenOk.eq_2 lenOk.eq_3 lenOk.eq_4 lenVal.eq_1 lenVal.eq_2 lenVal.eq_3 lenVal.eq_4 faOk.eq_1 faOk.eq_2 faOk.eq_3 faVal.eq_1 faVal.eq_2 faVal.eq_3 iaOk.eq_1 iaOk.eq_2 iaOk.eq_3 iaVal.eq_1 iaVal.eq_2 iaVal.eq_3 slcLen.eq_1 slcLen.eq_2 slcLen.eq_3 slcLen.eq_4 bdOk.eq_1 bdOk.eq_2 bdVal.eq_1 bdVal.eq_2 slcOk.eq_1 slcOk.eq_2 slcOk.eq_3 slcOk.eq_4 slcVal.eq_1 slcVal.eq_2 slcVal.eq_3 slcVal.eq_4 slcFz.eq_1 slcFz.eq_2 loK.eq_1 loK.eq_2 loK.eq_3 rsVal.eq_1 rsVal.eq_2 rsVal.eq_3 byOk.eq_1 byOk.eq_2 byOk.eq_3 byOk.eq_4 byOk.eq_5 byOk.eq_6 byOk.eq_7 byOk.eq_8 byVal.eq_1 byVal.eq_2 byVal.eq_3 byFz.eq_1 byFz.eq_2 byFz.eq_3 byOks byVals byFzs allOne resSt.eq_1 resSt.eq_2 resName.eq_1 resName.eq_2 stOk.eq_1 stOk.eq_2 stArr.eq_1 stArr.eq_2 stSt.eq_1 stSt.eq_2 AV.patch nameOk_none gB.eq_1 gB.eq_2 gB.eq_3 gIs.eq_1 gIs.eq_2 gIs.eq_3 retV resV resVs evalV cellsV St.byval List.getD_cons_zero List.getD_cons_succ List.getD_nil List.map_cons List.map_nil List.length_cons List.length_nil List.take_succ_cons List.take_zero List.drop_succ_cons List.drop_zero List.headD_cons List.set_cons_zero List.append_nil List.nil_append List.cons_append List.contains_cons List.contains_nil List.elem_cons List.elem_nil List.all_cons List.all_nil List.getElem?_cons_zero List.getElem?_cons_succ List.filterMap_cons List.filterMap_nil Option.isSome_some Option.isSome_none Option.map_some Option.map_none Option.some.injEq AV.int.injEq AV.bool.injEq AV.str.injEq AV.tup.injEq AV.agg.injEq AV.sl.injEq List.cons.injEq Bool.false_eq_true Bool.true_eq_false Bool.not_true Bool.not_false Bool.and_true Bool.true_and Bool.or_false Bool.or_true Bool.false_or Bool.true_or Bool.or_self Bool.and_self Bool.not_eq_true' Bool.not_eq_false' Bool.not_not beq_self_eq_true true_and and_true false_and and_false and_self not_true_eq_false not_false_eq_true forall_const true_implies false_implies implies_true imp_self Nat.lt_add_one Nat.le_refl Nat.zero_le Nat.add_zero Nat.zero_add decide_true decide_false decide_eq_true_eq decide_eq_false_iff_not exists_eq_left exists_eq_left' ge_iff_le gt_iff_lt ite_branch ite_branch' nilOk.eq_1 nilOk.eq_2 nilMay.eq_1 nilMay.eq_2 AV.isSl.eq_1 objTy'.eq_1 objTy'.eq_2 apSt.eq_1 apArr.eq_1 apArr.eq_2 apTwo.eq_1 apTwo.eq_2 apSt2.eq_1 apArr2.eq_1 apArr2.eq_2 slOf.eq_1 fitsV List.mem_cons List.not_mem_nil Bool.false_and Bool.and_false primOk.eq_1 primOk.eq_2 primOk.eq_3 primOk.eq_4 primOk.eq_5 primVal.eq_1 primVal.eq_2 primVal.eq_3 primVal.eq_4 primVal.eq_5 mOk.eq_1 mOk.eq_2 mVal.eq_1 mVal.eq_2 mFz.eq_1 mFz.eq_2 mOks mVals mFzs mCalOk.eq_1 mCalOk.eq_2 mFn.eq_1 mFn.eq_2 mArgs.eq_1 mArgs.eq_2 ckOk.eq_1 ckOk.eq_2 cloOk.eq_1 ptrAt.eq_1 sh.eq_1 sh.eq_2 sh.eq_3 sh.eq_4 sh.eq_5 sh.eq_6 retM shH_small evM entOk.eq_1 entOk.eq_2 ents.eq_1 ents.eq_2 kI.eq_1 mpOk.eq_1 mpR.eq_1 lkV.eq_1 lkV.eq_2 remp.eq_2 evP pvOk.eq_1 pvOk.eq_2 pvVal.eq_1 pvVal.eq_2 plOk.eq_1 plOk.eq_2 plOk.eq_3 plV.eq_1 plV.eq_2 plF.eq_1 plF.eq_2 plVal.eq_1 plVal.eq_2 plFz.eq_1 plFz.eq_2 lpOk.eq_1 lpOk.eq_2 lpVal.eq_1 lpVal.eq_2 lpFz.eq_1 lpFz.eq_2 stpOk.eq_1 stpOk.eq_2 stpSt.eq_1 stpSt.eq_2 stpArr.eq_1 keepS.eq_1 keepS.eq_2
section
/-
  Histories: whether two are one, and how many events were under way: the code and the document, walked.
-/
open Go.RowKit
set_option linter.unusedVariables false
set_option linter.unusedSimpArgs false
set_option maxRecDepth 100000
attribute [local go_sem ↓] runOp headOp
/-! ### percolate/percolateref38.All -/
def r_eAll_0 : Reg := ⟨[], [⟨(.mv (.c (.bool false))), (some 4), none, [], []⟩], [], [], false⟩
def t_eAll_1 : List ROp := [⟨(.mv (.t 0)), (some 6), none, [], []⟩, ⟨(.len false (.t 6)), (some 7), none, [], []⟩, ⟨(.mv (.t 1)), (some 8), none, [], []⟩, ⟨(.len false (.t 8)), (some 9), none, [], []⟩, ⟨(.bin .neq (.t 7) (.t 9)), (some 10), none, [], []⟩]
def r_eAll_1 : Reg := ⟨[], t_eAll_1, [], [], false⟩
def r_eAll_2 : Reg := ⟨[], [⟨(.mv (.c (.bool false))), (some 4), none, [], []⟩], [], [], false⟩
def r_eAll_3 : Reg := ⟨[], [⟨(.mv (.c (.int .i64 0))), (some 5), none, [], []⟩], [], [], false⟩
def t_eAll_4 : List ROp := [⟨(.mv (.t 5)), (some 11), none, [], []⟩, ⟨(.mv (.t 0)), (some 12), none, [], []⟩, ⟨(.len false (.t 12)), (some 13), none, [], []⟩, ⟨(.bin .lss (.t 11) (.t 13)), (some 14), none, [], []⟩]
def r_eAll_4 : Reg := ⟨[], t_eAll_4, [], [], false⟩
def t_eAll_5 : List ROp := [⟨(.callv (.c (.clo 12 [] [])) [(.t 20), (.t 24)]), (some 25), none, [], []⟩, ⟨(.un .not (.t 25)), (some 26), none, [], []⟩]
def h_eAll_5 : List ROp := [⟨(.mv (.t 0)), (some 17), none, [25], []⟩, ⟨(.mv (.t 5)), (some 18), none, [25], []⟩, ⟨(.iaddr 15 (.t 17) (.t 18)), (some 19), none, [25], []⟩, ⟨(.load 15 true (.t 19)), (some 20), none, [25], []⟩, ⟨(.mv (.t 1)), (some 21), none, [25], []⟩, ⟨(.mv (.t 5)), (some 22), none, [25], []⟩, ⟨(.iaddr 15 (.t 21) (.t 22)), (some 23), none, [25], []⟩, ⟨(.load 15 true (.t 23)), (some 24), none, [25], []⟩]
def r_eAll_5 : Reg := ⟨h_eAll_5, t_eAll_5, [25], [], true⟩
def r_eAll_6 : Reg := ⟨[], [⟨(.mv (.c (.bool false))), (some 4), none, [], []⟩], [], [], false⟩
def t_eAll_7 : List ROp := [⟨(.mv (.t 5)), (some 15), none, [], []⟩, ⟨(.bin .add (.t 15) (.c (.int .i64 1))), (some 16), none, [], []⟩, ⟨(.mv (.t 16)), (some 5), none, [], []⟩]
def r_eAll_7 : Reg := ⟨[], t_eAll_7, [], [], false⟩
def r_eAll_l8 : IR := (.seq (.seq (.reg r_eAll_4)
  (.cond (.t 14) .skip
  (.exit 0)))
  (.seq (.block 1 (.seq (.reg r_eAll_5)
  (.cond (.t 26) (.seq (.reg r_eAll_6)
  .ret)
  .skip)))
  (.reg r_eAll_7)))
def r_eAll_9 : Reg := ⟨[], [⟨(.mv (.c (.bool true))), (some 4), none, [], []⟩], [], [], false⟩
def ir_eAll : IR := (.seq (.reg r_eAll_0)
  (.seq (.seq (.reg r_eAll_1)
  (.cond (.t 10) (.seq (.reg r_eAll_2)
  .ret)
  .skip))
  (.seq (.seq (.reg r_eAll_3)
  (.block 0 (.loop r_eAll_l8)))
  (.seq (.reg r_eAll_9)
  .ret))))
def res_eAll : List RDesc := [(.tmp 4)]
theorem e_eAll_0 (C : FuncId → List AV → AV → Prop) (σ : St) (K : St → Prop) : runReg C r_eAll_0 σ K = runOps C [⟨(.mv (.c (.bool false))), (some 4), none, [], []⟩] (σ.kills []) K := rfl
theorem e_eAll_1 (C : FuncId → List AV → AV → Prop) (σ : St) (K : St → Prop) : runReg C r_eAll_1 σ K = runOps C t_eAll_1 (σ.kills []) K := rfl
theorem e_eAll_2 (C : FuncId → List AV → AV → Prop) (σ : St) (K : St → Prop) : runReg C r_eAll_2 σ K = runOps C [⟨(.mv (.c (.bool false))), (some 4), none, [], []⟩] (σ.kills []) K := rfl
theorem e_eAll_3 (C : FuncId → List AV → AV → Prop) (σ : St) (K : St → Prop) : runReg C r_eAll_3 σ K = runOps C [⟨(.mv (.c (.int .i64 0))), (some 5), none, [], []⟩] (σ.kills []) K := rfl
theorem e_eAll_4 (C : FuncId → List AV → AV → Prop) (σ : St) (K : St → Prop) : runReg C r_eAll_4 σ K = runOps C t_eAll_4 (σ.kills []) K := rfl
theorem e_eAll_5 (C : FuncId → List AV → AV → Prop) (σ : St) (K : St → Prop) : runReg C r_eAll_5 σ K = runHead C [] t_eAll_5 h_eAll_5 (σ.kills [25]) K := rfl
theorem e_eAll_6 (C : FuncId → List AV → AV → Prop) (σ : St) (K : St → Prop) : runReg C r_eAll_6 σ K = runOps C [⟨(.mv (.c (.bool false))), (some 4), none, [], []⟩] (σ.kills []) K := rfl
theorem e_eAll_7 (C : FuncId → List AV → AV → Prop) (σ : St) (K : St → Prop) : runReg C r_eAll_7 σ K = runOps C t_eAll_7 (σ.kills []) K := rfl
theorem e_eAll_9 (C : FuncId → List AV → AV → Prop) (σ : St) (K : St → Prop) : runReg C r_eAll_9 σ K = runOps C [⟨(.mv (.c (.bool true))), (some 4), none, [], []⟩] (σ.kills []) K := rfl
theorem fn_eAll {args : List AV} {r : AV} (ha : args.length.ble Try.f15.ntmps = true) (h : run (AFn Try.prog) ir_eAll (endQ res_eAll r) (initSt args)) : AFn Try.prog 15 args r :=
  AFn.of_code (pv := false) (hint := fun _ => []) (c := Try.f15.body.getD .skip) (by kernel_rfl) (by kernel_rfl) Try.func15 (by kernel_rfl) (by kernel_rfl) (by kernel_rfl) (of_decide_eq_true (by kernel_rfl)) (Nat.le_of_ble_eq_true ha) (Nat.le_of_ble_eq_true (by kernel_rfl)) (run_ok h)
/-! ### percolate/history.Most -/
def r_hMost_0 : Reg := ⟨[], [⟨(.mv (.c (.int .i64 0))), (some 2), none, [], []⟩], [], [], false⟩
def r_hMost_1 : Reg := ⟨[], [⟨(.mv (.c (.int .i64 0))), (some 3), none, [], []⟩], [], [], false⟩
def t_hMost_2 : List ROp := [⟨(.mv (.t 0)), (some 9), none, [], []⟩, ⟨(.len false (.t 9)), (some 10), none, [], []⟩, ⟨(.mv (.c (.int .i64 0))), (some 11), none, [], []⟩]
def r_hMost_2 : Reg := ⟨[], t_hMost_2, [], [], false⟩
def r_hMost_3 : Reg := ⟨[], [⟨(.bin .lss (.t 11) (.t 10)), (some 12), none, [], []⟩], [], [], false⟩
def t_hMost_4 : List ROp := [⟨(.iaddr 15 (.t 9) (.t 11)), (some 13), none, [5], []⟩, ⟨(.load 15 true (.t 13)), (some 14), none, [5], []⟩, ⟨(.alloc 15 32 (.agg [(.int .i64 0), (.int .i64 0), (.str ⟨#[]⟩), (.str ⟨#[]⟩), (.bool false), (.str ⟨#[]⟩), (.int .i64 0), (.int .i64 0), (.bool false), (.str ⟨#[]⟩), (.sl []), (.int .i64 0), (.int .i64 0), (.int .i64 0), (.bool false)])), (some 5), none, [], []⟩, ⟨(.store 15 (.t 5) (.t 14)), none, none, [], []⟩]
def r_hMost_4 : Reg := ⟨[], t_hMost_4, [5], [], false⟩
def r_hMost_5 : Reg := ⟨[], [⟨(.mv (.c (.int .i64 0))), (some 6), none, [], []⟩], [], [], false⟩
def t_hMost_6 : List ROp := [⟨(.mv (.t 0)), (some 15), none, [], []⟩, ⟨(.len false (.t 15)), (some 16), none, [], []⟩, ⟨(.mv (.c (.int .i64 0))), (some 17), none, [], []⟩]
def r_hMost_6 : Reg := ⟨[], t_hMost_6, [], [], false⟩
def r_hMost_7 : Reg := ⟨[], [⟨(.bin .lss (.t 17) (.t 16)), (some 18), none, [], []⟩], [], [], false⟩
def t_hMost_8 : List ROp := [⟨(.iaddr 15 (.t 15) (.t 17)), (some 19), none, [8], []⟩, ⟨(.load 15 true (.t 19)), (some 20), none, [8], []⟩, ⟨(.alloc 15 32 (.agg [(.int .i64 0), (.int .i64 0), (.str ⟨#[]⟩), (.str ⟨#[]⟩), (.bool false), (.str ⟨#[]⟩), (.int .i64 0), (.int .i64 0), (.bool false), (.str ⟨#[]⟩), (.sl []), (.int .i64 0), (.int .i64 0), (.int .i64 0), (.bool false)])), (some 8), none, [], []⟩, ⟨(.store 15 (.t 8) (.t 20)), none, none, [], []⟩]
def r_hMost_8 : Reg := ⟨[], t_hMost_8, [8], [], false⟩
def t_hMost_9 : List ROp := [⟨(.faddr 11 (.t 8)), (some 21), none, [], []⟩, ⟨(.load 1 false (.t 21)), (some 22), none, [], []⟩, ⟨(.faddr 11 (.t 5)), (some 23), none, [], []⟩, ⟨(.load 1 false (.t 23)), (some 24), none, [], []⟩, ⟨(.bin .leq (.t 22) (.t 24)), (some 25), none, [], []⟩, ⟨(.mv (.t 25)), (some 26), none, [], []⟩, ⟨(.faddr 14 (.t 8)), (some 27), (some (26, true)), [], []⟩, ⟨(.load 1 false (.t 27)), (some 28), (some (26, true)), [], []⟩, ⟨(.un .not (.t 28)), (some 29), (some (26, true)), [], []⟩, ⟨(.mv (.t 29)), (some 30), (some (26, true)), [], []⟩, ⟨(.faddr 13 (.t 8)), (some 31), (some (30, false)), [], []⟩, ⟨(.load 1 false (.t 31)), (some 32), (some (30, false)), [], []⟩, ⟨(.faddr 11 (.t 5)), (some 33), (some (30, false)), [], []⟩, ⟨(.load 1 false (.t 33)), (some 34), (some (30, false)), [], []⟩, ⟨(.bin .geq (.t 32) (.t 34)), (some 35), (some (30, false)), [], []⟩, ⟨(.pick (.t 30) (.c (.bool true)) (.t 35)), (some 36), (some (26, true)), [], []⟩, ⟨(.pick (.t 26) (.t 36) (.c (.bool false))), (some 37), none, [], []⟩]
def r_hMost_9 : Reg := ⟨[], t_hMost_9, [], [], false⟩
def t_hMost_10 : List ROp := [⟨(.mv (.t 6)), (some 38), none, [], []⟩, ⟨(.bin .add (.t 38) (.c (.int .i64 1))), (some 39), none, [], []⟩, ⟨(.mv (.t 39)), (some 6), none, [], []⟩]
def r_hMost_10 : Reg := ⟨[], t_hMost_10, [], [], false⟩
def r_hMost_11 : Reg := ⟨[], [⟨(.bin .add (.t 17) (.c (.int .i64 1))), (some 40), none, [], []⟩, ⟨(.mv (.t 40)), (some 17), none, [], []⟩], [], [], false⟩
def r_hMost_l12 : IR := (.seq (.reg r_hMost_7)
  (.seq (.cond (.t 18) .skip
  (.exit 2))
  (.seq (.block 3 (.seq (.reg r_hMost_8)
  (.seq (.reg r_hMost_9)
  (.cond (.t 37) (.reg r_hMost_10)
  .skip))))
  (.reg r_hMost_11))))
def t_hMost_13 : List ROp := [⟨(.mv (.t 3)), (some 41), none, [], []⟩, ⟨(.mv (.t 6)), (some 42), none, [], []⟩, ⟨(.mx true (.t 41) (.t 42)), (some 43), none, [], []⟩, ⟨(.mv (.t 43)), (some 3), none, [], []⟩]
def r_hMost_13 : Reg := ⟨[], t_hMost_13, [], [], false⟩
def r_hMost_14 : Reg := ⟨[], [⟨(.bin .add (.t 11) (.c (.int .i64 1))), (some 44), none, [], []⟩, ⟨(.mv (.t 44)), (some 11), none, [], []⟩], [], [], false⟩
def r_hMost_l15 : IR := (.seq (.reg r_hMost_3)
  (.seq (.cond (.t 12) .skip
  (.exit 0))
  (.seq (.block 1 (.seq (.reg r_hMost_4)
  (.seq (.reg r_hMost_5)
  (.seq (.seq (.reg r_hMost_6)
  (.block 2 (.loop r_hMost_l12)))
  (.reg r_hMost_13)))))
  (.reg r_hMost_14))))
def r_hMost_16 : Reg := ⟨[], [⟨(.mv (.t 3)), (some 45), none, [], []⟩, ⟨(.mv (.t 45)), (some 2), none, [], []⟩], [], [], false⟩
def ir_hMost : IR := (.seq (.reg r_hMost_0)
  (.seq (.reg r_hMost_1)
  (.seq (.seq (.reg r_hMost_2)
  (.block 0 (.loop r_hMost_l15)))
  (.seq (.reg r_hMost_16)
  .ret))))
def res_hMost : List RDesc := [(.tmp 2)]
theorem e_hMost_0 (C : FuncId → List AV → AV → Prop) (σ : St) (K : St → Prop) : runReg C r_hMost_0 σ K = runOps C [⟨(.mv (.c (.int .i64 0))), (some 2), none, [], []⟩] (σ.kills []) K := rfl
theorem e_hMost_1 (C : FuncId → List AV → AV → Prop) (σ : St) (K : St → Prop) : runReg C r_hMost_1 σ K = runOps C [⟨(.mv (.c (.int .i64 0))), (some 3), none, [], []⟩] (σ.kills []) K := rfl
theorem e_hMost_2 (C : FuncId → List AV → AV → Prop) (σ : St) (K : St → Prop) : runReg C r_hMost_2 σ K = runOps C t_hMost_2 (σ.kills []) K := rfl
theorem e_hMost_3 (C : FuncId → List AV → AV → Prop) (σ : St) (K : St → Prop) : runReg C r_hMost_3 σ K = runOps C [⟨(.bin .lss (.t 11) (.t 10)), (some 12), none, [], []⟩] (σ.kills []) K := rfl
theorem e_hMost_4 (C : FuncId → List AV → AV → Prop) (σ : St) (K : St → Prop) : runReg C r_hMost_4 σ K = runOps C t_hMost_4 (σ.kills [5]) K := rfl
theorem e_hMost_5 (C : FuncId → List AV → AV → Prop) (σ : St) (K : St → Prop) : runReg C r_hMost_5 σ K = runOps C [⟨(.mv (.c (.int .i64 0))), (some 6), none, [], []⟩] (σ.kills []) K := rfl
theorem e_hMost_6 (C : FuncId → List AV → AV → Prop) (σ : St) (K : St → Prop) : runReg C r_hMost_6 σ K = runOps C t_hMost_6 (σ.kills []) K := rfl
theorem e_hMost_7 (C : FuncId → List AV → AV → Prop) (σ : St) (K : St → Prop) : runReg C r_hMost_7 σ K = runOps C [⟨(.bin .lss (.t 17) (.t 16)), (some 18), none, [], []⟩] (σ.kills []) K := rfl
theorem e_hMost_8 (C : FuncId → List AV → AV → Prop) (σ : St) (K : St → Prop) : runReg C r_hMost_8 σ K = runOps C t_hMost_8 (σ.kills [8]) K := rfl
theorem e_hMost_9 (C : FuncId → List AV → AV → Prop) (σ : St) (K : St → Prop) : runReg C r_hMost_9 σ K = runOps C t_hMost_9 (σ.kills []) K := rfl
theorem e_hMost_10 (C : FuncId → List AV → AV → Prop) (σ : St) (K : St → Prop) : runReg C r_hMost_10 σ K = runOps C t_hMost_10 (σ.kills []) K := rfl
theorem e_hMost_11 (C : FuncId → List AV → AV → Prop) (σ : St) (K : St → Prop) : runReg C r_hMost_11 σ K = runOps C [⟨(.bin .add (.t 17) (.c (.int .i64 1))), (some 40), none, [], []⟩, ⟨(.mv (.t 40)), (some 17), none, [], []⟩] (σ.kills []) K := rfl
theorem e_hMost_13 (C : FuncId → List AV → AV → Prop) (σ : St) (K : St → Prop) : runReg C r_hMost_13 σ K = runOps C t_hMost_13 (σ.kills []) K := rfl
theorem e_hMost_14 (C : FuncId → List AV → AV → Prop) (σ : St) (K : St → Prop) : runReg C r_hMost_14 σ K = runOps C [⟨(.bin .add (.t 11) (.c (.int .i64 1))), (some 44), none, [], []⟩, ⟨(.mv (.t 44)), (some 11), none, [], []⟩] (σ.kills []) K := rfl
theorem e_hMost_16 (C : FuncId → List AV → AV → Prop) (σ : St) (K : St → Prop) : runReg C r_hMost_16 σ K = runOps C [⟨(.mv (.t 3)), (some 45), none, [], []⟩, ⟨(.mv (.t 45)), (some 2), none, [], []⟩] (σ.kills []) K := rfl
theorem fn_hMost {args : List AV} {r : AV} (ha : args.length.ble Try.f18.ntmps = true) (h : run (AFn Try.prog) ir_hMost (endQ res_hMost r) (initSt args)) : AFn Try.prog 18 args r :=
  AFn.of_code (pv := false) (hint := fun _ => []) (c := Try.f18.body.getD .skip) (by kernel_rfl) (by kernel_rfl) Try.func18 (by kernel_rfl) (by kernel_rfl) (by kernel_rfl) (of_decide_eq_true (by kernel_rfl)) (Nat.le_of_ble_eq_true ha) (Nat.le_of_ble_eq_true (by kernel_rfl)) (run_ok h)
/-! ### percolate/percolateref38.Most -/
def r_rMost_0 : Reg := ⟨[], [⟨(.mv (.c (.int .i64 0))), (some 2), none, [], []⟩], [], [], false⟩
def r_rMost_1 : Reg := ⟨[], [⟨(.mv (.c (.int .i64 0))), (some 3), none, [], []⟩], [], [], false⟩
def r_rMost_2 : Reg := ⟨[], [⟨(.mv (.c (.int .i64 0))), (some 4), none, [], []⟩], [], [], false⟩
def t_rMost_3 : List ROp := [⟨(.mv (.t 4)), (some 8), none, [], []⟩, ⟨(.mv (.t 0)), (some 9), none, [], []⟩, ⟨(.len false (.t 9)), (some 10), none, [], []⟩, ⟨(.bin .lss (.t 8) (.t 10)), (some 11), none, [], []⟩]
def r_rMost_3 : Reg := ⟨[], t_rMost_3, [], [], false⟩
def r_rMost_4 : Reg := ⟨[], [⟨(.mv (.c (.int .i64 0))), (some 5), none, [], []⟩], [], [], false⟩
def r_rMost_5 : Reg := ⟨[], [⟨(.mv (.c (.int .i64 0))), (some 6), none, [], []⟩], [], [], false⟩
def t_rMost_6 : List ROp := [⟨(.mv (.t 6)), (some 14), none, [], []⟩, ⟨(.mv (.t 0)), (some 15), none, [], []⟩, ⟨(.len false (.t 15)), (some 16), none, [], []⟩, ⟨(.bin .lss (.t 14) (.t 16)), (some 17), none, [], []⟩]
def r_rMost_6 : Reg := ⟨[], t_rMost_6, [], [], false⟩
def t_rMost_7 : List ROp := [⟨(.bin .lss (.t 30) (.t 35)), (some 36), (some (25, true)), [], []⟩, ⟨(.pick (.t 25) (.t 36) (.c (.bool false))), (some 37), none, [], []⟩, ⟨(.mv (.t 37)), (some 7), none, [], []⟩]
def h_rMost_7 : List ROp := [⟨(.mv (.t 0)), (some 20), none, [], []⟩, ⟨(.mv (.t 6)), (some 21), none, [], []⟩, ⟨(.iaddr 15 (.t 20) (.t 21)), (some 22), none, [], []⟩, ⟨(.faddr 14 (.t 22)), (some 23), none, [], []⟩, ⟨(.load 1 false (.t 23)), (some 24), none, [], []⟩, ⟨(.mv (.t 24)), (some 25), none, [], []⟩, ⟨(.mv (.t 0)), (some 26), (some (25, true)), [], []⟩, ⟨(.mv (.t 6)), (some 27), (some (25, true)), [], []⟩, ⟨(.iaddr 15 (.t 26) (.t 27)), (some 28), (some (25, true)), [], []⟩, ⟨(.faddr 13 (.t 28)), (some 29), (some (25, true)), [], []⟩, ⟨(.load 1 false (.t 29)), (some 30), (some (25, true)), [], []⟩, ⟨(.mv (.t 0)), (some 31), (some (25, true)), [], []⟩, ⟨(.mv (.t 4)), (some 32), (some (25, true)), [], []⟩, ⟨(.iaddr 15 (.t 31) (.t 32)), (some 33), (some (25, true)), [], []⟩, ⟨(.faddr 11 (.t 33)), (some 34), (some (25, true)), [], []⟩, ⟨(.load 1 false (.t 34)), (some 35), (some (25, true)), [], []⟩]
def r_rMost_7 : Reg := ⟨h_rMost_7, t_rMost_7, [], [], true⟩
def t_rMost_8 : List ROp := [⟨(.bin .leq (.t 42) (.t 47)), (some 48), none, [], []⟩, ⟨(.mv (.t 48)), (some 49), none, [], []⟩, ⟨(.mv (.t 7)), (some 50), (some (49, true)), [], []⟩, ⟨(.un .not (.t 50)), (some 51), (some (49, true)), [], []⟩, ⟨(.pick (.t 49) (.t 51) (.c (.bool false))), (some 52), none, [], []⟩]
def h_rMost_8 : List ROp := [⟨(.mv (.t 0)), (some 38), none, [], []⟩, ⟨(.mv (.t 6)), (some 39), none, [], []⟩, ⟨(.iaddr 15 (.t 38) (.t 39)), (some 40), none, [], []⟩, ⟨(.faddr 11 (.t 40)), (some 41), none, [], []⟩, ⟨(.load 1 false (.t 41)), (some 42), none, [], []⟩, ⟨(.mv (.t 0)), (some 43), none, [], []⟩, ⟨(.mv (.t 4)), (some 44), none, [], []⟩, ⟨(.iaddr 15 (.t 43) (.t 44)), (some 45), none, [], []⟩, ⟨(.faddr 11 (.t 45)), (some 46), none, [], []⟩, ⟨(.load 1 false (.t 46)), (some 47), none, [], []⟩]
def r_rMost_8 : Reg := ⟨h_rMost_8, t_rMost_8, [], [], true⟩
def t_rMost_9 : List ROp := [⟨(.mv (.t 5)), (some 53), none, [], []⟩, ⟨(.bin .add (.t 53) (.c (.int .i64 1))), (some 54), none, [], []⟩, ⟨(.mv (.t 54)), (some 5), none, [], []⟩]
def r_rMost_9 : Reg := ⟨[], t_rMost_9, [], [], false⟩
def t_rMost_10 : List ROp := [⟨(.mv (.t 6)), (some 18), none, [], []⟩, ⟨(.bin .add (.t 18) (.c (.int .i64 1))), (some 19), none, [], []⟩, ⟨(.mv (.t 19)), (some 6), none, [], []⟩]
def r_rMost_10 : Reg := ⟨[], t_rMost_10, [], [], false⟩
def r_rMost_l11 : IR := (.seq (.seq (.reg r_rMost_6)
  (.cond (.t 17) .skip
  (.exit 2)))
  (.seq (.block 3 (.seq (.reg r_rMost_7)
  (.seq (.reg r_rMost_8)
  (.cond (.t 52) (.reg r_rMost_9)
  .skip))))
  (.reg r_rMost_10)))
def t_rMost_12 : List ROp := [⟨(.mv (.t 5)), (some 55), none, [], []⟩, ⟨(.mv (.t 3)), (some 56), none, [], []⟩, ⟨(.bin .gtr (.t 55) (.t 56)), (some 57), none, [], []⟩]
def r_rMost_12 : Reg := ⟨[], t_rMost_12, [], [], false⟩
def r_rMost_13 : Reg := ⟨[], [⟨(.mv (.t 5)), (some 58), none, [], []⟩, ⟨(.mv (.t 58)), (some 3), none, [], []⟩], [], [], false⟩
def t_rMost_14 : List ROp := [⟨(.mv (.t 4)), (some 12), none, [], []⟩, ⟨(.bin .add (.t 12) (.c (.int .i64 1))), (some 13), none, [], []⟩, ⟨(.mv (.t 13)), (some 4), none, [], []⟩]
def r_rMost_14 : Reg := ⟨[], t_rMost_14, [], [], false⟩
def r_rMost_l15 : IR := (.seq (.seq (.reg r_rMost_3)
  (.cond (.t 11) .skip
  (.exit 0)))
  (.seq (.block 1 (.seq (.reg r_rMost_4)
  (.seq (.seq (.reg r_rMost_5)
  (.block 2 (.loop r_rMost_l11)))
  (.seq (.reg r_rMost_12)
  (.cond (.t 57) (.reg r_rMost_13)
  .skip)))))
  (.reg r_rMost_14)))
def r_rMost_16 : Reg := ⟨[], [⟨(.mv (.t 3)), (some 59), none, [], []⟩, ⟨(.mv (.t 59)), (some 2), none, [], []⟩], [], [], false⟩
def ir_rMost : IR := (.seq (.reg r_rMost_0)
  (.seq (.reg r_rMost_1)
  (.seq (.seq (.reg r_rMost_2)
  (.block 0 (.loop r_rMost_l15)))
  (.seq (.reg r_rMost_16)
  .ret))))
def res_rMost : List RDesc := [(.tmp 2)]
theorem e_rMost_0 (C : FuncId → List AV → AV → Prop) (σ : St) (K : St → Prop) : runReg C r_rMost_0 σ K = runOps C [⟨(.mv (.c (.int .i64 0))), (some 2), none, [], []⟩] (σ.kills []) K := rfl
theorem e_rMost_1 (C : FuncId → List AV → AV → Prop) (σ : St) (K : St → Prop) : runReg C r_rMost_1 σ K = runOps C [⟨(.mv (.c (.int .i64 0))), (some 3), none, [], []⟩] (σ.kills []) K := rfl
theorem e_rMost_2 (C : FuncId → List AV → AV → Prop) (σ : St) (K : St → Prop) : runReg C r_rMost_2 σ K = runOps C [⟨(.mv (.c (.int .i64 0))), (some 4), none, [], []⟩] (σ.kills []) K := rfl
theorem e_rMost_3 (C : FuncId → List AV → AV → Prop) (σ : St) (K : St → Prop) : runReg C r_rMost_3 σ K = runOps C t_rMost_3 (σ.kills []) K := rfl
theorem e_rMost_4 (C : FuncId → List AV → AV → Prop) (σ : St) (K : St → Prop) : runReg C r_rMost_4 σ K = runOps C [⟨(.mv (.c (.int .i64 0))), (some 5), none, [], []⟩] (σ.kills []) K := rfl
theorem e_rMost_5 (C : FuncId → List AV → AV → Prop) (σ : St) (K : St → Prop) : runReg C r_rMost_5 σ K = runOps C [⟨(.mv (.c (.int .i64 0))), (some 6), none, [], []⟩] (σ.kills []) K := rfl
theorem e_rMost_6 (C : FuncId → List AV → AV → Prop) (σ : St) (K : St → Prop) : runReg C r_rMost_6 σ K = runOps C t_rMost_6 (σ.kills []) K := rfl
theorem e_rMost_7 (C : FuncId → List AV → AV → Prop) (σ : St) (K : St → Prop) : runReg C r_rMost_7 σ K = runHead C [] t_rMost_7 h_rMost_7 (σ.kills []) K := rfl
theorem e_rMost_8 (C : FuncId → List AV → AV → Prop) (σ : St) (K : St → Prop) : runReg C r_rMost_8 σ K = runHead C [] t_rMost_8 h_rMost_8 (σ.kills []) K := rfl
theorem e_rMost_9 (C : FuncId → List AV → AV → Prop) (σ : St) (K : St → Prop) : runReg C r_rMost_9 σ K = runOps C t_rMost_9 (σ.kills []) K := rfl
theorem e_rMost_10 (C : FuncId → List AV → AV → Prop) (σ : St) (K : St → Prop) : runReg C r_rMost_10 σ K = runOps C t_rMost_10 (σ.kills []) K := rfl
theorem e_rMost_12 (C : FuncId → List AV → AV → Prop) (σ : St) (K : St → Prop) : runReg C r_rMost_12 σ K = runOps C t_rMost_12 (σ.kills []) K := rfl
theorem e_rMost_13 (C : FuncId → List AV → AV → Prop) (σ : St) (K : St → Prop) : runReg C r_rMost_13 σ K = runOps C [⟨(.mv (.t 5)), (some 58), none, [], []⟩, ⟨(.mv (.t 58)), (some 3), none, [], []⟩] (σ.kills []) K := rfl
theorem e_rMost_14 (C : FuncId → List AV → AV → Prop) (σ : St) (K : St → Prop) : runReg C r_rMost_14 σ K = runOps C t_rMost_14 (σ.kills []) K := rfl
theorem e_rMost_16 (C : FuncId → List AV → AV → Prop) (σ : St) (K : St → Prop) : runReg C r_rMost_16 σ K = runOps C [⟨(.mv (.t 3)), (some 59), none, [], []⟩, ⟨(.mv (.t 59)), (some 2), none, [], []⟩] (σ.kills []) K := rfl
theorem fn_rMost {args : List AV} {r : AV} (ha : args.length.ble Try.f19.ntmps = true) (h : run (AFn Try.prog) ir_rMost (endQ res_rMost r) (initSt args)) : AFn Try.prog 19 args r :=
  AFn.of_code (pv := false) (hint := fun _ => []) (c := Try.f19.body.getD .skip) (by kernel_rfl) (by kernel_rfl) Try.func19 (by kernel_rfl) (by kernel_rfl) (by kernel_rfl) (of_decide_eq_true (by kernel_rfl)) (Nat.le_of_ble_eq_true ha) (Nat.le_of_ble_eq_true (by kernel_rfl)) (run_ok h)
attribute [local go_sem ↓] ir_eAll
attribute [local go_sem] res_eAll e_eAll_0 e_eAll_1 t_eAll_1 e_eAll_2 e_eAll_3 e_eAll_4 t_eAll_4 e_eAll_5 t_eAll_5 h_eAll_5 e_eAll_6 e_eAll_7 t_eAll_7 e_eAll_9
attribute [local go_sem ↓] ir_hMost
attribute [local go_sem] res_hMost e_hMost_0 e_hMost_1 e_hMost_2 t_hMost_2 e_hMost_3 e_hMost_4 t_hMost_4 e_hMost_5 e_hMost_6 t_hMost_6 e_hMost_7 e_hMost_8 t_hMost_8 e_hMost_9 t_hMost_9 e_hMost_10 t_hMost_10 e_hMost_11 e_hMost_13 t_hMost_13 e_hMost_14 e_hMost_16
attribute [local go_sem ↓] ir_rMost
attribute [local go_sem] res_rMost e_rMost_0 e_rMost_1 e_rMost_2 e_rMost_3 t_rMost_3 e_rMost_4 e_rMost_5 e_rMost_6 t_rMost_6 e_rMost_7 t_rMost_7 h_rMost_7 e_rMost_8 t_rMost_8 h_rMost_8 e_rMost_9 t_rMost_9 e_rMost_10 t_rMost_10 e_rMost_12 t_rMost_12 e_rMost_13 e_rMost_14 t_rMost_14 e_rMost_16
def eqEs : List Evt → List Evt → Bool
  | [], [] => true
  | x :: a, y :: b => evB x y && eqEs a b
  | _, _ => false
theorem eqEs_len : ∀ (a b : List Evt), a.length ≠ b.length → eqEs a b = false
  | [], [], h => absurd rfl h
  | [], y :: b, _ => rfl
  | x :: a, [], _ => rfl
  | x :: a, y :: b, h => by
    rw [eqEs, eqEs_len a b (fun e => h (by rw [List.length_cons, List.length_cons, e])), Bool.and_false]
def eAllInv (a b : List Evt) (R : Bool) (k : Nat) (σ : St) : Prop :=
  ∃ j : Nat, j ≤ a.length ∧ k = a.length - j ∧ σ.T 0 = .sl (a.map Evt.a) ∧ σ.T 1 = .sl (b.map Evt.a) ∧ σ.T 5 = .int .i64 j ∧ eqEs (a.drop j) (b.drop j) = R
set_option maxHeartbeats 2000000 in
theorem eAll_ok (a b : List Evt) (ha : a.length ≤ 1000000000) (hb : b.length ≤ 1000000000) (pa : ∀ e, e ∈ a → e.ans.prs.length ≤ 1000000000) (pb : ∀ e, e ∈ b → e.ans.prs.length ≤ 1000000000) :
    AFn Try.prog 15 [.sl (a.map Evt.a), .sl (b.map Evt.a)] (.bool (eqEs a b)) := by
  refine fn_eAll rfl ?_
  by_cases hl : a.length = b.length
  case neg =>
    have hl' : (((a.length : Nat) : Int) != ((b.length : Nat) : Int)) = true := by simp; omega
    rw [eqEs_len a b hl]
    simp (maxSteps := 4000000) only [go_sem, ↓reduceIte, reduceCtorEq, Nat.reduceEqDiff, Nat.reduceBEq, Nat.reduceAdd, Nat.reduceSub, Nat.reduceMul, Nat.reduceLT, Nat.reduceLeDiff, Nat.reduceBNe, Int.reduceBEq, Int.reduceBNe, Int.reduceLT, Int.reduceLE, Par.a, Opr.a, Ans.a, nul, hl', List.length_map]
  have hl' : (((a.length : Nat) : Int) != ((b.length : Nat) : Int)) = false := by simp; omega
  obtain ⟨R, hR⟩ : ∃ R, eqEs a b = R := ⟨_, rfl⟩
  rw [hR]
  simp (maxSteps := 4000000) only [go_sem, ↓reduceIte, reduceCtorEq, Nat.reduceEqDiff, Nat.reduceBEq, Nat.reduceAdd, Nat.reduceSub, Nat.reduceMul, Nat.reduceLT, Nat.reduceLeDiff, Nat.reduceBNe, Int.reduceBEq, Int.reduceBNe, Int.reduceLT, Int.reduceLE, Par.a, Opr.a, Ans.a, nul, hl', List.length_map]
  refine run_loop (eAllInv a b R) (k := a.length) ⟨0, by omega, rfl, ?_, ?_, ?_, hR⟩ ?_
  · (simp (maxSteps := 4000000) only [go_sem, ↓reduceIte, reduceCtorEq, Nat.reduceEqDiff, Nat.reduceBEq, Nat.reduceAdd, Nat.reduceSub, Nat.reduceMul, Nat.reduceLT, Nat.reduceLeDiff, Nat.reduceBNe, Int.reduceBEq, Int.reduceBNe, Int.reduceLT, Int.reduceLE, Par.a, Opr.a, Ans.a, nul]) <;> rfl
  · (simp (maxSteps := 4000000) only [go_sem, ↓reduceIte, reduceCtorEq, Nat.reduceEqDiff, Nat.reduceBEq, Nat.reduceAdd, Nat.reduceSub, Nat.reduceMul, Nat.reduceLT, Nat.reduceLeDiff, Nat.reduceBNe, Int.reduceBEq, Int.reduceBNe, Int.reduceLT, Int.reduceLE, Par.a, Opr.a, Ans.a, nul]) <;> rfl
  · (simp (maxSteps := 4000000) only [go_sem, ↓reduceIte, reduceCtorEq, Nat.reduceEqDiff, Nat.reduceBEq, Nat.reduceAdd, Nat.reduceSub, Nat.reduceMul, Nat.reduceLT, Nat.reduceLeDiff, Nat.reduceBNe, Int.reduceBEq, Int.reduceBNe, Int.reduceLT, Int.reduceLE, Par.a, Opr.a, Ans.a, nul]) <;> rfl
  clear hR
  rintro k σ ⟨j, hj, rfl, t0, t1, t5, hr⟩
  simp only [r_eAll_l8]
  by_cases hlt : j < a.length
  case neg =>
    have hlt' : ¬ (j : Int) < (a.length : Int) := by omega
    rw [List.drop_eq_nil_of_le (by omega), List.drop_eq_nil_of_le (by omega), eqEs] at hr
    subst hr
    simp (maxSteps := 4000000) only [go_sem, ↓reduceIte, reduceCtorEq, Nat.reduceEqDiff, Nat.reduceBEq, Nat.reduceAdd, Nat.reduceSub, Nat.reduceMul, Nat.reduceLT, Nat.reduceLeDiff, Nat.reduceBNe, Int.reduceBEq, Int.reduceBNe, Int.reduceLT, Int.reduceLE, Par.a, Opr.a, Ans.a, nul, t0, t1, t5, hlt', List.length_map]
  have hlt' : (j : Int) < (a.length : Int) := by omega
  have hlt2 : j < b.length := by omega
  obtain ⟨x, hx⟩ := get_lt hlt
  obtain ⟨y, hy⟩ := get_lt hlt2
  have hgx := at_map (f := Evt.a) hx
  have hgy := at_map (f := Evt.a) hy
  have c := rSm_ok x y (pa x (List.mem_of_getElem? hx)) (pb y (List.mem_of_getElem? hy))
  simp only [Evt.a] at hgx hgy c
  have hw := wrapS (j := j) (by omega)
  rw [drop_at hx, drop_at hy, eqEs] at hr
  cases q : evB x y
  · rw [q] at hr c
    rw [Bool.false_and] at hr
    subst hr
    (repeat (first | simp (maxSteps := 4000000) only [go_sem, ↓reduceIte, reduceCtorEq, Nat.reduceEqDiff, Nat.reduceBEq, Nat.reduceAdd, Nat.reduceSub, Nat.reduceMul, Nat.reduceLT, Nat.reduceLeDiff, Nat.reduceBNe, Int.reduceBEq, Int.reduceBNe, Int.reduceLT, Int.reduceLE, Par.a, Opr.a, Ans.a, nul, t0, t1, t5, hlt', hgx, hgy, hlt, hlt2, List.length_map, Int.toNat_natCast] | refine calling (c) ?_ | refine callingH (c) ?_ | refine And.intro (by omega) ?_ | refine And.intro (fun d hd => by (repeat (rcases hd with rfl | hd; · exact ⟨rfl, rfl⟩)); cases hd) ?_))
  · rw [q] at hr c
    rw [Bool.true_and] at hr
    (repeat (first | simp (maxSteps := 4000000) only [go_sem, ↓reduceIte, reduceCtorEq, Nat.reduceEqDiff, Nat.reduceBEq, Nat.reduceAdd, Nat.reduceSub, Nat.reduceMul, Nat.reduceLT, Nat.reduceLeDiff, Nat.reduceBNe, Int.reduceBEq, Int.reduceBNe, Int.reduceLT, Int.reduceLE, Par.a, Opr.a, Ans.a, nul, t0, t1, t5, hlt', hgx, hgy, hw, hlt, hlt2, List.length_map, Int.toNat_natCast] | refine calling (c) ?_ | refine callingH (c) ?_ | refine And.intro (by omega) ?_ | refine And.intro (fun d hd => by (repeat (rcases hd with rfl | hd; · exact ⟨rfl, rfl⟩)); cases hd) ?_))
    refine ⟨a.length - (j + 1), by omega, j + 1, by omega, rfl, ?_, ?_, ?_, hr⟩
    · simp (maxSteps := 4000000) only [go_sem, ↓reduceIte, reduceCtorEq, Nat.reduceEqDiff, Nat.reduceBEq, Nat.reduceAdd, Nat.reduceSub, Nat.reduceMul, Nat.reduceLT, Nat.reduceLeDiff, Nat.reduceBNe, Int.reduceBEq, Int.reduceBNe, Int.reduceLT, Int.reduceLE, Par.a, Opr.a, Ans.a, nul, t0]
    · simp (maxSteps := 4000000) only [go_sem, ↓reduceIte, reduceCtorEq, Nat.reduceEqDiff, Nat.reduceBEq, Nat.reduceAdd, Nat.reduceSub, Nat.reduceMul, Nat.reduceLT, Nat.reduceLeDiff, Nat.reduceBNe, Int.reduceBEq, Int.reduceBNe, Int.reduceLT, Int.reduceLE, Par.a, Opr.a, Ans.a, nul, t1]
    · simp (maxSteps := 4000000) only [go_sem, ↓reduceIte, reduceCtorEq, Nat.reduceEqDiff, Nat.reduceBEq, Nat.reduceAdd, Nat.reduceSub, Nat.reduceMul, Nat.reduceLT, Nat.reduceLeDiff, Nat.reduceBNe, Int.reduceBEq, Int.reduceBNe, Int.reduceLT, Int.reduceLE, Par.a, Opr.a, Ans.a, nul, hw]
/-- was an event under way as another one began? -/
def undB (at_ e : Evt) : Bool := decide (e.began ≤ at_.began) && !(e.done && decide (e.ended < at_.began))
def undN (l : List Evt) (x : Evt) : Nat := l.countP (undB x)
def mostGo (l : List Evt) : Nat → List Evt → Nat
  | m, [] => m
  | m, x :: r => mostGo l (max m (undN l x)) r
def mostF (l : List Evt) : Nat := mostGo l 0 l
theorem countP_drop {p : Evt → Bool} {l : List Evt} {j : Nat} {x : Evt} (h : l[j]? = some x) : (l.drop j).countP p = (if p x then 1 else 0) + (l.drop (j + 1)).countP p := by
  rw [drop_at h, List.countP_cons, Nat.add_comm]
theorem undN_le (l : List Evt) (x : Evt) : undN l x ≤ l.length := List.countP_le_length
def hmO (l : List Evt) (R : Nat) (k : Nat) (σ : St) : Prop :=
  ∃ j m : Nat, j ≤ l.length ∧ k = l.length - j ∧ m ≤ l.length ∧ σ.T 0 = .sl (l.map Evt.a) ∧ σ.T 9 = .sl (l.map Evt.a) ∧ σ.T 10 = .int .i64 l.length ∧ σ.T 11 = .int .i64 j ∧ σ.T 3 = .int .i64 m ∧ mostGo l m (l.drop j) = R
def hmI (l : List Evt) (j m : Nat) (x : Evt) (k : Nat) (σ : St) : Prop :=
  ∃ i n : Nat, i ≤ l.length ∧ k = l.length - i ∧ n ≤ i ∧ σ.T 0 = .sl (l.map Evt.a) ∧ σ.T 9 = .sl (l.map Evt.a) ∧ σ.T 10 = .int .i64 l.length ∧ σ.T 11 = .int .i64 j ∧ σ.T 3 = .int .i64 m ∧
    σ.T 5 = .ptr 5 0 0 ∧ σ.H 5 = some ⟨15, 32, [x.a], 0⟩ ∧ σ.T 15 = .sl (l.map Evt.a) ∧ σ.T 16 = .int .i64 l.length ∧ σ.T 17 = .int .i64 i ∧ σ.T 6 = .int .i64 n ∧ n + (l.drop i).countP (undB x) = undN l x
set_option maxHeartbeats 4000000 in
theorem hMost_ok (l : List Evt) (hl : l.length ≤ 1000000) : AFn Try.prog 18 [.sl (l.map Evt.a)] (.int .i64 (mostF l)) := by
  refine fn_hMost rfl ?_
  obtain ⟨R, hR⟩ : ∃ R, mostF l = R := ⟨_, rfl⟩
  rw [hR]
  simp (maxSteps := 4000000) only [go_sem, ↓reduceIte, reduceCtorEq, Nat.reduceEqDiff, Nat.reduceBEq, Nat.reduceAdd, Nat.reduceSub, Nat.reduceMul, Nat.reduceLT, Nat.reduceLeDiff, Nat.reduceBNe, Int.reduceBEq, Int.reduceBNe, Int.reduceLT, Int.reduceLE, Par.a, Opr.a, Ans.a, nul, List.length_map]
  refine run_loop (hmO l R) (k := l.length) ⟨0, 0, Nat.zero_le _, rfl, Nat.zero_le _, ?_, ?_, ?_, ?_, ?_, hR⟩ ?_
  · (simp (maxSteps := 4000000) only [go_sem, ↓reduceIte, reduceCtorEq, Nat.reduceEqDiff, Nat.reduceBEq, Nat.reduceAdd, Nat.reduceSub, Nat.reduceMul, Nat.reduceLT, Nat.reduceLeDiff, Nat.reduceBNe, Int.reduceBEq, Int.reduceBNe, Int.reduceLT, Int.reduceLE, Par.a, Opr.a, Ans.a, nul]) <;> rfl
  · (simp (maxSteps := 4000000) only [go_sem, ↓reduceIte, reduceCtorEq, Nat.reduceEqDiff, Nat.reduceBEq, Nat.reduceAdd, Nat.reduceSub, Nat.reduceMul, Nat.reduceLT, Nat.reduceLeDiff, Nat.reduceBNe, Int.reduceBEq, Int.reduceBNe, Int.reduceLT, Int.reduceLE, Par.a, Opr.a, Ans.a, nul]) <;> rfl
  · (simp (maxSteps := 4000000) only [go_sem, ↓reduceIte, reduceCtorEq, Nat.reduceEqDiff, Nat.reduceBEq, Nat.reduceAdd, Nat.reduceSub, Nat.reduceMul, Nat.reduceLT, Nat.reduceLeDiff, Nat.reduceBNe, Int.reduceBEq, Int.reduceBNe, Int.reduceLT, Int.reduceLE, Par.a, Opr.a, Ans.a, nul, List.length_map]) <;> rfl
  · (simp (maxSteps := 4000000) only [go_sem, ↓reduceIte, reduceCtorEq, Nat.reduceEqDiff, Nat.reduceBEq, Nat.reduceAdd, Nat.reduceSub, Nat.reduceMul, Nat.reduceLT, Nat.reduceLeDiff, Nat.reduceBNe, Int.reduceBEq, Int.reduceBNe, Int.reduceLT, Int.reduceLE, Par.a, Opr.a, Ans.a, nul]) <;> rfl
  · (simp (maxSteps := 4000000) only [go_sem, ↓reduceIte, reduceCtorEq, Nat.reduceEqDiff, Nat.reduceBEq, Nat.reduceAdd, Nat.reduceSub, Nat.reduceMul, Nat.reduceLT, Nat.reduceLeDiff, Nat.reduceBNe, Int.reduceBEq, Int.reduceBNe, Int.reduceLT, Int.reduceLE, Par.a, Opr.a, Ans.a, nul]) <;> rfl
  clear hR
  rintro k σ ⟨j, m, hj, rfl, hm, t0, t9, t10, t11, t3, hr⟩
  simp only [r_hMost_l15]
  by_cases hlt : j < l.length
  case neg =>
    have hlt' : ¬ (j : Int) < (l.length : Int) := by omega
    rw [List.drop_eq_nil_of_le (by omega), mostGo] at hr
    subst hr
    simp (maxSteps := 4000000) only [go_sem, ↓reduceIte, reduceCtorEq, Nat.reduceEqDiff, Nat.reduceBEq, Nat.reduceAdd, Nat.reduceSub, Nat.reduceMul, Nat.reduceLT, Nat.reduceLeDiff, Nat.reduceBNe, Int.reduceBEq, Int.reduceBNe, Int.reduceLT, Int.reduceLE, Par.a, Opr.a, Ans.a, nul, t0, t9, t10, t11, t3, hlt']
  have hlt' : (j : Int) < (l.length : Int) := by omega
  obtain ⟨x, hx⟩ := get_lt hlt
  have hgx := at_map (f := Evt.a) hx
  simp only [Evt.a] at hgx
  have hw := wrapS (j := j) (by omega)
  rw [drop_at hx, mostGo] at hr
  have hun := undN_le l x
  simp (maxSteps := 4000000) only [go_sem, ↓reduceIte, reduceCtorEq, Nat.reduceEqDiff, Nat.reduceBEq, Nat.reduceAdd, Nat.reduceSub, Nat.reduceMul, Nat.reduceLT, Nat.reduceLeDiff, Nat.reduceBNe, Int.reduceBEq, Int.reduceBNe, Int.reduceLT, Int.reduceLE, Par.a, Opr.a, Ans.a, nul, t0, t9, t10, t11, t3, hlt', hgx, hlt, List.length_map, Int.toNat_natCast]
  (repeat refine And.intro (by omega) ?_)
  refine run_loop (hmI l j m x) (k := l.length) ⟨0, 0, Nat.zero_le _, rfl, Nat.zero_le _, ?_, ?_, ?_, ?_, ?_, ?_, ?_, ?_, ?_, ?_, ?_, Nat.zero_add _⟩ ?_
  · simp (maxSteps := 4000000) only [go_sem, ↓reduceIte, reduceCtorEq, Nat.reduceEqDiff, Nat.reduceBEq, Nat.reduceAdd, Nat.reduceSub, Nat.reduceMul, Nat.reduceLT, Nat.reduceLeDiff, Nat.reduceBNe, Int.reduceBEq, Int.reduceBNe, Int.reduceLT, Int.reduceLE, Par.a, Opr.a, Ans.a, nul, t0]
  · simp (maxSteps := 4000000) only [go_sem, ↓reduceIte, reduceCtorEq, Nat.reduceEqDiff, Nat.reduceBEq, Nat.reduceAdd, Nat.reduceSub, Nat.reduceMul, Nat.reduceLT, Nat.reduceLeDiff, Nat.reduceBNe, Int.reduceBEq, Int.reduceBNe, Int.reduceLT, Int.reduceLE, Par.a, Opr.a, Ans.a, nul, t9]
  · simp (maxSteps := 4000000) only [go_sem, ↓reduceIte, reduceCtorEq, Nat.reduceEqDiff, Nat.reduceBEq, Nat.reduceAdd, Nat.reduceSub, Nat.reduceMul, Nat.reduceLT, Nat.reduceLeDiff, Nat.reduceBNe, Int.reduceBEq, Int.reduceBNe, Int.reduceLT, Int.reduceLE, Par.a, Opr.a, Ans.a, nul, t10]
  · simp (maxSteps := 4000000) only [go_sem, ↓reduceIte, reduceCtorEq, Nat.reduceEqDiff, Nat.reduceBEq, Nat.reduceAdd, Nat.reduceSub, Nat.reduceMul, Nat.reduceLT, Nat.reduceLeDiff, Nat.reduceBNe, Int.reduceBEq, Int.reduceBNe, Int.reduceLT, Int.reduceLE, Par.a, Opr.a, Ans.a, nul, t11]
  · simp (maxSteps := 4000000) only [go_sem, ↓reduceIte, reduceCtorEq, Nat.reduceEqDiff, Nat.reduceBEq, Nat.reduceAdd, Nat.reduceSub, Nat.reduceMul, Nat.reduceLT, Nat.reduceLeDiff, Nat.reduceBNe, Int.reduceBEq, Int.reduceBNe, Int.reduceLT, Int.reduceLE, Par.a, Opr.a, Ans.a, nul, t3]
  · simp (maxSteps := 4000000) only [go_sem, ↓reduceIte, reduceCtorEq, Nat.reduceEqDiff, Nat.reduceBEq, Nat.reduceAdd, Nat.reduceSub, Nat.reduceMul, Nat.reduceLT, Nat.reduceLeDiff, Nat.reduceBNe, Int.reduceBEq, Int.reduceBNe, Int.reduceLT, Int.reduceLE, Par.a, Opr.a, Ans.a, nul]
  · (simp (maxSteps := 4000000) only [go_sem, ↓reduceIte, reduceCtorEq, Nat.reduceEqDiff, Nat.reduceBEq, Nat.reduceAdd, Nat.reduceSub, Nat.reduceMul, Nat.reduceLT, Nat.reduceLeDiff, Nat.reduceBNe, Int.reduceBEq, Int.reduceBNe, Int.reduceLT, Int.reduceLE, Par.a, Opr.a, Ans.a, nul, Evt.a]) <;> rfl
  · simp (maxSteps := 4000000) only [go_sem, ↓reduceIte, reduceCtorEq, Nat.reduceEqDiff, Nat.reduceBEq, Nat.reduceAdd, Nat.reduceSub, Nat.reduceMul, Nat.reduceLT, Nat.reduceLeDiff, Nat.reduceBNe, Int.reduceBEq, Int.reduceBNe, Int.reduceLT, Int.reduceLE, Par.a, Opr.a, Ans.a, nul, t0]
  · simp (maxSteps := 4000000) only [go_sem, ↓reduceIte, reduceCtorEq, Nat.reduceEqDiff, Nat.reduceBEq, Nat.reduceAdd, Nat.reduceSub, Nat.reduceMul, Nat.reduceLT, Nat.reduceLeDiff, Nat.reduceBNe, Int.reduceBEq, Int.reduceBNe, Int.reduceLT, Int.reduceLE, Par.a, Opr.a, Ans.a, nul, t0, List.length_map]
  · (simp (maxSteps := 4000000) only [go_sem, ↓reduceIte, reduceCtorEq, Nat.reduceEqDiff, Nat.reduceBEq, Nat.reduceAdd, Nat.reduceSub, Nat.reduceMul, Nat.reduceLT, Nat.reduceLeDiff, Nat.reduceBNe, Int.reduceBEq, Int.reduceBNe, Int.reduceLT, Int.reduceLE, Par.a, Opr.a, Ans.a, nul]) <;> rfl
  · (simp (maxSteps := 4000000) only [go_sem, ↓reduceIte, reduceCtorEq, Nat.reduceEqDiff, Nat.reduceBEq, Nat.reduceAdd, Nat.reduceSub, Nat.reduceMul, Nat.reduceLT, Nat.reduceLeDiff, Nat.reduceBNe, Int.reduceBEq, Int.reduceBNe, Int.reduceLT, Int.reduceLE, Par.a, Opr.a, Ans.a, nul]) <;> rfl
  clear t0 t9 t10 t11 t3 hgx
  rintro k2 σ ⟨i, n, hi, rfl, hn, t0, t9, t10, t11, t3, t5, h5, t15, t16, t17, t6, hc⟩
  simp only [r_hMost_l12]
  have h5' := h5
  simp only [Evt.a] at h5'
  by_cases hlt2 : i < l.length
  case neg =>
    have hlt2' : ¬ (i : Int) < (l.length : Int) := by omega
    rw [List.drop_eq_nil_of_le (by omega), List.countP_nil, Nat.add_zero] at hc
    subst hc
    have hmx : (if (m : Int) < (undN l x : Int) then (undN l x : Int) else (m : Int)) = ((max m (undN l x) : Nat) : Int) := by
      split <;> omega
    simp (maxSteps := 4000000) only [go_sem, ↓reduceIte, reduceCtorEq, Nat.reduceEqDiff, Nat.reduceBEq, Nat.reduceAdd, Nat.reduceSub, Nat.reduceMul, Nat.reduceLT, Nat.reduceLeDiff, Nat.reduceBNe, Int.reduceBEq, Int.reduceBNe, Int.reduceLT, Int.reduceLE, Par.a, Opr.a, Ans.a, nul, t0, t9, t10, t11, t3, t5, h5', t15, t16, t17, t6, hlt2', hw, hmx]
    refine ⟨l.length - (j + 1), by omega, j + 1, max m (undN l x), by omega, rfl, by omega, ?_, ?_, ?_, ?_, ?_, hr⟩
    · simp (maxSteps := 4000000) only [go_sem, ↓reduceIte, reduceCtorEq, Nat.reduceEqDiff, Nat.reduceBEq, Nat.reduceAdd, Nat.reduceSub, Nat.reduceMul, Nat.reduceLT, Nat.reduceLeDiff, Nat.reduceBNe, Int.reduceBEq, Int.reduceBNe, Int.reduceLT, Int.reduceLE, Par.a, Opr.a, Ans.a, nul, t0]
    · simp (maxSteps := 4000000) only [go_sem, ↓reduceIte, reduceCtorEq, Nat.reduceEqDiff, Nat.reduceBEq, Nat.reduceAdd, Nat.reduceSub, Nat.reduceMul, Nat.reduceLT, Nat.reduceLeDiff, Nat.reduceBNe, Int.reduceBEq, Int.reduceBNe, Int.reduceLT, Int.reduceLE, Par.a, Opr.a, Ans.a, nul, t9]
    · simp (maxSteps := 4000000) only [go_sem, ↓reduceIte, reduceCtorEq, Nat.reduceEqDiff, Nat.reduceBEq, Nat.reduceAdd, Nat.reduceSub, Nat.reduceMul, Nat.reduceLT, Nat.reduceLeDiff, Nat.reduceBNe, Int.reduceBEq, Int.reduceBNe, Int.reduceLT, Int.reduceLE, Par.a, Opr.a, Ans.a, nul, t10]
    · simp (maxSteps := 4000000) only [go_sem, ↓reduceIte, reduceCtorEq, Nat.reduceEqDiff, Nat.reduceBEq, Nat.reduceAdd, Nat.reduceSub, Nat.reduceMul, Nat.reduceLT, Nat.reduceLeDiff, Nat.reduceBNe, Int.reduceBEq, Int.reduceBNe, Int.reduceLT, Int.reduceLE, Par.a, Opr.a, Ans.a, nul, hw]
    · simp (maxSteps := 4000000) only [go_sem, ↓reduceIte, reduceCtorEq, Nat.reduceEqDiff, Nat.reduceBEq, Nat.reduceAdd, Nat.reduceSub, Nat.reduceMul, Nat.reduceLT, Nat.reduceLeDiff, Nat.reduceBNe, Int.reduceBEq, Int.reduceBNe, Int.reduceLT, Int.reduceLE, Par.a, Opr.a, Ans.a, nul, hmx]
  have hlt2' : (i : Int) < (l.length : Int) := by omega
  obtain ⟨y, hy⟩ := get_lt hlt2
  have hgy := at_map (f := Evt.a) hy
  simp only [Evt.a] at hgy
  have hwi := wrapS (j := i) (by omega)
  have hwn := wrapS (j := n) (by omega)
  rw [countP_drop hy] at hc
  have fin : ∀ (b : Bool) (σ' : St), undB x y = b → σ'.T 0 = .sl (l.map Evt.a) → σ'.T 9 = .sl (l.map Evt.a) → σ'.T 10 = .int .i64 l.length → σ'.T 11 = .int .i64 j → σ'.T 3 = .int .i64 m → σ'.T 5 = .ptr 5 0 0 → σ'.H 5 = some ⟨15, 32, [x.a], 0⟩ → σ'.T 15 = .sl (l.map Evt.a) → σ'.T 16 = .int .i64 l.length → σ'.T 17 = .int .i64 ((i + 1 : Nat) : Int) → σ'.T 6 = .int .i64 ((n + (if b then 1 else 0) : Nat) : Int) → ∃ q, q < l.length - i ∧ hmI l j m x q σ' := by
    intro b σ' hb a0 a9 a10 a11 a3 a5 g5 a15 a16 a17 a6
    rw [hb] at hc
    exact ⟨l.length - (i + 1), by omega, i + 1, n + (if b then 1 else 0), by omega, rfl, by split <;> omega, a0, a9, a10, a11, a3, a5, g5, a15, a16, a17, a6, by rw [← hc, Nat.add_assoc]⟩
  by_cases c1 : y.began ≤ x.began
  · cases hd : y.done
    · simp (maxSteps := 4000000) only [go_sem, ↓reduceIte, reduceCtorEq, Nat.reduceEqDiff, Nat.reduceBEq, Nat.reduceAdd, Nat.reduceSub, Nat.reduceMul, Nat.reduceLT, Nat.reduceLeDiff, Nat.reduceBNe, Int.reduceBEq, Int.reduceBNe, Int.reduceLT, Int.reduceLE, Par.a, Opr.a, Ans.a, nul, t0, t9, t10, t11, t3, t5, h5', t15, t16, t17, t6, hlt2', hgy, hwi, hwn, hlt2, c1, hd, List.length_map, Int.toNat_natCast]
      (repeat refine And.intro (by omega) ?_)
      refine fin true _ ?_ ?_ ?_ ?_ ?_ ?_ ?_ ?_ ?_ ?_ ?_ ?_
      · unfold undB; simp [c1, hd]
      · simp (maxSteps := 4000000) only [go_sem, ↓reduceIte, reduceCtorEq, Nat.reduceEqDiff, Nat.reduceBEq, Nat.reduceAdd, Nat.reduceSub, Nat.reduceMul, Nat.reduceLT, Nat.reduceLeDiff, Nat.reduceBNe, Int.reduceBEq, Int.reduceBNe, Int.reduceLT, Int.reduceLE, Par.a, Opr.a, Ans.a, nul, t0]
      · simp (maxSteps := 4000000) only [go_sem, ↓reduceIte, reduceCtorEq, Nat.reduceEqDiff, Nat.reduceBEq, Nat.reduceAdd, Nat.reduceSub, Nat.reduceMul, Nat.reduceLT, Nat.reduceLeDiff, Nat.reduceBNe, Int.reduceBEq, Int.reduceBNe, Int.reduceLT, Int.reduceLE, Par.a, Opr.a, Ans.a, nul, t9]
      · simp (maxSteps := 4000000) only [go_sem, ↓reduceIte, reduceCtorEq, Nat.reduceEqDiff, Nat.reduceBEq, Nat.reduceAdd, Nat.reduceSub, Nat.reduceMul, Nat.reduceLT, Nat.reduceLeDiff, Nat.reduceBNe, Int.reduceBEq, Int.reduceBNe, Int.reduceLT, Int.reduceLE, Par.a, Opr.a, Ans.a, nul, t10]
      · simp (maxSteps := 4000000) only [go_sem, ↓reduceIte, reduceCtorEq, Nat.reduceEqDiff, Nat.reduceBEq, Nat.reduceAdd, Nat.reduceSub, Nat.reduceMul, Nat.reduceLT, Nat.reduceLeDiff, Nat.reduceBNe, Int.reduceBEq, Int.reduceBNe, Int.reduceLT, Int.reduceLE, Par.a, Opr.a, Ans.a, nul, t11]
      · simp (maxSteps := 4000000) only [go_sem, ↓reduceIte, reduceCtorEq, Nat.reduceEqDiff, Nat.reduceBEq, Nat.reduceAdd, Nat.reduceSub, Nat.reduceMul, Nat.reduceLT, Nat.reduceLeDiff, Nat.reduceBNe, Int.reduceBEq, Int.reduceBNe, Int.reduceLT, Int.reduceLE, Par.a, Opr.a, Ans.a, nul, t3]
      · simp (maxSteps := 4000000) only [go_sem, ↓reduceIte, reduceCtorEq, Nat.reduceEqDiff, Nat.reduceBEq, Nat.reduceAdd, Nat.reduceSub, Nat.reduceMul, Nat.reduceLT, Nat.reduceLeDiff, Nat.reduceBNe, Int.reduceBEq, Int.reduceBNe, Int.reduceLT, Int.reduceLE, Par.a, Opr.a, Ans.a, nul, t5]
      · simp (maxSteps := 4000000) only [go_sem, ↓reduceIte, reduceCtorEq, Nat.reduceEqDiff, Nat.reduceBEq, Nat.reduceAdd, Nat.reduceSub, Nat.reduceMul, Nat.reduceLT, Nat.reduceLeDiff, Nat.reduceBNe, Int.reduceBEq, Int.reduceBNe, Int.reduceLT, Int.reduceLE, Par.a, Opr.a, Ans.a, nul, h5]
      · simp (maxSteps := 4000000) only [go_sem, ↓reduceIte, reduceCtorEq, Nat.reduceEqDiff, Nat.reduceBEq, Nat.reduceAdd, Nat.reduceSub, Nat.reduceMul, Nat.reduceLT, Nat.reduceLeDiff, Nat.reduceBNe, Int.reduceBEq, Int.reduceBNe, Int.reduceLT, Int.reduceLE, Par.a, Opr.a, Ans.a, nul, t15]
      · simp (maxSteps := 4000000) only [go_sem, ↓reduceIte, reduceCtorEq, Nat.reduceEqDiff, Nat.reduceBEq, Nat.reduceAdd, Nat.reduceSub, Nat.reduceMul, Nat.reduceLT, Nat.reduceLeDiff, Nat.reduceBNe, Int.reduceBEq, Int.reduceBNe, Int.reduceLT, Int.reduceLE, Par.a, Opr.a, Ans.a, nul, t16]
      · simp (maxSteps := 4000000) only [go_sem, ↓reduceIte, reduceCtorEq, Nat.reduceEqDiff, Nat.reduceBEq, Nat.reduceAdd, Nat.reduceSub, Nat.reduceMul, Nat.reduceLT, Nat.reduceLeDiff, Nat.reduceBNe, Int.reduceBEq, Int.reduceBNe, Int.reduceLT, Int.reduceLE, Par.a, Opr.a, Ans.a, nul, hwi]
      · simp (maxSteps := 4000000) only [go_sem, ↓reduceIte, reduceCtorEq, Nat.reduceEqDiff, Nat.reduceBEq, Nat.reduceAdd, Nat.reduceSub, Nat.reduceMul, Nat.reduceLT, Nat.reduceLeDiff, Nat.reduceBNe, Int.reduceBEq, Int.reduceBNe, Int.reduceLT, Int.reduceLE, Par.a, Opr.a, Ans.a, nul, hwn]
    · by_cases c2 : y.ended < x.began
      · have c2' : ¬ x.began ≤ y.ended := by omega
        simp (maxSteps := 4000000) only [go_sem, ↓reduceIte, reduceCtorEq, Nat.reduceEqDiff, Nat.reduceBEq, Nat.reduceAdd, Nat.reduceSub, Nat.reduceMul, Nat.reduceLT, Nat.reduceLeDiff, Nat.reduceBNe, Int.reduceBEq, Int.reduceBNe, Int.reduceLT, Int.reduceLE, Par.a, Opr.a, Ans.a, nul, t0, t9, t10, t11, t3, t5, h5', t15, t16, t17, t6, hlt2', hgy, hwi, hwn, hlt2, c1, hd, c2, c2', List.length_map, Int.toNat_natCast]
        (repeat refine And.intro (by omega) ?_)
        refine fin false _ ?_ ?_ ?_ ?_ ?_ ?_ ?_ ?_ ?_ ?_ ?_ ?_
        · unfold undB; simp [c1, hd, c2, c2']
        · simp (maxSteps := 4000000) only [go_sem, ↓reduceIte, reduceCtorEq, Nat.reduceEqDiff, Nat.reduceBEq, Nat.reduceAdd, Nat.reduceSub, Nat.reduceMul, Nat.reduceLT, Nat.reduceLeDiff, Nat.reduceBNe, Int.reduceBEq, Int.reduceBNe, Int.reduceLT, Int.reduceLE, Par.a, Opr.a, Ans.a, nul, t0]
        · simp (maxSteps := 4000000) only [go_sem, ↓reduceIte, reduceCtorEq, Nat.reduceEqDiff, Nat.reduceBEq, Nat.reduceAdd, Nat.reduceSub, Nat.reduceMul, Nat.reduceLT, Nat.reduceLeDiff, Nat.reduceBNe, Int.reduceBEq, Int.reduceBNe, Int.reduceLT, Int.reduceLE, Par.a, Opr.a, Ans.a, nul, t9]
        · simp (maxSteps := 4000000) only [go_sem, ↓reduceIte, reduceCtorEq, Nat.reduceEqDiff, Nat.reduceBEq, Nat.reduceAdd, Nat.reduceSub, Nat.reduceMul, Nat.reduceLT, Nat.reduceLeDiff, Nat.reduceBNe, Int.reduceBEq, Int.reduceBNe, Int.reduceLT, Int.reduceLE, Par.a, Opr.a, Ans.a, nul, t10]
        · simp (maxSteps := 4000000) only [go_sem, ↓reduceIte, reduceCtorEq, Nat.reduceEqDiff, Nat.reduceBEq, Nat.reduceAdd, Nat.reduceSub, Nat.reduceMul, Nat.reduceLT, Nat.reduceLeDiff, Nat.reduceBNe, Int.reduceBEq, Int.reduceBNe, Int.reduceLT, Int.reduceLE, Par.a, Opr.a, Ans.a, nul, t11]
        · simp (maxSteps := 4000000) only [go_sem, ↓reduceIte, reduceCtorEq, Nat.reduceEqDiff, Nat.reduceBEq, Nat.reduceAdd, Nat.reduceSub, Nat.reduceMul, Nat.reduceLT, Nat.reduceLeDiff, Nat.reduceBNe, Int.reduceBEq, Int.reduceBNe, Int.reduceLT, Int.reduceLE, Par.a, Opr.a, Ans.a, nul, t3]
        · simp (maxSteps := 4000000) only [go_sem, ↓reduceIte, reduceCtorEq, Nat.reduceEqDiff, Nat.reduceBEq, Nat.reduceAdd, Nat.reduceSub, Nat.reduceMul, Nat.reduceLT, Nat.reduceLeDiff, Nat.reduceBNe, Int.reduceBEq, Int.reduceBNe, Int.reduceLT, Int.reduceLE, Par.a, Opr.a, Ans.a, nul, t5]
        · simp (maxSteps := 4000000) only [go_sem, ↓reduceIte, reduceCtorEq, Nat.reduceEqDiff, Nat.reduceBEq, Nat.reduceAdd, Nat.reduceSub, Nat.reduceMul, Nat.reduceLT, Nat.reduceLeDiff, Nat.reduceBNe, Int.reduceBEq, Int.reduceBNe, Int.reduceLT, Int.reduceLE, Par.a, Opr.a, Ans.a, nul, h5]
        · simp (maxSteps := 4000000) only [go_sem, ↓reduceIte, reduceCtorEq, Nat.reduceEqDiff, Nat.reduceBEq, Nat.reduceAdd, Nat.reduceSub, Nat.reduceMul, Nat.reduceLT, Nat.reduceLeDiff, Nat.reduceBNe, Int.reduceBEq, Int.reduceBNe, Int.reduceLT, Int.reduceLE, Par.a, Opr.a, Ans.a, nul, t15]
        · simp (maxSteps := 4000000) only [go_sem, ↓reduceIte, reduceCtorEq, Nat.reduceEqDiff, Nat.reduceBEq, Nat.reduceAdd, Nat.reduceSub, Nat.reduceMul, Nat.reduceLT, Nat.reduceLeDiff, Nat.reduceBNe, Int.reduceBEq, Int.reduceBNe, Int.reduceLT, Int.reduceLE, Par.a, Opr.a, Ans.a, nul, t16]
        · simp (maxSteps := 4000000) only [go_sem, ↓reduceIte, reduceCtorEq, Nat.reduceEqDiff, Nat.reduceBEq, Nat.reduceAdd, Nat.reduceSub, Nat.reduceMul, Nat.reduceLT, Nat.reduceLeDiff, Nat.reduceBNe, Int.reduceBEq, Int.reduceBNe, Int.reduceLT, Int.reduceLE, Par.a, Opr.a, Ans.a, nul, hwi]
        · simp (maxSteps := 4000000) only [go_sem, ↓reduceIte, reduceCtorEq, Nat.reduceEqDiff, Nat.reduceBEq, Nat.reduceAdd, Nat.reduceSub, Nat.reduceMul, Nat.reduceLT, Nat.reduceLeDiff, Nat.reduceBNe, Int.reduceBEq, Int.reduceBNe, Int.reduceLT, Int.reduceLE, Par.a, Opr.a, Ans.a, nul, t6]
      · have c2' : x.began ≤ y.ended := by omega
        simp (maxSteps := 4000000) only [go_sem, ↓reduceIte, reduceCtorEq, Nat.reduceEqDiff, Nat.reduceBEq, Nat.reduceAdd, Nat.reduceSub, Nat.reduceMul, Nat.reduceLT, Nat.reduceLeDiff, Nat.reduceBNe, Int.reduceBEq, Int.reduceBNe, Int.reduceLT, Int.reduceLE, Par.a, Opr.a, Ans.a, nul, t0, t9, t10, t11, t3, t5, h5', t15, t16, t17, t6, hlt2', hgy, hwi, hwn, hlt2, c1, hd, c2, c2', List.length_map, Int.toNat_natCast]
        (repeat refine And.intro (by omega) ?_)
        refine fin true _ ?_ ?_ ?_ ?_ ?_ ?_ ?_ ?_ ?_ ?_ ?_ ?_
        · unfold undB; simp [c1, hd, c2, c2']
        · simp (maxSteps := 4000000) only [go_sem, ↓reduceIte, reduceCtorEq, Nat.reduceEqDiff, Nat.reduceBEq, Nat.reduceAdd, Nat.reduceSub, Nat.reduceMul, Nat.reduceLT, Nat.reduceLeDiff, Nat.reduceBNe, Int.reduceBEq, Int.reduceBNe, Int.reduceLT, Int.reduceLE, Par.a, Opr.a, Ans.a, nul, t0]
        · simp (maxSteps := 4000000) only [go_sem, ↓reduceIte, reduceCtorEq, Nat.reduceEqDiff, Nat.reduceBEq, Nat.reduceAdd, Nat.reduceSub, Nat.reduceMul, Nat.reduceLT, Nat.reduceLeDiff, Nat.reduceBNe, Int.reduceBEq, Int.reduceBNe, Int.reduceLT, Int.reduceLE, Par.a, Opr.a, Ans.a, nul, t9]
        · simp (maxSteps := 4000000) only [go_sem, ↓reduceIte, reduceCtorEq, Nat.reduceEqDiff, Nat.reduceBEq, Nat.reduceAdd, Nat.reduceSub, Nat.reduceMul, Nat.reduceLT, Nat.reduceLeDiff, Nat.reduceBNe, Int.reduceBEq, Int.reduceBNe, Int.reduceLT, Int.reduceLE, Par.a, Opr.a, Ans.a, nul, t10]
        · simp (maxSteps := 4000000) only [go_sem, ↓reduceIte, reduceCtorEq, Nat.reduceEqDiff, Nat.reduceBEq, Nat.reduceAdd, Nat.reduceSub, Nat.reduceMul, Nat.reduceLT, Nat.reduceLeDiff, Nat.reduceBNe, Int.reduceBEq, Int.reduceBNe, Int.reduceLT, Int.reduceLE, Par.a, Opr.a, Ans.a, nul, t11]
        · simp (maxSteps := 4000000) only [go_sem, ↓reduceIte, reduceCtorEq, Nat.reduceEqDiff, Nat.reduceBEq, Nat.reduceAdd, Nat.reduceSub, Nat.reduceMul, Nat.reduceLT, Nat.reduceLeDiff, Nat.reduceBNe, Int.reduceBEq, Int.reduceBNe, Int.reduceLT, Int.reduceLE, Par.a, Opr.a, Ans.a, nul, t3]
        · simp (maxSteps := 4000000) only [go_sem, ↓reduceIte, reduceCtorEq, Nat.reduceEqDiff, Nat.reduceBEq, Nat.reduceAdd, Nat.reduceSub, Nat.reduceMul, Nat.reduceLT, Nat.reduceLeDiff, Nat.reduceBNe, Int.reduceBEq, Int.reduceBNe, Int.reduceLT, Int.reduceLE, Par.a, Opr.a, Ans.a, nul, t5]
        · simp (maxSteps := 4000000) only [go_sem, ↓reduceIte, reduceCtorEq, Nat.reduceEqDiff, Nat.reduceBEq, Nat.reduceAdd, Nat.reduceSub, Nat.reduceMul, Nat.reduceLT, Nat.reduceLeDiff, Nat.reduceBNe, Int.reduceBEq, Int.reduceBNe, Int.reduceLT, Int.reduceLE, Par.a, Opr.a, Ans.a, nul, h5]
        · simp (maxSteps := 4000000) only [go_sem, ↓reduceIte, reduceCtorEq, Nat.reduceEqDiff, Nat.reduceBEq, Nat.reduceAdd, Nat.reduceSub, Nat.reduceMul, Nat.reduceLT, Nat.reduceLeDiff, Nat.reduceBNe, Int.reduceBEq, Int.reduceBNe, Int.reduceLT, Int.reduceLE, Par.a, Opr.a, Ans.a, nul, t15]
        · simp (maxSteps := 4000000) only [go_sem, ↓reduceIte, reduceCtorEq, Nat.reduceEqDiff, Nat.reduceBEq, Nat.reduceAdd, Nat.reduceSub, Nat.reduceMul, Nat.reduceLT, Nat.reduceLeDiff, Nat.reduceBNe, Int.reduceBEq, Int.reduceBNe, Int.reduceLT, Int.reduceLE, Par.a, Opr.a, Ans.a, nul, t16]
        · simp (maxSteps := 4000000) only [go_sem, ↓reduceIte, reduceCtorEq, Nat.reduceEqDiff, Nat.reduceBEq, Nat.reduceAdd, Nat.reduceSub, Nat.reduceMul, Nat.reduceLT, Nat.reduceLeDiff, Nat.reduceBNe, Int.reduceBEq, Int.reduceBNe, Int.reduceLT, Int.reduceLE, Par.a, Opr.a, Ans.a, nul, hwi]
        · simp (maxSteps := 4000000) only [go_sem, ↓reduceIte, reduceCtorEq, Nat.reduceEqDiff, Nat.reduceBEq, Nat.reduceAdd, Nat.reduceSub, Nat.reduceMul, Nat.reduceLT, Nat.reduceLeDiff, Nat.reduceBNe, Int.reduceBEq, Int.reduceBNe, Int.reduceLT, Int.reduceLE, Par.a, Opr.a, Ans.a, nul, hwn]
  · simp (maxSteps := 4000000) only [go_sem, ↓reduceIte, reduceCtorEq, Nat.reduceEqDiff, Nat.reduceBEq, Nat.reduceAdd, Nat.reduceSub, Nat.reduceMul, Nat.reduceLT, Nat.reduceLeDiff, Nat.reduceBNe, Int.reduceBEq, Int.reduceBNe, Int.reduceLT, Int.reduceLE, Par.a, Opr.a, Ans.a, nul, t0, t9, t10, t11, t3, t5, h5', t15, t16, t17, t6, hlt2', hgy, hwi, hwn, hlt2, c1, List.length_map, Int.toNat_natCast]
    (repeat refine And.intro (by omega) ?_)
    refine fin false _ ?_ ?_ ?_ ?_ ?_ ?_ ?_ ?_ ?_ ?_ ?_ ?_
    · unfold undB; simp [c1]
    · simp (maxSteps := 4000000) only [go_sem, ↓reduceIte, reduceCtorEq, Nat.reduceEqDiff, Nat.reduceBEq, Nat.reduceAdd, Nat.reduceSub, Nat.reduceMul, Nat.reduceLT, Nat.reduceLeDiff, Nat.reduceBNe, Int.reduceBEq, Int.reduceBNe, Int.reduceLT, Int.reduceLE, Par.a, Opr.a, Ans.a, nul, t0]
    · simp (maxSteps := 4000000) only [go_sem, ↓reduceIte, reduceCtorEq, Nat.reduceEqDiff, Nat.reduceBEq, Nat.reduceAdd, Nat.reduceSub, Nat.reduceMul, Nat.reduceLT, Nat.reduceLeDiff, Nat.reduceBNe, Int.reduceBEq, Int.reduceBNe, Int.reduceLT, Int.reduceLE, Par.a, Opr.a, Ans.a, nul, t9]
    · simp (maxSteps := 4000000) only [go_sem, ↓reduceIte, reduceCtorEq, Nat.reduceEqDiff, Nat.reduceBEq, Nat.reduceAdd, Nat.reduceSub, Nat.reduceMul, Nat.reduceLT, Nat.reduceLeDiff, Nat.reduceBNe, Int.reduceBEq, Int.reduceBNe, Int.reduceLT, Int.reduceLE, Par.a, Opr.a, Ans.a, nul, t10]
    · simp (maxSteps := 4000000) only [go_sem, ↓reduceIte, reduceCtorEq, Nat.reduceEqDiff, Nat.reduceBEq, Nat.reduceAdd, Nat.reduceSub, Nat.reduceMul, Nat.reduceLT, Nat.reduceLeDiff, Nat.reduceBNe, Int.reduceBEq, Int.reduceBNe, Int.reduceLT, Int.reduceLE, Par.a, Opr.a, Ans.a, nul, t11]
    · simp (maxSteps := 4000000) only [go_sem, ↓reduceIte, reduceCtorEq, Nat.reduceEqDiff, Nat.reduceBEq, Nat.reduceAdd, Nat.reduceSub, Nat.reduceMul, Nat.reduceLT, Nat.reduceLeDiff, Nat.reduceBNe, Int.reduceBEq, Int.reduceBNe, Int.reduceLT, Int.reduceLE, Par.a, Opr.a, Ans.a, nul, t3]
    · simp (maxSteps := 4000000) only [go_sem, ↓reduceIte, reduceCtorEq, Nat.reduceEqDiff, Nat.reduceBEq, Nat.reduceAdd, Nat.reduceSub, Nat.reduceMul, Nat.reduceLT, Nat.reduceLeDiff, Nat.reduceBNe, Int.reduceBEq, Int.reduceBNe, Int.reduceLT, Int.reduceLE, Par.a, Opr.a, Ans.a, nul, t5]
    · simp (maxSteps := 4000000) only [go_sem, ↓reduceIte, reduceCtorEq, Nat.reduceEqDiff, Nat.reduceBEq, Nat.reduceAdd, Nat.reduceSub, Nat.reduceMul, Nat.reduceLT, Nat.reduceLeDiff, Nat.reduceBNe, Int.reduceBEq, Int.reduceBNe, Int.reduceLT, Int.reduceLE, Par.a, Opr.a, Ans.a, nul, h5]
    · simp (maxSteps := 4000000) only [go_sem, ↓reduceIte, reduceCtorEq, Nat.reduceEqDiff, Nat.reduceBEq, Nat.reduceAdd, Nat.reduceSub, Nat.reduceMul, Nat.reduceLT, Nat.reduceLeDiff, Nat.reduceBNe, Int.reduceBEq, Int.reduceBNe, Int.reduceLT, Int.reduceLE, Par.a, Opr.a, Ans.a, nul, t15]
    · simp (maxSteps := 4000000) only [go_sem, ↓reduceIte, reduceCtorEq, Nat.reduceEqDiff, Nat.reduceBEq, Nat.reduceAdd, Nat.reduceSub, Nat.reduceMul, Nat.reduceLT, Nat.reduceLeDiff, Nat.reduceBNe, Int.reduceBEq, Int.reduceBNe, Int.reduceLT, Int.reduceLE, Par.a, Opr.a, Ans.a, nul, t16]
    · simp (maxSteps := 4000000) only [go_sem, ↓reduceIte, reduceCtorEq, Nat.reduceEqDiff, Nat.reduceBEq, Nat.reduceAdd, Nat.reduceSub, Nat.reduceMul, Nat.reduceLT, Nat.reduceLeDiff, Nat.reduceBNe, Int.reduceBEq, Int.reduceBNe, Int.reduceLT, Int.reduceLE, Par.a, Opr.a, Ans.a, nul, hwi]
    · simp (maxSteps := 4000000) only [go_sem, ↓reduceIte, reduceCtorEq, Nat.reduceEqDiff, Nat.reduceBEq, Nat.reduceAdd, Nat.reduceSub, Nat.reduceMul, Nat.reduceLT, Nat.reduceLeDiff, Nat.reduceBNe, Int.reduceBEq, Int.reduceBNe, Int.reduceLT, Int.reduceLE, Par.a, Opr.a, Ans.a, nul, t6]
end
section
/-
  Histories: how many events were under way, by the document: walked.
-/
open Go.RowKit
set_option linter.unusedVariables false
set_option linter.unusedSimpArgs false
set_option maxRecDepth 100000
attribute [local go_sem ↓] runOp headOp
attribute [local go_sem ↓] ir_rMost
attribute [local go_sem] res_rMost e_rMost_0 e_rMost_1 e_rMost_2 e_rMost_3 t_rMost_3 e_rMost_4 e_rMost_5 e_rMost_6 t_rMost_6 e_rMost_7 t_rMost_7 h_rMost_7 e_rMost_8 t_rMost_8 h_rMost_8 e_rMost_9 t_rMost_9 e_rMost_10 t_rMost_10 e_rMost_12 t_rMost_12 e_rMost_13 e_rMost_14 t_rMost_14 e_rMost_16
def rmO (l : List Evt) (R : Nat) (k : Nat) (σ : St) : Prop :=
  ∃ j m : Nat, j ≤ l.length ∧ k = l.length - j ∧ m ≤ l.length ∧ σ.T 0 = .sl (l.map Evt.a) ∧ σ.T 4 = .int .i64 j ∧ σ.T 3 = .int .i64 m ∧ mostGo l m (l.drop j) = R
def rmI (l : List Evt) (j m : Nat) (x : Evt) (k : Nat) (σ : St) : Prop :=
  ∃ i n : Nat, i ≤ l.length ∧ k = l.length - i ∧ n ≤ i ∧ σ.T 0 = .sl (l.map Evt.a) ∧ σ.T 4 = .int .i64 j ∧ σ.T 3 = .int .i64 m ∧ σ.T 6 = .int .i64 i ∧ σ.T 5 = .int .i64 n ∧ n + (l.drop i).countP (undB x) = undN l x
set_option maxHeartbeats 4000000 in
theorem rMost_ok (l : List Evt) (hl : l.length ≤ 1000000) : AFn Try.prog 19 [.sl (l.map Evt.a)] (.int .i64 (mostF l)) := by
  refine fn_rMost rfl ?_
  obtain ⟨R, hR⟩ : ∃ R, mostF l = R := ⟨_, rfl⟩
  rw [hR]
  simp (maxSteps := 4000000) only [go_sem, ↓reduceIte, reduceCtorEq, Nat.reduceEqDiff, Nat.reduceBEq, Nat.reduceAdd, Nat.reduceSub, Nat.reduceMul, Nat.reduceLT, Nat.reduceLeDiff, Nat.reduceBNe, Int.reduceBEq, Int.reduceBNe, Int.reduceLT, Int.reduceLE, Par.a, Opr.a, Ans.a, nul, List.length_map]
  refine run_loop (rmO l R) (k := l.length) ⟨0, 0, Nat.zero_le _, rfl, Nat.zero_le _, ?_, ?_, ?_, hR⟩ ?_
  · (simp (maxSteps := 4000000) only [go_sem, ↓reduceIte, reduceCtorEq, Nat.reduceEqDiff, Nat.reduceBEq, Nat.reduceAdd, Nat.reduceSub, Nat.reduceMul, Nat.reduceLT, Nat.reduceLeDiff, Nat.reduceBNe, Int.reduceBEq, Int.reduceBNe, Int.reduceLT, Int.reduceLE, Par.a, Opr.a, Ans.a, nul]) <;> rfl
  · (simp (maxSteps := 4000000) only [go_sem, ↓reduceIte, reduceCtorEq, Nat.reduceEqDiff, Nat.reduceBEq, Nat.reduceAdd, Nat.reduceSub, Nat.reduceMul, Nat.reduceLT, Nat.reduceLeDiff, Nat.reduceBNe, Int.reduceBEq, Int.reduceBNe, Int.reduceLT, Int.reduceLE, Par.a, Opr.a, Ans.a, nul]) <;> rfl
  · (simp (maxSteps := 4000000) only [go_sem, ↓reduceIte, reduceCtorEq, Nat.reduceEqDiff, Nat.reduceBEq, Nat.reduceAdd, Nat.reduceSub, Nat.reduceMul, Nat.reduceLT, Nat.reduceLeDiff, Nat.reduceBNe, Int.reduceBEq, Int.reduceBNe, Int.reduceLT, Int.reduceLE, Par.a, Opr.a, Ans.a, nul]) <;> rfl
  clear hR
  rintro k σ ⟨j, m, hj, rfl, hm, t0, t4, t3, hr⟩
  simp only [r_rMost_l15]
  by_cases hlt : j < l.length
  case neg =>
    have hlt' : ¬ (j : Int) < (l.length : Int) := by omega
    rw [List.drop_eq_nil_of_le (by omega), mostGo] at hr
    subst hr
    simp (maxSteps := 4000000) only [go_sem, ↓reduceIte, reduceCtorEq, Nat.reduceEqDiff, Nat.reduceBEq, Nat.reduceAdd, Nat.reduceSub, Nat.reduceMul, Nat.reduceLT, Nat.reduceLeDiff, Nat.reduceBNe, Int.reduceBEq, Int.reduceBNe, Int.reduceLT, Int.reduceLE, Par.a, Opr.a, Ans.a, nul, t0, t4, t3, hlt', List.length_map]
  have hlt' : (j : Int) < (l.length : Int) := by omega
  obtain ⟨x, hx⟩ := get_lt hlt
  have hgx := at_map (f := Evt.a) hx
  simp only [Evt.a] at hgx
  have hw := wrapS (j := j) (by omega)
  rw [drop_at hx, mostGo] at hr
  have hun := undN_le l x
  simp (maxSteps := 4000000) only [go_sem, ↓reduceIte, reduceCtorEq, Nat.reduceEqDiff, Nat.reduceBEq, Nat.reduceAdd, Nat.reduceSub, Nat.reduceMul, Nat.reduceLT, Nat.reduceLeDiff, Nat.reduceBNe, Int.reduceBEq, Int.reduceBNe, Int.reduceLT, Int.reduceLE, Par.a, Opr.a, Ans.a, nul, t0, t4, t3, hlt', List.length_map]
  refine run_loop (rmI l j m x) (k := l.length) ⟨0, 0, Nat.zero_le _, rfl, Nat.zero_le _, ?_, ?_, ?_, ?_, ?_, Nat.zero_add _⟩ ?_
  · simp (maxSteps := 4000000) only [go_sem, ↓reduceIte, reduceCtorEq, Nat.reduceEqDiff, Nat.reduceBEq, Nat.reduceAdd, Nat.reduceSub, Nat.reduceMul, Nat.reduceLT, Nat.reduceLeDiff, Nat.reduceBNe, Int.reduceBEq, Int.reduceBNe, Int.reduceLT, Int.reduceLE, Par.a, Opr.a, Ans.a, nul, t0]
  · simp (maxSteps := 4000000) only [go_sem, ↓reduceIte, reduceCtorEq, Nat.reduceEqDiff, Nat.reduceBEq, Nat.reduceAdd, Nat.reduceSub, Nat.reduceMul, Nat.reduceLT, Nat.reduceLeDiff, Nat.reduceBNe, Int.reduceBEq, Int.reduceBNe, Int.reduceLT, Int.reduceLE, Par.a, Opr.a, Ans.a, nul, t4]
  · simp (maxSteps := 4000000) only [go_sem, ↓reduceIte, reduceCtorEq, Nat.reduceEqDiff, Nat.reduceBEq, Nat.reduceAdd, Nat.reduceSub, Nat.reduceMul, Nat.reduceLT, Nat.reduceLeDiff, Nat.reduceBNe, Int.reduceBEq, Int.reduceBNe, Int.reduceLT, Int.reduceLE, Par.a, Opr.a, Ans.a, nul, t3]
  · (simp (maxSteps := 4000000) only [go_sem, ↓reduceIte, reduceCtorEq, Nat.reduceEqDiff, Nat.reduceBEq, Nat.reduceAdd, Nat.reduceSub, Nat.reduceMul, Nat.reduceLT, Nat.reduceLeDiff, Nat.reduceBNe, Int.reduceBEq, Int.reduceBNe, Int.reduceLT, Int.reduceLE, Par.a, Opr.a, Ans.a, nul]) <;> rfl
  · (simp (maxSteps := 4000000) only [go_sem, ↓reduceIte, reduceCtorEq, Nat.reduceEqDiff, Nat.reduceBEq, Nat.reduceAdd, Nat.reduceSub, Nat.reduceMul, Nat.reduceLT, Nat.reduceLeDiff, Nat.reduceBNe, Int.reduceBEq, Int.reduceBNe, Int.reduceLT, Int.reduceLE, Par.a, Opr.a, Ans.a, nul]) <;> rfl
  clear t0 t4 t3
  rintro k2 σ ⟨i, n, hi, rfl, hn, t0, t4, t3, t6, t5, hc⟩
  simp only [r_rMost_l11]
  by_cases hlt2 : i < l.length
  case neg =>
    have hlt2' : ¬ (i : Int) < (l.length : Int) := by omega
    rw [List.drop_eq_nil_of_le (by omega), List.countP_nil, Nat.add_zero] at hc
    subst hc
    by_cases hgt : (m : Int) < (undN l x : Int)
    · have hm2 : max m (undN l x) = undN l x := by omega
      rw [hm2] at hr
      simp (maxSteps := 4000000) only [go_sem, ↓reduceIte, reduceCtorEq, Nat.reduceEqDiff, Nat.reduceBEq, Nat.reduceAdd, Nat.reduceSub, Nat.reduceMul, Nat.reduceLT, Nat.reduceLeDiff, Nat.reduceBNe, Int.reduceBEq, Int.reduceBNe, Int.reduceLT, Int.reduceLE, Par.a, Opr.a, Ans.a, nul, t0, t4, t3, t6, t5, hlt2', hw, hgt, List.length_map]
      refine ⟨l.length - (j + 1), by omega, j + 1, undN l x, by omega, rfl, by omega, ?_, ?_, ?_, hr⟩
      · simp (maxSteps := 4000000) only [go_sem, ↓reduceIte, reduceCtorEq, Nat.reduceEqDiff, Nat.reduceBEq, Nat.reduceAdd, Nat.reduceSub, Nat.reduceMul, Nat.reduceLT, Nat.reduceLeDiff, Nat.reduceBNe, Int.reduceBEq, Int.reduceBNe, Int.reduceLT, Int.reduceLE, Par.a, Opr.a, Ans.a, nul, t0]
      · simp (maxSteps := 4000000) only [go_sem, ↓reduceIte, reduceCtorEq, Nat.reduceEqDiff, Nat.reduceBEq, Nat.reduceAdd, Nat.reduceSub, Nat.reduceMul, Nat.reduceLT, Nat.reduceLeDiff, Nat.reduceBNe, Int.reduceBEq, Int.reduceBNe, Int.reduceLT, Int.reduceLE, Par.a, Opr.a, Ans.a, nul, hw]
      · simp (maxSteps := 4000000) only [go_sem, ↓reduceIte, reduceCtorEq, Nat.reduceEqDiff, Nat.reduceBEq, Nat.reduceAdd, Nat.reduceSub, Nat.reduceMul, Nat.reduceLT, Nat.reduceLeDiff, Nat.reduceBNe, Int.reduceBEq, Int.reduceBNe, Int.reduceLT, Int.reduceLE, Par.a, Opr.a, Ans.a, nul, t5]
    · have hm2 : max m (undN l x) = m := by omega
      rw [hm2] at hr
      simp (maxSteps := 4000000) only [go_sem, ↓reduceIte, reduceCtorEq, Nat.reduceEqDiff, Nat.reduceBEq, Nat.reduceAdd, Nat.reduceSub, Nat.reduceMul, Nat.reduceLT, Nat.reduceLeDiff, Nat.reduceBNe, Int.reduceBEq, Int.reduceBNe, Int.reduceLT, Int.reduceLE, Par.a, Opr.a, Ans.a, nul, t0, t4, t3, t6, t5, hlt2', hw, hgt, List.length_map]
      refine ⟨l.length - (j + 1), by omega, j + 1, m, by omega, rfl, by omega, ?_, ?_, ?_, hr⟩
      · simp (maxSteps := 4000000) only [go_sem, ↓reduceIte, reduceCtorEq, Nat.reduceEqDiff, Nat.reduceBEq, Nat.reduceAdd, Nat.reduceSub, Nat.reduceMul, Nat.reduceLT, Nat.reduceLeDiff, Nat.reduceBNe, Int.reduceBEq, Int.reduceBNe, Int.reduceLT, Int.reduceLE, Par.a, Opr.a, Ans.a, nul, t0]
      · simp (maxSteps := 4000000) only [go_sem, ↓reduceIte, reduceCtorEq, Nat.reduceEqDiff, Nat.reduceBEq, Nat.reduceAdd, Nat.reduceSub, Nat.reduceMul, Nat.reduceLT, Nat.reduceLeDiff, Nat.reduceBNe, Int.reduceBEq, Int.reduceBNe, Int.reduceLT, Int.reduceLE, Par.a, Opr.a, Ans.a, nul, hw]
      · simp (maxSteps := 4000000) only [go_sem, ↓reduceIte, reduceCtorEq, Nat.reduceEqDiff, Nat.reduceBEq, Nat.reduceAdd, Nat.reduceSub, Nat.reduceMul, Nat.reduceLT, Nat.reduceLeDiff, Nat.reduceBNe, Int.reduceBEq, Int.reduceBNe, Int.reduceLT, Int.reduceLE, Par.a, Opr.a, Ans.a, nul, t3]
  have hlt2' : (i : Int) < (l.length : Int) := by omega
  obtain ⟨y, hy⟩ := get_lt hlt2
  have hgy := at_map (f := Evt.a) hy
  simp only [Evt.a] at hgy
  have hwi := wrapS (j := i) (by omega)
  have hwn := wrapS (j := n) (by omega)
  rw [countP_drop hy] at hc
  have fin : ∀ (b : Bool) (σ' : St), undB x y = b → σ'.T 0 = .sl (l.map Evt.a) → σ'.T 4 = .int .i64 j → σ'.T 3 = .int .i64 m → σ'.T 6 = .int .i64 ((i + 1 : Nat) : Int) → σ'.T 5 = .int .i64 ((n + (if b then 1 else 0) : Nat) : Int) → ∃ q, q < l.length - i ∧ rmI l j m x q σ' := by
    intro b σ' hb a0 a4 a3 a6 a5
    rw [hb] at hc
    exact ⟨l.length - (i + 1), by omega, i + 1, n + (if b then 1 else 0), by omega, rfl, by split <;> omega, a0, a4, a3, a6, a5, by rw [← hc, Nat.add_assoc]⟩
  cases hd : y.done
  · by_cases c1 : y.began ≤ x.began
    · simp (maxSteps := 4000000) only [go_sem, ↓reduceIte, reduceCtorEq, Nat.reduceEqDiff, Nat.reduceBEq, Nat.reduceAdd, Nat.reduceSub, Nat.reduceMul, Nat.reduceLT, Nat.reduceLeDiff, Nat.reduceBNe, Int.reduceBEq, Int.reduceBNe, Int.reduceLT, Int.reduceLE, Par.a, Opr.a, Ans.a, nul, t0, t4, t3, t6, t5, hlt2', hgx, hgy, hwi, hwn, hlt, hlt2, hlt', c1, hd, List.length_map, Int.toNat_natCast]
      (repeat refine And.intro (by omega) ?_)
      refine fin true _ ?_ ?_ ?_ ?_ ?_ ?_
      · unfold undB; simp [c1, hd]
      · simp (maxSteps := 4000000) only [go_sem, ↓reduceIte, reduceCtorEq, Nat.reduceEqDiff, Nat.reduceBEq, Nat.reduceAdd, Nat.reduceSub, Nat.reduceMul, Nat.reduceLT, Nat.reduceLeDiff, Nat.reduceBNe, Int.reduceBEq, Int.reduceBNe, Int.reduceLT, Int.reduceLE, Par.a, Opr.a, Ans.a, nul, t0]
      · simp (maxSteps := 4000000) only [go_sem, ↓reduceIte, reduceCtorEq, Nat.reduceEqDiff, Nat.reduceBEq, Nat.reduceAdd, Nat.reduceSub, Nat.reduceMul, Nat.reduceLT, Nat.reduceLeDiff, Nat.reduceBNe, Int.reduceBEq, Int.reduceBNe, Int.reduceLT, Int.reduceLE, Par.a, Opr.a, Ans.a, nul, t4]
      · simp (maxSteps := 4000000) only [go_sem, ↓reduceIte, reduceCtorEq, Nat.reduceEqDiff, Nat.reduceBEq, Nat.reduceAdd, Nat.reduceSub, Nat.reduceMul, Nat.reduceLT, Nat.reduceLeDiff, Nat.reduceBNe, Int.reduceBEq, Int.reduceBNe, Int.reduceLT, Int.reduceLE, Par.a, Opr.a, Ans.a, nul, t3]
      · simp (maxSteps := 4000000) only [go_sem, ↓reduceIte, reduceCtorEq, Nat.reduceEqDiff, Nat.reduceBEq, Nat.reduceAdd, Nat.reduceSub, Nat.reduceMul, Nat.reduceLT, Nat.reduceLeDiff, Nat.reduceBNe, Int.reduceBEq, Int.reduceBNe, Int.reduceLT, Int.reduceLE, Par.a, Opr.a, Ans.a, nul, hwi]
      · simp (maxSteps := 4000000) only [go_sem, ↓reduceIte, reduceCtorEq, Nat.reduceEqDiff, Nat.reduceBEq, Nat.reduceAdd, Nat.reduceSub, Nat.reduceMul, Nat.reduceLT, Nat.reduceLeDiff, Nat.reduceBNe, Int.reduceBEq, Int.reduceBNe, Int.reduceLT, Int.reduceLE, Par.a, Opr.a, Ans.a, nul, hwn]
    · simp (maxSteps := 4000000) only [go_sem, ↓reduceIte, reduceCtorEq, Nat.reduceEqDiff, Nat.reduceBEq, Nat.reduceAdd, Nat.reduceSub, Nat.reduceMul, Nat.reduceLT, Nat.reduceLeDiff, Nat.reduceBNe, Int.reduceBEq, Int.reduceBNe, Int.reduceLT, Int.reduceLE, Par.a, Opr.a, Ans.a, nul, t0, t4, t3, t6, t5, hlt2', hgx, hgy, hwi, hwn, hlt, hlt2, hlt', c1, hd, List.length_map, Int.toNat_natCast]
      (repeat refine And.intro (by omega) ?_)
      refine fin false _ ?_ ?_ ?_ ?_ ?_ ?_
      · unfold undB; simp [c1, hd]
      · simp (maxSteps := 4000000) only [go_sem, ↓reduceIte, reduceCtorEq, Nat.reduceEqDiff, Nat.reduceBEq, Nat.reduceAdd, Nat.reduceSub, Nat.reduceMul, Nat.reduceLT, Nat.reduceLeDiff, Nat.reduceBNe, Int.reduceBEq, Int.reduceBNe, Int.reduceLT, Int.reduceLE, Par.a, Opr.a, Ans.a, nul, t0]
      · simp (maxSteps := 4000000) only [go_sem, ↓reduceIte, reduceCtorEq, Nat.reduceEqDiff, Nat.reduceBEq, Nat.reduceAdd, Nat.reduceSub, Nat.reduceMul, Nat.reduceLT, Nat.reduceLeDiff, Nat.reduceBNe, Int.reduceBEq, Int.reduceBNe, Int.reduceLT, Int.reduceLE, Par.a, Opr.a, Ans.a, nul, t4]
      · simp (maxSteps := 4000000) only [go_sem, ↓reduceIte, reduceCtorEq, Nat.reduceEqDiff, Nat.reduceBEq, Nat.reduceAdd, Nat.reduceSub, Nat.reduceMul, Nat.reduceLT, Nat.reduceLeDiff, Nat.reduceBNe, Int.reduceBEq, Int.reduceBNe, Int.reduceLT, Int.reduceLE, Par.a, Opr.a, Ans.a, nul, t3]
      · simp (maxSteps := 4000000) only [go_sem, ↓reduceIte, reduceCtorEq, Nat.reduceEqDiff, Nat.reduceBEq, Nat.reduceAdd, Nat.reduceSub, Nat.reduceMul, Nat.reduceLT, Nat.reduceLeDiff, Nat.reduceBNe, Int.reduceBEq, Int.reduceBNe, Int.reduceLT, Int.reduceLE, Par.a, Opr.a, Ans.a, nul, hwi]
      · simp (maxSteps := 4000000) only [go_sem, ↓reduceIte, reduceCtorEq, Nat.reduceEqDiff, Nat.reduceBEq, Nat.reduceAdd, Nat.reduceSub, Nat.reduceMul, Nat.reduceLT, Nat.reduceLeDiff, Nat.reduceBNe, Int.reduceBEq, Int.reduceBNe, Int.reduceLT, Int.reduceLE, Par.a, Opr.a, Ans.a, nul, t5]
  · by_cases c2 : y.ended < x.began
    · by_cases c1 : y.began ≤ x.began
      · simp (maxSteps := 4000000) only [go_sem, ↓reduceIte, reduceCtorEq, Nat.reduceEqDiff, Nat.reduceBEq, Nat.reduceAdd, Nat.reduceSub, Nat.reduceMul, Nat.reduceLT, Nat.reduceLeDiff, Nat.reduceBNe, Int.reduceBEq, Int.reduceBNe, Int.reduceLT, Int.reduceLE, Par.a, Opr.a, Ans.a, nul, t0, t4, t3, t6, t5, hlt2', hgx, hgy, hwi, hwn, hlt, hlt2, hlt', c1, hd, c2, List.length_map, Int.toNat_natCast]
        (repeat refine And.intro (by omega) ?_)
        refine fin false _ ?_ ?_ ?_ ?_ ?_ ?_
        · unfold undB; simp [c1, hd, c2]
        · simp (maxSteps := 4000000) only [go_sem, ↓reduceIte, reduceCtorEq, Nat.reduceEqDiff, Nat.reduceBEq, Nat.reduceAdd, Nat.reduceSub, Nat.reduceMul, Nat.reduceLT, Nat.reduceLeDiff, Nat.reduceBNe, Int.reduceBEq, Int.reduceBNe, Int.reduceLT, Int.reduceLE, Par.a, Opr.a, Ans.a, nul, t0]
        · simp (maxSteps := 4000000) only [go_sem, ↓reduceIte, reduceCtorEq, Nat.reduceEqDiff, Nat.reduceBEq, Nat.reduceAdd, Nat.reduceSub, Nat.reduceMul, Nat.reduceLT, Nat.reduceLeDiff, Nat.reduceBNe, Int.reduceBEq, Int.reduceBNe, Int.reduceLT, Int.reduceLE, Par.a, Opr.a, Ans.a, nul, t4]
        · simp (maxSteps := 4000000) only [go_sem, ↓reduceIte, reduceCtorEq, Nat.reduceEqDiff, Nat.reduceBEq, Nat.reduceAdd, Nat.reduceSub, Nat.reduceMul, Nat.reduceLT, Nat.reduceLeDiff, Nat.reduceBNe, Int.reduceBEq, Int.reduceBNe, Int.reduceLT, Int.reduceLE, Par.a, Opr.a, Ans.a, nul, t3]
        · simp (maxSteps := 4000000) only [go_sem, ↓reduceIte, reduceCtorEq, Nat.reduceEqDiff, Nat.reduceBEq, Nat.reduceAdd, Nat.reduceSub, Nat.reduceMul, Nat.reduceLT, Nat.reduceLeDiff, Nat.reduceBNe, Int.reduceBEq, Int.reduceBNe, Int.reduceLT, Int.reduceLE, Par.a, Opr.a, Ans.a, nul, hwi]
        · simp (maxSteps := 4000000) only [go_sem, ↓reduceIte, reduceCtorEq, Nat.reduceEqDiff, Nat.reduceBEq, Nat.reduceAdd, Nat.reduceSub, Nat.reduceMul, Nat.reduceLT, Nat.reduceLeDiff, Nat.reduceBNe, Int.reduceBEq, Int.reduceBNe, Int.reduceLT, Int.reduceLE, Par.a, Opr.a, Ans.a, nul, t5]
      · simp (maxSteps := 4000000) only [go_sem, ↓reduceIte, reduceCtorEq, Nat.reduceEqDiff, Nat.reduceBEq, Nat.reduceAdd, Nat.reduceSub, Nat.reduceMul, Nat.reduceLT, Nat.reduceLeDiff, Nat.reduceBNe, Int.reduceBEq, Int.reduceBNe, Int.reduceLT, Int.reduceLE, Par.a, Opr.a, Ans.a, nul, t0, t4, t3, t6, t5, hlt2', hgx, hgy, hwi, hwn, hlt, hlt2, hlt', c1, hd, c2, List.length_map, Int.toNat_natCast]
        (repeat refine And.intro (by omega) ?_)
        refine fin false _ ?_ ?_ ?_ ?_ ?_ ?_
        · unfold undB; simp [c1, hd, c2]
        · simp (maxSteps := 4000000) only [go_sem, ↓reduceIte, reduceCtorEq, Nat.reduceEqDiff, Nat.reduceBEq, Nat.reduceAdd, Nat.reduceSub, Nat.reduceMul, Nat.reduceLT, Nat.reduceLeDiff, Nat.reduceBNe, Int.reduceBEq, Int.reduceBNe, Int.reduceLT, Int.reduceLE, Par.a, Opr.a, Ans.a, nul, t0]
        · simp (maxSteps := 4000000) only [go_sem, ↓reduceIte, reduceCtorEq, Nat.reduceEqDiff, Nat.reduceBEq, Nat.reduceAdd, Nat.reduceSub, Nat.reduceMul, Nat.reduceLT, Nat.reduceLeDiff, Nat.reduceBNe, Int.reduceBEq, Int.reduceBNe, Int.reduceLT, Int.reduceLE, Par.a, Opr.a, Ans.a, nul, t4]
        · simp (maxSteps := 4000000) only [go_sem, ↓reduceIte, reduceCtorEq, Nat.reduceEqDiff, Nat.reduceBEq, Nat.reduceAdd, Nat.reduceSub, Nat.reduceMul, Nat.reduceLT, Nat.reduceLeDiff, Nat.reduceBNe, Int.reduceBEq, Int.reduceBNe, Int.reduceLT, Int.reduceLE, Par.a, Opr.a, Ans.a, nul, t3]
        · simp (maxSteps := 4000000) only [go_sem, ↓reduceIte, reduceCtorEq, Nat.reduceEqDiff, Nat.reduceBEq, Nat.reduceAdd, Nat.reduceSub, Nat.reduceMul, Nat.reduceLT, Nat.reduceLeDiff, Nat.reduceBNe, Int.reduceBEq, Int.reduceBNe, Int.reduceLT, Int.reduceLE, Par.a, Opr.a, Ans.a, nul, hwi]
        · simp (maxSteps := 4000000) only [go_sem, ↓reduceIte, reduceCtorEq, Nat.reduceEqDiff, Nat.reduceBEq, Nat.reduceAdd, Nat.reduceSub, Nat.reduceMul, Nat.reduceLT, Nat.reduceLeDiff, Nat.reduceBNe, Int.reduceBEq, Int.reduceBNe, Int.reduceLT, Int.reduceLE, Par.a, Opr.a, Ans.a, nul, t5]
    · by_cases c1 : y.began ≤ x.began
      · simp (maxSteps := 4000000) only [go_sem, ↓reduceIte, reduceCtorEq, Nat.reduceEqDiff, Nat.reduceBEq, Nat.reduceAdd, Nat.reduceSub, Nat.reduceMul, Nat.reduceLT, Nat.reduceLeDiff, Nat.reduceBNe, Int.reduceBEq, Int.reduceBNe, Int.reduceLT, Int.reduceLE, Par.a, Opr.a, Ans.a, nul, t0, t4, t3, t6, t5, hlt2', hgx, hgy, hwi, hwn, hlt, hlt2, hlt', c1, hd, c2, List.length_map, Int.toNat_natCast]
        (repeat refine And.intro (by omega) ?_)
        refine fin true _ ?_ ?_ ?_ ?_ ?_ ?_
        · unfold undB; simp [c1, hd, c2]
        · simp (maxSteps := 4000000) only [go_sem, ↓reduceIte, reduceCtorEq, Nat.reduceEqDiff, Nat.reduceBEq, Nat.reduceAdd, Nat.reduceSub, Nat.reduceMul, Nat.reduceLT, Nat.reduceLeDiff, Nat.reduceBNe, Int.reduceBEq, Int.reduceBNe, Int.reduceLT, Int.reduceLE, Par.a, Opr.a, Ans.a, nul, t0]
        · simp (maxSteps := 4000000) only [go_sem, ↓reduceIte, reduceCtorEq, Nat.reduceEqDiff, Nat.reduceBEq, Nat.reduceAdd, Nat.reduceSub, Nat.reduceMul, Nat.reduceLT, Nat.reduceLeDiff, Nat.reduceBNe, Int.reduceBEq, Int.reduceBNe, Int.reduceLT, Int.reduceLE, Par.a, Opr.a, Ans.a, nul, t4]
        · simp (maxSteps := 4000000) only [go_sem, ↓reduceIte, reduceCtorEq, Nat.reduceEqDiff, Nat.reduceBEq, Nat.reduceAdd, Nat.reduceSub, Nat.reduceMul, Nat.reduceLT, Nat.reduceLeDiff, Nat.reduceBNe, Int.reduceBEq, Int.reduceBNe, Int.reduceLT, Int.reduceLE, Par.a, Opr.a, Ans.a, nul, t3]
        · simp (maxSteps := 4000000) only [go_sem, ↓reduceIte, reduceCtorEq, Nat.reduceEqDiff, Nat.reduceBEq, Nat.reduceAdd, Nat.reduceSub, Nat.reduceMul, Nat.reduceLT, Nat.reduceLeDiff, Nat.reduceBNe, Int.reduceBEq, Int.reduceBNe, Int.reduceLT, Int.reduceLE, Par.a, Opr.a, Ans.a, nul, hwi]
        · simp (maxSteps := 4000000) only [go_sem, ↓reduceIte, reduceCtorEq, Nat.reduceEqDiff, Nat.reduceBEq, Nat.reduceAdd, Nat.reduceSub, Nat.reduceMul, Nat.reduceLT, Nat.reduceLeDiff, Nat.reduceBNe, Int.reduceBEq, Int.reduceBNe, Int.reduceLT, Int.reduceLE, Par.a, Opr.a, Ans.a, nul, hwn]
      · simp (maxSteps := 4000000) only [go_sem, ↓reduceIte, reduceCtorEq, Nat.reduceEqDiff, Nat.reduceBEq, Nat.reduceAdd, Nat.reduceSub, Nat.reduceMul, Nat.reduceLT, Nat.reduceLeDiff, Nat.reduceBNe, Int.reduceBEq, Int.reduceBNe, Int.reduceLT, Int.reduceLE, Par.a, Opr.a, Ans.a, nul, t0, t4, t3, t6, t5, hlt2', hgx, hgy, hwi, hwn, hlt, hlt2, hlt', c1, hd, c2, List.length_map, Int.toNat_natCast]
        (repeat refine And.intro (by omega) ?_)
        refine fin false _ ?_ ?_ ?_ ?_ ?_ ?_
        · unfold undB; simp [c1, hd, c2]
        · simp (maxSteps := 4000000) only [go_sem, ↓reduceIte, reduceCtorEq, Nat.reduceEqDiff, Nat.reduceBEq, Nat.reduceAdd, Nat.reduceSub, Nat.reduceMul, Nat.reduceLT, Nat.reduceLeDiff, Nat.reduceBNe, Int.reduceBEq, Int.reduceBNe, Int.reduceLT, Int.reduceLE, Par.a, Opr.a, Ans.a, nul, t0]
        · simp (maxSteps := 4000000) only [go_sem, ↓reduceIte, reduceCtorEq, Nat.reduceEqDiff, Nat.reduceBEq, Nat.reduceAdd, Nat.reduceSub, Nat.reduceMul, Nat.reduceLT, Nat.reduceLeDiff, Nat.reduceBNe, Int.reduceBEq, Int.reduceBNe, Int.reduceLT, Int.reduceLE, Par.a, Opr.a, Ans.a, nul, t4]
        · simp (maxSteps := 4000000) only [go_sem, ↓reduceIte, reduceCtorEq, Nat.reduceEqDiff, Nat.reduceBEq, Nat.reduceAdd, Nat.reduceSub, Nat.reduceMul, Nat.reduceLT, Nat.reduceLeDiff, Nat.reduceBNe, Int.reduceBEq, Int.reduceBNe, Int.reduceLT, Int.reduceLE, Par.a, Opr.a, Ans.a, nul, t3]
        · simp (maxSteps := 4000000) only [go_sem, ↓reduceIte, reduceCtorEq, Nat.reduceEqDiff, Nat.reduceBEq, Nat.reduceAdd, Nat.reduceSub, Nat.reduceMul, Nat.reduceLT, Nat.reduceLeDiff, Nat.reduceBNe, Int.reduceBEq, Int.reduceBNe, Int.reduceLT, Int.reduceLE, Par.a, Opr.a, Ans.a, nul, hwi]
        · simp (maxSteps := 4000000) only [go_sem, ↓reduceIte, reduceCtorEq, Nat.reduceEqDiff, Nat.reduceBEq, Nat.reduceAdd, Nat.reduceSub, Nat.reduceMul, Nat.reduceLT, Nat.reduceLeDiff, Nat.reduceBNe, Int.reduceBEq, Int.reduceBNe, Int.reduceLT, Int.reduceLE, Par.a, Opr.a, Ans.a, nul, t5]
end
section
/-
  Histories: whether events are one, by the document: walked.
-/
open Go.RowKit
set_option linter.unusedVariables false
set_option linter.unusedSimpArgs false
set_option maxRecDepth 100000
attribute [local go_sem ↓] runOp headOp
/-! ### percolate/percolateref38.History -/
def r_rHis_0 : Reg := ⟨[], [⟨(.mv (.c (.bool false))), (some 4), none, [], []⟩], [], [], false⟩
def r_rHis_1 : Reg := ⟨[], [⟨(.mv (.c (.int .i64 0))), (some 5), none, [], []⟩], [], [], false⟩
def t_rHis_2 : List ROp := [⟨(.mv (.t 5)), (some 7), none, [], []⟩, ⟨(.mv (.t 0)), (some 8), none, [], []⟩, ⟨(.len false (.t 8)), (some 9), none, [], []⟩, ⟨(.bin .lss (.t 7) (.t 9)), (some 10), none, [], []⟩]
def r_rHis_2 : Reg := ⟨[], t_rHis_2, [], [], false⟩
def t_rHis_3 : List ROp := [⟨(.mv (.t 0)), (some 13), none, [18], []⟩, ⟨(.mv (.t 5)), (some 14), none, [18], []⟩, ⟨(.iaddr 15 (.t 13) (.t 14)), (some 15), none, [18], []⟩, ⟨(.load 15 true (.t 15)), (some 16), none, [18], []⟩, ⟨(.mv (.t 1)), (some 17), none, [18], []⟩, ⟨(.callv (.c (.clo 8 [] [])) [(.t 16), (.t 17)]), (some 18), none, [], []⟩, ⟨(.un .not (.t 18)), (some 19), none, [], []⟩]
def r_rHis_3 : Reg := ⟨[], t_rHis_3, [18], [], false⟩
def r_rHis_4 : Reg := ⟨[], [⟨(.mv (.c (.bool false))), (some 4), none, [], []⟩], [], [], false⟩
def r_rHis_5 : Reg := ⟨[], [⟨(.mv (.c (.int .i64 0))), (some 6), none, [], []⟩], [], [], false⟩
def t_rHis_6 : List ROp := [⟨(.mv (.t 6)), (some 20), none, [], []⟩, ⟨(.mv (.t 5)), (some 21), none, [], []⟩, ⟨(.bin .lss (.t 20) (.t 21)), (some 22), none, [], []⟩]
def r_rHis_6 : Reg := ⟨[], t_rHis_6, [], [], false⟩
def t_rHis_7 : List ROp := [⟨(.callv (.c (.clo 10 [] [])) [(.t 52), (.t 56)]), (some 57), (some (48, true)), [], []⟩, ⟨(.un .not (.t 57)), (some 58), (some (48, true)), [], []⟩, ⟨(.pick (.t 48) (.t 58) (.c (.bool false))), (some 59), (some (36, false)), [], []⟩, ⟨(.pick (.t 36) (.c (.bool true)) (.t 59)), (some 60), none, [], []⟩]
def h_rHis_7 : List ROp := [⟨(.mv (.t 0)), (some 25), none, [57], []⟩, ⟨(.mv (.t 6)), (some 26), none, [57], []⟩, ⟨(.iaddr 15 (.t 25) (.t 26)), (some 27), none, [57], []⟩, ⟨(.faddr 11 (.t 27)), (some 28), none, [57], []⟩, ⟨(.load 1 false (.t 28)), (some 29), none, [57], []⟩, ⟨(.mv (.t 0)), (some 30), none, [57], []⟩, ⟨(.mv (.t 5)), (some 31), none, [57], []⟩, ⟨(.iaddr 15 (.t 30) (.t 31)), (some 32), none, [57], []⟩, ⟨(.faddr 11 (.t 32)), (some 33), none, [57], []⟩, ⟨(.load 1 false (.t 33)), (some 34), none, [57], []⟩, ⟨(.bin .geq (.t 29) (.t 34)), (some 35), none, [57], []⟩, ⟨(.mv (.t 35)), (some 36), none, [57], []⟩, ⟨(.mv (.t 0)), (some 37), (some (36, false)), [57], []⟩, ⟨(.mv (.t 6)), (some 38), (some (36, false)), [57], []⟩, ⟨(.iaddr 15 (.t 37) (.t 38)), (some 39), (some (36, false)), [57], []⟩, ⟨(.faddr 0 (.t 39)), (some 40), (some (36, false)), [57], []⟩, ⟨(.load 1 false (.t 40)), (some 41), (some (36, false)), [57], []⟩, ⟨(.mv (.t 0)), (some 42), (some (36, false)), [57], []⟩, ⟨(.mv (.t 5)), (some 43), (some (36, false)), [57], []⟩, ⟨(.iaddr 15 (.t 42) (.t 43)), (some 44), (some (36, false)), [57], []⟩, ⟨(.faddr 0 (.t 44)), (some 45), (some (36, false)), [57], []⟩, ⟨(.load 1 false (.t 45)), (some 46), (some (36, false)), [57], []⟩, ⟨(.bin .eql (.t 41) (.t 46)), (some 47), (some (36, false)), [57], []⟩, ⟨(.mv (.t 47)), (some 48), (some (36, false)), [57], []⟩, ⟨(.mv (.t 0)), (some 49), (some (48, true)), [57], []⟩, ⟨(.mv (.t 6)), (some 50), (some (48, true)), [57], []⟩, ⟨(.iaddr 15 (.t 49) (.t 50)), (some 51), (some (48, true)), [57], []⟩, ⟨(.load 15 true (.t 51)), (some 52), (some (48, true)), [57], []⟩, ⟨(.mv (.t 0)), (some 53), (some (48, true)), [57], []⟩, ⟨(.mv (.t 5)), (some 54), (some (48, true)), [57], []⟩, ⟨(.iaddr 15 (.t 53) (.t 54)), (some 55), (some (48, true)), [57], []⟩, ⟨(.load 15 true (.t 55)), (some 56), (some (48, true)), [57], []⟩]
def r_rHis_7 : Reg := ⟨h_rHis_7, t_rHis_7, [57], [], true⟩
def r_rHis_8 : Reg := ⟨[], [⟨(.mv (.c (.bool false))), (some 4), none, [], []⟩], [], [], false⟩
def t_rHis_9 : List ROp := [⟨(.mv (.t 6)), (some 23), none, [], []⟩, ⟨(.bin .add (.t 23) (.c (.int .i64 1))), (some 24), none, [], []⟩, ⟨(.mv (.t 24)), (some 6), none, [], []⟩]
def r_rHis_9 : Reg := ⟨[], t_rHis_9, [], [], false⟩
def r_rHis_l10 : IR := (.seq (.seq (.reg r_rHis_6)
  (.cond (.t 22) .skip
  (.exit 2)))
  (.seq (.block 3 (.seq (.reg r_rHis_7)
  (.cond (.t 60) (.seq (.reg r_rHis_8)
  .ret)
  .skip)))
  (.reg r_rHis_9)))
def t_rHis_11 : List ROp := [⟨(.mv (.t 5)), (some 11), none, [], []⟩, ⟨(.bin .add (.t 11) (.c (.int .i64 1))), (some 12), none, [], []⟩, ⟨(.mv (.t 12)), (some 5), none, [], []⟩]
def r_rHis_11 : Reg := ⟨[], t_rHis_11, [], [], false⟩
def r_rHis_l12 : IR := (.seq (.seq (.reg r_rHis_2)
  (.cond (.t 10) .skip
  (.exit 0)))
  (.seq (.block 1 (.seq (.seq (.reg r_rHis_3)
  (.cond (.t 19) (.seq (.reg r_rHis_4)
  .ret)
  .skip))
  (.seq (.reg r_rHis_5)
  (.block 2 (.loop r_rHis_l10)))))
  (.reg r_rHis_11)))
def r_rHis_13 : Reg := ⟨[], [⟨(.mv (.c (.bool true))), (some 4), none, [], []⟩], [], [], false⟩
def ir_rHis : IR := (.seq (.reg r_rHis_0)
  (.seq (.seq (.reg r_rHis_1)
  (.block 0 (.loop r_rHis_l12)))
  (.seq (.reg r_rHis_13)
  .ret)))
def res_rHis : List RDesc := [(.tmp 4)]
theorem e_rHis_0 (C : FuncId → List AV → AV → Prop) (σ : St) (K : St → Prop) : runReg C r_rHis_0 σ K = runOps C [⟨(.mv (.c (.bool false))), (some 4), none, [], []⟩] (σ.kills []) K := rfl
theorem e_rHis_1 (C : FuncId → List AV → AV → Prop) (σ : St) (K : St → Prop) : runReg C r_rHis_1 σ K = runOps C [⟨(.mv (.c (.int .i64 0))), (some 5), none, [], []⟩] (σ.kills []) K := rfl
theorem e_rHis_2 (C : FuncId → List AV → AV → Prop) (σ : St) (K : St → Prop) : runReg C r_rHis_2 σ K = runOps C t_rHis_2 (σ.kills []) K := rfl
theorem e_rHis_3 (C : FuncId → List AV → AV → Prop) (σ : St) (K : St → Prop) : runReg C r_rHis_3 σ K = runOps C t_rHis_3 (σ.kills [18]) K := rfl
theorem e_rHis_4 (C : FuncId → List AV → AV → Prop) (σ : St) (K : St → Prop) : runReg C r_rHis_4 σ K = runOps C [⟨(.mv (.c (.bool false))), (some 4), none, [], []⟩] (σ.kills []) K := rfl
theorem e_rHis_5 (C : FuncId → List AV → AV → Prop) (σ : St) (K : St → Prop) : runReg C r_rHis_5 σ K = runOps C [⟨(.mv (.c (.int .i64 0))), (some 6), none, [], []⟩] (σ.kills []) K := rfl
theorem e_rHis_6 (C : FuncId → List AV → AV → Prop) (σ : St) (K : St → Prop) : runReg C r_rHis_6 σ K = runOps C t_rHis_6 (σ.kills []) K := rfl
theorem e_rHis_7 (C : FuncId → List AV → AV → Prop) (σ : St) (K : St → Prop) : runReg C r_rHis_7 σ K = runHead C [] t_rHis_7 h_rHis_7 (σ.kills [57]) K := rfl
theorem e_rHis_8 (C : FuncId → List AV → AV → Prop) (σ : St) (K : St → Prop) : runReg C r_rHis_8 σ K = runOps C [⟨(.mv (.c (.bool false))), (some 4), none, [], []⟩] (σ.kills []) K := rfl
theorem e_rHis_9 (C : FuncId → List AV → AV → Prop) (σ : St) (K : St → Prop) : runReg C r_rHis_9 σ K = runOps C t_rHis_9 (σ.kills []) K := rfl
theorem e_rHis_11 (C : FuncId → List AV → AV → Prop) (σ : St) (K : St → Prop) : runReg C r_rHis_11 σ K = runOps C t_rHis_11 (σ.kills []) K := rfl
theorem e_rHis_13 (C : FuncId → List AV → AV → Prop) (σ : St) (K : St → Prop) : runReg C r_rHis_13 σ K = runOps C [⟨(.mv (.c (.bool true))), (some 4), none, [], []⟩] (σ.kills []) K := rfl
theorem fn_rHis {args : List AV} {r : AV} (ha : args.length.ble Try.f14.ntmps = true) (h : run (AFn Try.prog) ir_rHis (endQ res_rHis r) (initSt args)) : AFn Try.prog 14 args r :=
  AFn.of_code (pv := false) (hint := fun _ => []) (c := Try.f14.body.getD .skip) (by kernel_rfl) (by kernel_rfl) Try.func14 (by kernel_rfl) (by kernel_rfl) (by kernel_rfl) (of_decide_eq_true (by kernel_rfl)) (Nat.le_of_ble_eq_true ha) (Nat.le_of_ble_eq_true (by kernel_rfl)) (run_ok h)
attribute [local go_sem ↓] ir_rHis
attribute [local go_sem] res_rHis e_rHis_0 e_rHis_1 e_rHis_2 t_rHis_2 e_rHis_3 t_rHis_3 e_rHis_4 e_rHis_5 e_rHis_6 t_rHis_6 e_rHis_7 t_rHis_7 h_rHis_7 e_rHis_8 e_rHis_9 t_rHis_9 e_rHis_11 t_rHis_11 e_rHis_13
def pairOk (x y : Evt) : Bool := decide (y.began < x.began) && (!(y.client == x.client) || befB y x)
def histG (clock : Int) : List Evt → List Evt → Bool
  | _, [] => true
  | p, x :: r => mayB x clock && (p.all (pairOk x) && histG clock (p ++ [x]) r)
def histB (l : List Evt) (clock : Int) : Bool := histG clock [] l
def rhO (l : List Evt) (clock : Int) (R : Bool) (k : Nat) (σ : St) : Prop :=
  ∃ i : Nat, i ≤ l.length ∧ k = l.length - i ∧ σ.T 0 = .sl (l.map Evt.a) ∧ σ.T 1 = .int .i64 clock ∧ σ.T 5 = .int .i64 i ∧ histG clock (l.take i) (l.drop i) = R
def rhI (l : List Evt) (clock : Int) (i : Nat) (x : Evt) (R : Bool) (k : Nat) (σ : St) : Prop :=
  ∃ j : Nat, j ≤ i ∧ k = i - j ∧ σ.T 0 = .sl (l.map Evt.a) ∧ σ.T 1 = .int .i64 clock ∧ σ.T 5 = .int .i64 i ∧ σ.T 6 = .int .i64 j ∧ ((l.take i).drop j).all (pairOk x) = R
set_option maxHeartbeats 4000000 in
theorem rHis_ok (l : List Evt) (clock : Int) (hl : l.length ≤ 1000000) (pa : ∀ e, e ∈ l → e.ans.prs.length ≤ 1000000000) : AFn Try.prog 14 [.sl (l.map Evt.a), .int .i64 clock] (.bool (histB l clock)) := by
  refine fn_rHis rfl ?_
  obtain ⟨R, hR⟩ : ∃ R, histB l clock = R := ⟨_, rfl⟩
  rw [hR]
  simp (maxSteps := 4000000) only [go_sem, ↓reduceIte, reduceCtorEq, Nat.reduceEqDiff, Nat.reduceBEq, Nat.reduceAdd, Nat.reduceSub, Nat.reduceMul, Nat.reduceLT, Nat.reduceLeDiff, Nat.reduceBNe, Int.reduceBEq, Int.reduceBNe, Int.reduceLT, Int.reduceLE, Par.a, Opr.a, Ans.a, nul, List.length_map]
  refine run_loop (rhO l clock R) (k := l.length) ⟨0, by omega, rfl, ?_, ?_, ?_, hR⟩ ?_
  · (simp (maxSteps := 4000000) only [go_sem, ↓reduceIte, reduceCtorEq, Nat.reduceEqDiff, Nat.reduceBEq, Nat.reduceAdd, Nat.reduceSub, Nat.reduceMul, Nat.reduceLT, Nat.reduceLeDiff, Nat.reduceBNe, Int.reduceBEq, Int.reduceBNe, Int.reduceLT, Int.reduceLE, Par.a, Opr.a, Ans.a, nul]) <;> rfl
  · (simp (maxSteps := 4000000) only [go_sem, ↓reduceIte, reduceCtorEq, Nat.reduceEqDiff, Nat.reduceBEq, Nat.reduceAdd, Nat.reduceSub, Nat.reduceMul, Nat.reduceLT, Nat.reduceLeDiff, Nat.reduceBNe, Int.reduceBEq, Int.reduceBNe, Int.reduceLT, Int.reduceLE, Par.a, Opr.a, Ans.a, nul]) <;> rfl
  · (simp (maxSteps := 4000000) only [go_sem, ↓reduceIte, reduceCtorEq, Nat.reduceEqDiff, Nat.reduceBEq, Nat.reduceAdd, Nat.reduceSub, Nat.reduceMul, Nat.reduceLT, Nat.reduceLeDiff, Nat.reduceBNe, Int.reduceBEq, Int.reduceBNe, Int.reduceLT, Int.reduceLE, Par.a, Opr.a, Ans.a, nul]) <;> rfl
  clear hR
  rintro k σ ⟨i, hi, rfl, t0, t1, t5, hr⟩
  simp only [r_rHis_l12]
  by_cases hlt : i < l.length
  case neg =>
    have hlt' : ¬ (i : Int) < (l.length : Int) := by omega
    rw [List.drop_eq_nil_of_le (by omega), histG] at hr
    subst hr
    simp (maxSteps := 4000000) only [go_sem, ↓reduceIte, reduceCtorEq, Nat.reduceEqDiff, Nat.reduceBEq, Nat.reduceAdd, Nat.reduceSub, Nat.reduceMul, Nat.reduceLT, Nat.reduceLeDiff, Nat.reduceBNe, Int.reduceBEq, Int.reduceBNe, Int.reduceLT, Int.reduceLE, Par.a, Opr.a, Ans.a, nul, t0, t1, t5, hlt', List.length_map]
  have hlt' : (i : Int) < (l.length : Int) := by omega
  obtain ⟨x, hx⟩ := get_lt hlt
  have hgx := at_map (f := Evt.a) hx
  have cR := rRt_ok x clock (pa x (List.mem_of_getElem? hx))
  have hw := wrapS (j := i) (by omega)
  have ht1 : l.take i ++ [x] = l.take (i + 1) := by rw [List.take_add_one, hx]; rfl
  rw [drop_at hx, histG, ht1] at hr
  simp only [Evt.a] at hgx cR
  cases q : mayB x clock
  · rw [q] at hr cR
    rw [Bool.false_and] at hr
    subst hr
    (repeat (first | simp (maxSteps := 4000000) only [go_sem, ↓reduceIte, reduceCtorEq, Nat.reduceEqDiff, Nat.reduceBEq, Nat.reduceAdd, Nat.reduceSub, Nat.reduceMul, Nat.reduceLT, Nat.reduceLeDiff, Nat.reduceBNe, Int.reduceBEq, Int.reduceBNe, Int.reduceLT, Int.reduceLE, Par.a, Opr.a, Ans.a, nul, t0, t1, t5, hlt', hgx, hlt, List.length_map, Int.toNat_natCast] | refine calling (cR) ?_ | refine callingH (cR) ?_ | refine And.intro (by omega) ?_ | refine And.intro (fun d hd => by (repeat (rcases hd with rfl | hd; · exact ⟨rfl, rfl⟩)); cases hd) ?_))
  rw [q] at hr cR
  rw [Bool.true_and] at hr
  (repeat (first | simp (maxSteps := 4000000) only [go_sem, ↓reduceIte, reduceCtorEq, Nat.reduceEqDiff, Nat.reduceBEq, Nat.reduceAdd, Nat.reduceSub, Nat.reduceMul, Nat.reduceLT, Nat.reduceLeDiff, Nat.reduceBNe, Int.reduceBEq, Int.reduceBNe, Int.reduceLT, Int.reduceLE, Par.a, Opr.a, Ans.a, nul, t0, t1, t5, hlt', hgx, hlt, List.length_map, Int.toNat_natCast] | refine calling (cR) ?_ | refine callingH (cR) ?_ | refine And.intro (by omega) ?_ | refine And.intro (fun d hd => by (repeat (rcases hd with rfl | hd; · exact ⟨rfl, rfl⟩)); cases hd) ?_))
  obtain ⟨R2, hR2⟩ : ∃ r, (l.take i).all (pairOk x) = r := ⟨_, rfl⟩
  rw [hR2] at hr
  refine run_loop (rhI l clock i x R2) (k := i) ⟨0, by omega, rfl, ?_, ?_, ?_, ?_, hR2⟩ ?_
  · simp (maxSteps := 4000000) only [go_sem, ↓reduceIte, reduceCtorEq, Nat.reduceEqDiff, Nat.reduceBEq, Nat.reduceAdd, Nat.reduceSub, Nat.reduceMul, Nat.reduceLT, Nat.reduceLeDiff, Nat.reduceBNe, Int.reduceBEq, Int.reduceBNe, Int.reduceLT, Int.reduceLE, Par.a, Opr.a, Ans.a, nul, t0]
  · simp (maxSteps := 4000000) only [go_sem, ↓reduceIte, reduceCtorEq, Nat.reduceEqDiff, Nat.reduceBEq, Nat.reduceAdd, Nat.reduceSub, Nat.reduceMul, Nat.reduceLT, Nat.reduceLeDiff, Nat.reduceBNe, Int.reduceBEq, Int.reduceBNe, Int.reduceLT, Int.reduceLE, Par.a, Opr.a, Ans.a, nul, t1]
  · simp (maxSteps := 4000000) only [go_sem, ↓reduceIte, reduceCtorEq, Nat.reduceEqDiff, Nat.reduceBEq, Nat.reduceAdd, Nat.reduceSub, Nat.reduceMul, Nat.reduceLT, Nat.reduceLeDiff, Nat.reduceBNe, Int.reduceBEq, Int.reduceBNe, Int.reduceLT, Int.reduceLE, Par.a, Opr.a, Ans.a, nul, t5]
  · (simp (maxSteps := 4000000) only [go_sem, ↓reduceIte, reduceCtorEq, Nat.reduceEqDiff, Nat.reduceBEq, Nat.reduceAdd, Nat.reduceSub, Nat.reduceMul, Nat.reduceLT, Nat.reduceLeDiff, Nat.reduceBNe, Int.reduceBEq, Int.reduceBNe, Int.reduceLT, Int.reduceLE, Par.a, Opr.a, Ans.a, nul]) <;> rfl
  clear t0 t1 t5 hR2 cR
  rintro k2 σ ⟨j, hj, rfl, t0, t1, t5, t6, h2⟩
  simp only [r_rHis_l10]
  by_cases hjl : j < i
  case neg =>
    have hjl' : ¬ (j : Int) < (i : Int) := by omega
    rw [List.drop_eq_nil_of_le (by rw [List.length_take]; omega), List.all_nil] at h2
    subst h2
    rw [Bool.true_and] at hr
    simp (maxSteps := 4000000) only [go_sem, ↓reduceIte, reduceCtorEq, Nat.reduceEqDiff, Nat.reduceBEq, Nat.reduceAdd, Nat.reduceSub, Nat.reduceMul, Nat.reduceLT, Nat.reduceLeDiff, Nat.reduceBNe, Int.reduceBEq, Int.reduceBNe, Int.reduceLT, Int.reduceLE, Par.a, Opr.a, Ans.a, nul, t0, t1, t5, t6, hjl', hw]
    refine ⟨l.length - (i + 1), by omega, i + 1, by omega, rfl, ?_, ?_, ?_, hr⟩
    · simp (maxSteps := 4000000) only [go_sem, ↓reduceIte, reduceCtorEq, Nat.reduceEqDiff, Nat.reduceBEq, Nat.reduceAdd, Nat.reduceSub, Nat.reduceMul, Nat.reduceLT, Nat.reduceLeDiff, Nat.reduceBNe, Int.reduceBEq, Int.reduceBNe, Int.reduceLT, Int.reduceLE, Par.a, Opr.a, Ans.a, nul, t0]
    · simp (maxSteps := 4000000) only [go_sem, ↓reduceIte, reduceCtorEq, Nat.reduceEqDiff, Nat.reduceBEq, Nat.reduceAdd, Nat.reduceSub, Nat.reduceMul, Nat.reduceLT, Nat.reduceLeDiff, Nat.reduceBNe, Int.reduceBEq, Int.reduceBNe, Int.reduceLT, Int.reduceLE, Par.a, Opr.a, Ans.a, nul, t1]
    · simp (maxSteps := 4000000) only [go_sem, ↓reduceIte, reduceCtorEq, Nat.reduceEqDiff, Nat.reduceBEq, Nat.reduceAdd, Nat.reduceSub, Nat.reduceMul, Nat.reduceLT, Nat.reduceLeDiff, Nat.reduceBNe, Int.reduceBEq, Int.reduceBNe, Int.reduceLT, Int.reduceLE, Par.a, Opr.a, Ans.a, nul, hw]
  have hjl' : (j : Int) < (i : Int) := by omega
  have hjn : j < l.length := by omega
  have hjn' : (j : Int) < (l.length : Int) := by omega
  obtain ⟨y, hy⟩ := get_lt hjn
  have hgy := at_map (f := Evt.a) hy
  have hyt : (l.take i)[j]? = some y := by rw [List.getElem?_take, if_pos hjl]; exact hy
  have cB := rBf_ok y x
  have hwj := wrapS (j := j) (by omega)
  simp only [Evt.a] at hgy cB
  rw [drop_at hyt, List.all_cons] at h2
  have hb : pairOk x y = (decide (y.began < x.began) && (!(y.client == x.client) || befB y x)) := rfl
  rw [hb] at h2
  generalize befB y x = bf at *
  by_cases c1 : y.began < x.began
  case neg =>
    have c1' : x.began ≤ y.began := by omega
    rw [decide_eq_false c1, Bool.false_and, Bool.false_and] at h2
    subst h2
    rw [Bool.false_and] at hr
    subst hr
    (repeat (first | simp (maxSteps := 4000000) only [go_sem, ↓reduceIte, reduceCtorEq, Nat.reduceEqDiff, Nat.reduceBEq, Nat.reduceAdd, Nat.reduceSub, Nat.reduceMul, Nat.reduceLT, Nat.reduceLeDiff, Nat.reduceBNe, Int.reduceBEq, Int.reduceBNe, Int.reduceLT, Int.reduceLE, Par.a, Opr.a, Ans.a, nul, t0, t1, t5, t6, hjl', hjn, hjn', hlt, hlt', hgx, hgy, c1', List.length_map, Int.toNat_natCast] | refine calling (cB) ?_ | refine callingH (cB) ?_ | refine And.intro (by omega) ?_ | refine And.intro (fun d hd => by (repeat (rcases hd with rfl | hd; · exact ⟨rfl, rfl⟩)); cases hd) ?_))
    all_goals omega
  have c1' : ¬ x.began ≤ y.began := by omega
  rw [decide_eq_true c1, Bool.true_and] at h2
  have next : ∀ σ', (((l.take i).drop (j + 1)).all (pairOk x) = R2) → σ'.T 0 = .sl (l.map Evt.a) → σ'.T 1 = .int .i64 clock → σ'.T 5 = .int .i64 i → σ'.T 6 = .int .i64 ((j + 1 : Nat) : Int) → ∃ m, m < i - j ∧ rhI l clock i x R2 m σ' := fun σ' a b c d e =>
    ⟨i - (j + 1), by omega, j + 1, by omega, rfl, b, c, d, e, a⟩
  cases c2 : y.client == x.client
  · rw [c2] at h2
    simp only [Bool.not_false, Bool.true_or, Bool.true_and] at h2
    (repeat (first | simp (maxSteps := 4000000) only [go_sem, ↓reduceIte, reduceCtorEq, Nat.reduceEqDiff, Nat.reduceBEq, Nat.reduceAdd, Nat.reduceSub, Nat.reduceMul, Nat.reduceLT, Nat.reduceLeDiff, Nat.reduceBNe, Int.reduceBEq, Int.reduceBNe, Int.reduceLT, Int.reduceLE, Par.a, Opr.a, Ans.a, nul, t0, t1, t5, t6, hjl', hjn, hjn', hlt, hlt', hgx, hgy, c1', c2, hwj, List.length_map, Int.toNat_natCast] | refine calling (cB) ?_ | refine callingH (cB) ?_ | refine And.intro (by omega) ?_ | refine And.intro (fun d hd => by (repeat (rcases hd with rfl | hd; · exact ⟨rfl, rfl⟩)); cases hd) ?_))
    refine next _ h2 ?_ ?_ ?_ ?_
    · simp (maxSteps := 4000000) only [go_sem, ↓reduceIte, reduceCtorEq, Nat.reduceEqDiff, Nat.reduceBEq, Nat.reduceAdd, Nat.reduceSub, Nat.reduceMul, Nat.reduceLT, Nat.reduceLeDiff, Nat.reduceBNe, Int.reduceBEq, Int.reduceBNe, Int.reduceLT, Int.reduceLE, Par.a, Opr.a, Ans.a, nul, t0]
    · simp (maxSteps := 4000000) only [go_sem, ↓reduceIte, reduceCtorEq, Nat.reduceEqDiff, Nat.reduceBEq, Nat.reduceAdd, Nat.reduceSub, Nat.reduceMul, Nat.reduceLT, Nat.reduceLeDiff, Nat.reduceBNe, Int.reduceBEq, Int.reduceBNe, Int.reduceLT, Int.reduceLE, Par.a, Opr.a, Ans.a, nul, t1]
    · simp (maxSteps := 4000000) only [go_sem, ↓reduceIte, reduceCtorEq, Nat.reduceEqDiff, Nat.reduceBEq, Nat.reduceAdd, Nat.reduceSub, Nat.reduceMul, Nat.reduceLT, Nat.reduceLeDiff, Nat.reduceBNe, Int.reduceBEq, Int.reduceBNe, Int.reduceLT, Int.reduceLE, Par.a, Opr.a, Ans.a, nul, t5]
    · simp (maxSteps := 4000000) only [go_sem, ↓reduceIte, reduceCtorEq, Nat.reduceEqDiff, Nat.reduceBEq, Nat.reduceAdd, Nat.reduceSub, Nat.reduceMul, Nat.reduceLT, Nat.reduceLeDiff, Nat.reduceBNe, Int.reduceBEq, Int.reduceBNe, Int.reduceLT, Int.reduceLE, Par.a, Opr.a, Ans.a, nul, hwj]
  · rw [c2] at h2
    cases bf
    · simp only [Bool.not_true, Bool.or_self, Bool.false_and] at h2
      subst h2
      rw [Bool.false_and] at hr
      subst hr
      (repeat (first | simp (maxSteps := 4000000) only [go_sem, ↓reduceIte, reduceCtorEq, Nat.reduceEqDiff, Nat.reduceBEq, Nat.reduceAdd, Nat.reduceSub, Nat.reduceMul, Nat.reduceLT, Nat.reduceLeDiff, Nat.reduceBNe, Int.reduceBEq, Int.reduceBNe, Int.reduceLT, Int.reduceLE, Par.a, Opr.a, Ans.a, nul, t0, t1, t5, t6, hjl', hjn, hjn', hlt, hlt', hgx, hgy, c1', c2, List.length_map, Int.toNat_natCast] | refine calling (cB) ?_ | refine callingH (cB) ?_ | refine And.intro (by omega) ?_ | refine And.intro (fun d hd => by (repeat (rcases hd with rfl | hd; · exact ⟨rfl, rfl⟩)); cases hd) ?_))
      all_goals omega
    · simp only [Bool.or_true, Bool.true_and] at h2
      (repeat (first | simp (maxSteps := 4000000) only [go_sem, ↓reduceIte, reduceCtorEq, Nat.reduceEqDiff, Nat.reduceBEq, Nat.reduceAdd, Nat.reduceSub, Nat.reduceMul, Nat.reduceLT, Nat.reduceLeDiff, Nat.reduceBNe, Int.reduceBEq, Int.reduceBNe, Int.reduceLT, Int.reduceLE, Par.a, Opr.a, Ans.a, nul, t0, t1, t5, t6, hjl', hjn, hjn', hlt, hlt', hgx, hgy, c1', c2, hwj, List.length_map, Int.toNat_natCast] | refine calling (cB) ?_ | refine callingH (cB) ?_ | refine And.intro (by omega) ?_ | refine And.intro (fun d hd => by (repeat (rcases hd with rfl | hd; · exact ⟨rfl, rfl⟩)); cases hd) ?_))
      refine next _ h2 ?_ ?_ ?_ ?_
      · simp (maxSteps := 4000000) only [go_sem, ↓reduceIte, reduceCtorEq, Nat.reduceEqDiff, Nat.reduceBEq, Nat.reduceAdd, Nat.reduceSub, Nat.reduceMul, Nat.reduceLT, Nat.reduceLeDiff, Nat.reduceBNe, Int.reduceBEq, Int.reduceBNe, Int.reduceLT, Int.reduceLE, Par.a, Opr.a, Ans.a, nul, t0]
      · simp (maxSteps := 4000000) only [go_sem, ↓reduceIte, reduceCtorEq, Nat.reduceEqDiff, Nat.reduceBEq, Nat.reduceAdd, Nat.reduceSub, Nat.reduceMul, Nat.reduceLT, Nat.reduceLeDiff, Nat.reduceBNe, Int.reduceBEq, Int.reduceBNe, Int.reduceLT, Int.reduceLE, Par.a, Opr.a, Ans.a, nul, t1]
      · simp (maxSteps := 4000000) only [go_sem, ↓reduceIte, reduceCtorEq, Nat.reduceEqDiff, Nat.reduceBEq, Nat.reduceAdd, Nat.reduceSub, Nat.reduceMul, Nat.reduceLT, Nat.reduceLeDiff, Nat.reduceBNe, Int.reduceBEq, Int.reduceBNe, Int.reduceLT, Int.reduceLE, Par.a, Opr.a, Ans.a, nul, t5]
      · simp (maxSteps := 4000000) only [go_sem, ↓reduceIte, reduceCtorEq, Nat.reduceEqDiff, Nat.reduceBEq, Nat.reduceAdd, Nat.reduceSub, Nat.reduceMul, Nat.reduceLT, Nat.reduceLeDiff, Nat.reduceBNe, Int.reduceBEq, Int.reduceBNe, Int.reduceLT, Int.reduceLE, Par.a, Opr.a, Ans.a, nul, hwj]
end
section
/-
  Histories: to look at the last event of each client is to look at all pairs: the plain law.
-/
open Go.RowKit
set_option linter.unusedVariables false
set_option linter.unusedSimpArgs false
/-- the same, what was met from the last one on -/
def histR (clock : Int) : List Evt → List Evt → Bool
  | _, [] => true
  | p, x :: r => mayB x clock && (p.all (pairOk x) && histR clock (x :: p) r)
theorem histG_rev (clock : Int) : ∀ (r p : List Evt), histG clock p r = histR clock p.reverse r
  | [], p => rfl
  | x :: r, p => by
    rw [histG, histR, histG_rev clock r (p ++ [x]), List.reverse_append, List.all_reverse]
    rfl
def lastB (p : List Evt) : Int := (p.head?.map Evt.began).getD 0
def lastC (p : List Evt) (x : Evt) : Bool := ((p.find? fun e => e.client == x.client).map fun z => befB z x).getD true
def progR (clock : Int) : List Evt → List Evt → Bool
  | _, [] => true
  | p, x :: r => mayB x clock && (decide (lastB p < x.began) && lastC p x && progR clock (x :: p) r)
theorem pairOk_began {x y : Evt} (h : pairOk x y = true) : y.began < x.began := by
  unfold pairOk at h
  rw [Bool.and_eq_true, decide_eq_true_eq] at h
  exact h.1
theorem pairOk_bef {x y : Evt} (h : pairOk x y = true) (hc : y.client = x.client) : befB y x = true := by
  unfold pairOk at h
  rw [Bool.and_eq_true, Bool.or_eq_true, Bool.not_eq_true'] at h
  rcases h.2 with q | q
  · rw [hc] at q; simp at q
  · exact q
theorem befB_of {x y : Evt} : befB y x = true ↔ y.done = true ∧ y.ended < x.began := by
  unfold befB
  rw [Bool.and_eq_true, decide_eq_true_eq]
theorem look_last : ∀ {p : List Evt} {x : Evt}, p.Pairwise (fun a b => pairOk a b = true) → (∀ y, y ∈ p → 1 ≤ y.began) → 1 ≤ x.began → p.all (pairOk x) = (decide (lastB p < x.began) && lastC p x) := by
  intro p x hp h1 hx
  apply Bool.eq_iff_iff.2
  rw [List.all_eq_true, Bool.and_eq_true, decide_eq_true_eq]
  constructor
  · intro h
    refine ⟨?_, ?_⟩
    · unfold lastB
      cases p with
      | nil => show (0 : Int) < _; omega
      | cons y p => exact pairOk_began (h y (List.mem_cons_self ..))
    · unfold lastC
      cases hf : p.find? fun e => e.client == x.client with
      | none => rfl
      | some z =>
        have hz := List.mem_of_find?_eq_some hf
        have hc := List.find?_some hf
        exact pairOk_bef (h z hz) (by simpa using hc)
  · rintro ⟨hb, hc⟩
    have hbeg : ∀ y, y ∈ p → y.began < x.began := by
      intro y hy
      cases p with
      | nil => cases hy
      | cons w p =>
        have hw : w.began < x.began := hb
        rcases List.mem_cons.1 hy with e | e
        · rw [e]; exact hw
        · have := pairOk_began ((List.pairwise_cons.1 hp).1 y e)
          omega
    intro y hy
    unfold pairOk
    rw [Bool.and_eq_true, decide_eq_true_eq, Bool.or_eq_true, Bool.not_eq_true']
    refine ⟨hbeg y hy, ?_⟩
    by_cases hyc : y.client = x.client
    case neg => exact .inl (by simpa using hyc)
    right
    clear hb h1
    induction p with
    | nil => cases hy
    | cons w p ih =>
      have hpw := List.pairwise_cons.1 hp
      by_cases hwc : w.client = x.client
      · have hw : befB w x = true := by
          unfold lastC at hc
          rw [List.find?_cons_of_pos (by simpa using hwc)] at hc
          exact hc
        rcases List.mem_cons.1 hy with e | e
        · rw [e]; exact hw
        · have g := pairOk_bef (hpw.1 y e) (by rw [hyc, hwc])
          have g2 := hbeg w (List.mem_cons_self ..)
          rw [befB_of] at g ⊢
          exact ⟨g.1, by omega⟩
      · have hc' : lastC p x = true := by
          unfold lastC at hc ⊢
          rw [List.find?_cons_of_neg (by simpa using hwc)] at hc
          exact hc
        rcases List.mem_cons.1 hy with e | e
        · rw [e] at hyc; exact absurd hyc hwc
        · exact ih hpw.2 hc' (fun z hz => hbeg z (List.mem_cons_of_mem _ hz)) e
theorem mayB_began {x : Evt} {clock : Int} (h : mayB x clock = true) : 1 ≤ x.began := by
  unfold mayB mayA at h
  rw [Bool.and_eq_true, decide_eq_true_eq] at h
  exact h.1.2.1
theorem prog_hist (clock : Int) : ∀ (r p : List Evt), p.Pairwise (fun a b => pairOk a b = true) → (∀ y, y ∈ p → 1 ≤ y.began) → progR clock p r = histR clock p r
  | [], p, _, _ => rfl
  | x :: r, p, hp, h1 => by
    rw [progR, histR]
    cases hm : mayB x clock with
    | false => rfl
    | true =>
      have hx := mayB_began hm
      rw [Bool.true_and, Bool.true_and, ← look_last hp h1 hx]
      cases ha : p.all (pairOk x) with
      | false => rfl
      | true =>
        rw [Bool.true_and, Bool.true_and]
        refine prog_hist clock r (x :: p) (List.pairwise_cons.2 ⟨fun y hy => List.all_eq_true.1 ha y hy, hp⟩) fun y hy => ?_
        rcases List.mem_cons.1 hy with e | e
        · rw [e]; exact hx
        · exact h1 y e
/-- what the code looks at is what the document says -/
theorem hist_same (l : List Evt) (clock : Int) : progR clock [] l = histB l clock := by
  unfold histB
  rw [histG_rev, prog_hist clock l [] List.Pairwise.nil (fun y hy => by cases hy)]
  rfl
end
end Go.Proofs.Ytjkicoiiadgebaa
