/-
  Layer 6: what stands between blanks, and the law PackWords.
-/
import Derived.Test.YtgpoglaojklfbaaDoorPkH
namespace Go.Proofs.YtgpoglaojklfbaaDoor
open Go.RowKit
set_option linter.unusedVariables false
set_option linter.unusedSimpArgs false
set_option maxRecDepth 100000
attribute [local go_sem ↓] runOp headOp
attribute [local go_sem] ev0 ev1 ev2 ev3 ev4 evA stHOk.eq_1 stHOk.eq_2 stHSt.eq_1 stHSt.eq_2 okV valV fzV okF valF okBld valBld mxOk.eq_1 mxOk.eq_2 mxVal.eq_1 mxVal.eq_2 cellFit.eq_1 cellFit.eq_2 cellFit.eq_3 cellEq.eq_1 cellEq.eq_2 cellEq.eq_3 upd_at AV.flatB AV.flatBs binIok binIV binSok binSV cellsOk.eq_1 cellsOk.eq_2 cellsVal.eq_1 cellsVal.eq_2 objCells.eq_1 objCells.eq_2 objZ.eq_1 objZ.eq_2 objProt.eq_1 objProt.eq_2 oneObj ptrOk.eq_1 ptrOk.eq_2 ptrOk.eq_3 ptrCells.eq_1 ptrCells.eq_2 ptrCells.eq_3 lenOk.eq_1 lenOk.eq_2 lenOk.eq_3 lenOk.eq_4 lenVal.eq_1 lenVal.eq_2 lenVal.eq_3 lenVal.eq_4 faOk.eq_1 faOk.eq_2 faOk.eq_3 faVal.eq_1 faVal.eq_2 faVal.eq_3 iaOk.eq_1 iaOk.eq_2 iaOk.eq_3 iaVal.eq_1 iaVal.eq_2 iaVal.eq_3 slcLen.eq_1 slcLen.eq_2 slcLen.eq_3 slcLen.eq_4 bdOk.eq_1 bdOk.eq_2 bdVal.eq_1 bdVal.eq_2 slcOk.eq_1 slcOk.eq_2 slcOk.eq_3 slcOk.eq_4 slcVal.eq_1 slcVal.eq_2 slcVal.eq_3 slcVal.eq_4 slcFz.eq_1 slcFz.eq_2 byOk.eq_1 byOk.eq_2 byOk.eq_3 byOk.eq_4 byOk.eq_5 byOk.eq_6 byVal.eq_1 byVal.eq_2 byVal.eq_3 byFz.eq_1 byFz.eq_2 byFz.eq_3 byOks byVals byFzs allOne resSt.eq_1 resSt.eq_2 resName.eq_1 resName.eq_2 stOk.eq_1 stOk.eq_2 stArr.eq_1 stArr.eq_2 stSt.eq_1 stSt.eq_2 AV.patch nameOk_none gB.eq_1 gB.eq_2 gB.eq_3 gIs.eq_1 gIs.eq_2 gIs.eq_3 retV resV resVs evalV cellsV St.byval List.getD_cons_zero List.getD_cons_succ List.getD_nil List.map_cons List.map_nil List.length_cons List.length_nil List.take_succ_cons List.take_zero List.drop_succ_cons List.drop_zero List.headD_cons List.set_cons_zero List.append_nil List.nil_append List.cons_append List.contains_cons List.contains_nil List.elem_cons List.elem_nil List.all_cons List.all_nil List.getElem?_cons_zero List.getElem?_cons_succ List.filterMap_cons List.filterMap_nil Option.isSome_some Option.isSome_none Option.map_some Option.map_none Option.some.injEq AV.int.injEq AV.bool.injEq AV.str.injEq AV.tup.injEq AV.agg.injEq AV.sl.injEq List.cons.injEq Bool.false_eq_true Bool.true_eq_false Bool.not_true Bool.not_false Bool.and_true Bool.true_and Bool.or_false Bool.or_true Bool.false_or Bool.true_or Bool.or_self Bool.and_self Bool.not_eq_true' Bool.not_eq_false' Bool.not_not beq_self_eq_true true_and and_true false_and and_false and_self not_true_eq_false not_false_eq_true forall_const true_implies false_implies implies_true imp_self Nat.lt_add_one Nat.le_refl Nat.zero_le Nat.add_zero Nat.zero_add decide_true decide_false decide_eq_true_eq decide_eq_false_iff_not exists_eq_left exists_eq_left' ge_iff_le gt_iff_lt ite_branch ite_branch' nilOk.eq_1 nilOk.eq_2 nilMay.eq_1 nilMay.eq_2 AV.isSl.eq_1 objTy'.eq_1 objTy'.eq_2 apSt.eq_1 apArr.eq_1 apArr.eq_2 slOf.eq_1 fitsV List.mem_cons List.not_mem_nil Bool.false_and Bool.and_false primOk.eq_1 primOk.eq_2 primOk.eq_3 primOk.eq_4 primOk.eq_5 primVal.eq_1 primVal.eq_2 primVal.eq_3 primVal.eq_4 primVal.eq_5 mOk.eq_1 mOk.eq_2 mVal.eq_1 mVal.eq_2 mFz.eq_1 mFz.eq_2 mOks mVals mFzs mCalOk.eq_1 mCalOk.eq_2 mFn.eq_1 mFn.eq_2 mArgs.eq_1 mArgs.eq_2 ckOk.eq_1 ckOk.eq_2 cloOk.eq_1 ptrAt.eq_1 sh.eq_1 sh.eq_2 sh.eq_3 sh.eq_4 retM shH_small
/-! ### percolate/percolateref06.Words -/
def r_rWords_0 : Reg := ⟨[], [⟨(.mknil 1 9), (some 2), none, [], []⟩], [2], [], false⟩
def r_rWords_1 : Reg := ⟨[], [⟨(.bsl 1 9 [(.c (.str ⟨#[]⟩))]), (some 5), none, [], []⟩, ⟨(.mv (.t 5)), (some 3), none, [], []⟩], [5], [], false⟩
def r_rWords_2 : Reg := ⟨[], [⟨(.mv (.c (.int .i64 0))), (some 4), none, [], []⟩], [], [], false⟩
def r_rWords_3 : Reg := ⟨[], [⟨(.mv (.t 4)), (some 6), none, [], []⟩, ⟨(.mv (.t 0)), (some 7), none, [], []⟩, ⟨(.len true (.t 7)), (some 8), none, [], []⟩, ⟨(.bin .lss (.t 6) (.t 8)), (some 9), none, [], []⟩], [], [], false⟩
def r_rWords_4 : Reg := ⟨[], [⟨(.mv (.t 0)), (some 12), none, [], []⟩, ⟨(.mv (.t 4)), (some 13), none, [], []⟩, ⟨(.idx (.t 12) (.t 13)), (some 14), none, [], []⟩, ⟨(.bin .eql (.t 14) (.c (.int .u8 32))), (some 15), none, [], []⟩], [], [], false⟩
def r_rWords_5 : Reg := ⟨[], [⟨(.mv (.t 3)), (some 16), none, [17], []⟩, ⟨(.bsl 1 9 [(.c (.str ⟨#[]⟩))]), (some 17), none, [], []⟩, ⟨(.append 1 9 16 (.t 16) (.t 17)), (some 18), none, [], []⟩, ⟨(.mv (.t 18)), (some 3), none, [], []⟩], [17], [], false⟩
def r_rWords_6 : Reg := ⟨[⟨(.mv (.t 3)), (some 19), none, [], []⟩, ⟨(.mv (.t 3)), (some 20), none, [], []⟩, ⟨(.len false (.t 20)), (some 21), none, [], []⟩, ⟨(.bin .sub (.t 21) (.c (.int .i64 1))), (some 22), none, [], []⟩, ⟨(.iaddr 1 (.t 19) (.t 22)), (some 23), none, [], []⟩, ⟨(.load 1 false (.t 23)), (some 24), none, [], []⟩, ⟨(.mv (.t 0)), (some 25), none, [], []⟩, ⟨(.mv (.t 4)), (some 26), none, [], []⟩, ⟨(.mv (.t 4)), (some 27), none, [], []⟩, ⟨(.bin .add (.t 27) (.c (.int .i64 1))), (some 28), none, [], []⟩, ⟨(.slc true 0 (.t 25) (some (.t 26)) (some (.t 28))), (some 29), none, [], []⟩], [⟨(.bin .add (.t 24) (.t 29)), (some 30), none, [], []⟩, ⟨(.iaddr 1 (.t 19) (.t 22)), (some 31), none, [], []⟩, ⟨(.store 1 (.t 31) (.t 30)), none, none, [], [3]⟩], [], [], true⟩
def r_rWords_7 : Reg := ⟨[], [⟨(.mv (.t 4)), (some 10), none, [], []⟩, ⟨(.bin .add (.t 10) (.c (.int .i64 1))), (some 11), none, [], []⟩, ⟨(.mv (.t 11)), (some 4), none, [], []⟩], [], [], false⟩
def r_rWords_l8 : IR := (.seq (.seq (.reg r_rWords_3)
  (.cond (.t 9) .skip
  (.exit 0)))
  (.seq (.block 1 (.seq (.reg r_rWords_4)
  (.cond (.t 15) (.reg r_rWords_5)
  (.reg r_rWords_6))))
  (.reg r_rWords_7)))
def r_rWords_9 : Reg := ⟨[], [⟨(.mv (.t 3)), (some 32), none, [], []⟩, ⟨(.mv (.t 32)), (some 2), none, [], []⟩], [], [], false⟩
def ir_rWords : IR := (.seq (.reg r_rWords_0)
  (.seq (.reg r_rWords_1)
  (.seq (.seq (.reg r_rWords_2)
  (.block 0 (.loop r_rWords_l8)))
  (.seq (.reg r_rWords_9)
  .ret))))
def res_rWords : List RDesc := [(.tmp 2)]
theorem e_rWords_0 (C : FuncId → List AV → AV → Prop) (σ : St) (K : St → Prop) : runReg C r_rWords_0 σ K = runOps C [⟨(.mknil 1 9), (some 2), none, [], []⟩] (σ.kills [2]) K := rfl
theorem e_rWords_1 (C : FuncId → List AV → AV → Prop) (σ : St) (K : St → Prop) : runReg C r_rWords_1 σ K = runOps C [⟨(.bsl 1 9 [(.c (.str ⟨#[]⟩))]), (some 5), none, [], []⟩, ⟨(.mv (.t 5)), (some 3), none, [], []⟩] (σ.kills [5]) K := rfl
theorem e_rWords_2 (C : FuncId → List AV → AV → Prop) (σ : St) (K : St → Prop) : runReg C r_rWords_2 σ K = runOps C [⟨(.mv (.c (.int .i64 0))), (some 4), none, [], []⟩] (σ.kills []) K := rfl
theorem e_rWords_3 (C : FuncId → List AV → AV → Prop) (σ : St) (K : St → Prop) : runReg C r_rWords_3 σ K = runOps C [⟨(.mv (.t 4)), (some 6), none, [], []⟩, ⟨(.mv (.t 0)), (some 7), none, [], []⟩, ⟨(.len true (.t 7)), (some 8), none, [], []⟩, ⟨(.bin .lss (.t 6) (.t 8)), (some 9), none, [], []⟩] (σ.kills []) K := rfl
theorem e_rWords_4 (C : FuncId → List AV → AV → Prop) (σ : St) (K : St → Prop) : runReg C r_rWords_4 σ K = runOps C [⟨(.mv (.t 0)), (some 12), none, [], []⟩, ⟨(.mv (.t 4)), (some 13), none, [], []⟩, ⟨(.idx (.t 12) (.t 13)), (some 14), none, [], []⟩, ⟨(.bin .eql (.t 14) (.c (.int .u8 32))), (some 15), none, [], []⟩] (σ.kills []) K := rfl
theorem e_rWords_5 (C : FuncId → List AV → AV → Prop) (σ : St) (K : St → Prop) : runReg C r_rWords_5 σ K = runOps C [⟨(.mv (.t 3)), (some 16), none, [17], []⟩, ⟨(.bsl 1 9 [(.c (.str ⟨#[]⟩))]), (some 17), none, [], []⟩, ⟨(.append 1 9 16 (.t 16) (.t 17)), (some 18), none, [], []⟩, ⟨(.mv (.t 18)), (some 3), none, [], []⟩] (σ.kills [17]) K := rfl
theorem e_rWords_6 (C : FuncId → List AV → AV → Prop) (σ : St) (K : St → Prop) : runReg C r_rWords_6 σ K = runHead C [] [⟨(.bin .add (.t 24) (.t 29)), (some 30), none, [], []⟩, ⟨(.iaddr 1 (.t 19) (.t 22)), (some 31), none, [], []⟩, ⟨(.store 1 (.t 31) (.t 30)), none, none, [], [3]⟩] [⟨(.mv (.t 3)), (some 19), none, [], []⟩, ⟨(.mv (.t 3)), (some 20), none, [], []⟩, ⟨(.len false (.t 20)), (some 21), none, [], []⟩, ⟨(.bin .sub (.t 21) (.c (.int .i64 1))), (some 22), none, [], []⟩, ⟨(.iaddr 1 (.t 19) (.t 22)), (some 23), none, [], []⟩, ⟨(.load 1 false (.t 23)), (some 24), none, [], []⟩, ⟨(.mv (.t 0)), (some 25), none, [], []⟩, ⟨(.mv (.t 4)), (some 26), none, [], []⟩, ⟨(.mv (.t 4)), (some 27), none, [], []⟩, ⟨(.bin .add (.t 27) (.c (.int .i64 1))), (some 28), none, [], []⟩, ⟨(.slc true 0 (.t 25) (some (.t 26)) (some (.t 28))), (some 29), none, [], []⟩] (σ.kills []) K := rfl
theorem e_rWords_7 (C : FuncId → List AV → AV → Prop) (σ : St) (K : St → Prop) : runReg C r_rWords_7 σ K = runOps C [⟨(.mv (.t 4)), (some 10), none, [], []⟩, ⟨(.bin .add (.t 10) (.c (.int .i64 1))), (some 11), none, [], []⟩, ⟨(.mv (.t 11)), (some 4), none, [], []⟩] (σ.kills []) K := rfl
theorem e_rWords_9 (C : FuncId → List AV → AV → Prop) (σ : St) (K : St → Prop) : runReg C r_rWords_9 σ K = runOps C [⟨(.mv (.t 3)), (some 32), none, [], []⟩, ⟨(.mv (.t 32)), (some 2), none, [], []⟩] (σ.kills []) K := rfl
theorem fn_rWords {args : List AV} {r : AV} (ha : args.length.ble Tryd.f17.ntmps = true) (h : run (AFn Tryd.prog) ir_rWords (endQ res_rWords r) (initSt args)) : AFn Tryd.prog 17 args r :=
  AFn.of_code (hint := fun _ => []) (c := Tryd.f17.body.getD .skip) (by kernel_rfl) (by kernel_rfl) Tryd.func17 (by kernel_rfl) (by kernel_rfl) (by kernel_rfl) (of_decide_eq_true (by kernel_rfl)) (Nat.le_of_ble_eq_true ha) (Nat.le_of_ble_eq_true (by kernel_rfl)) (run_ok h)

/-! ### percolate/percolateref01.Same -/
def r_rSame_0 : Reg := ⟨[], [⟨(.mv (.c (.bool false))), (some 4), none, [], []⟩], [], [], false⟩
def r_rSame_1 : Reg := ⟨[], [⟨(.mv (.t 0)), (some 6), none, [], []⟩, ⟨(.len false (.t 6)), (some 7), none, [], []⟩, ⟨(.mv (.t 1)), (some 8), none, [], []⟩, ⟨(.len false (.t 8)), (some 9), none, [], []⟩, ⟨(.bin .neq (.t 7) (.t 9)), (some 10), none, [], []⟩], [], [], false⟩
def r_rSame_2 : Reg := ⟨[], [⟨(.mv (.c (.bool false))), (some 4), none, [], []⟩], [], [], false⟩
def r_rSame_3 : Reg := ⟨[], [⟨(.mv (.c (.int .i64 0))), (some 5), none, [], []⟩], [], [], false⟩
def r_rSame_4 : Reg := ⟨[], [⟨(.mv (.t 5)), (some 11), none, [], []⟩, ⟨(.mv (.t 0)), (some 12), none, [], []⟩, ⟨(.len false (.t 12)), (some 13), none, [], []⟩, ⟨(.bin .lss (.t 11) (.t 13)), (some 14), none, [], []⟩], [], [], false⟩
def r_rSame_5 : Reg := ⟨[⟨(.mv (.t 0)), (some 17), none, [], []⟩, ⟨(.mv (.t 5)), (some 18), none, [], []⟩, ⟨(.iaddr 1 (.t 17) (.t 18)), (some 19), none, [], []⟩, ⟨(.load 1 false (.t 19)), (some 20), none, [], []⟩, ⟨(.mv (.t 1)), (some 21), none, [], []⟩, ⟨(.mv (.t 5)), (some 22), none, [], []⟩, ⟨(.iaddr 1 (.t 21) (.t 22)), (some 23), none, [], []⟩, ⟨(.load 1 false (.t 23)), (some 24), none, [], []⟩], [⟨(.bin .neq (.t 20) (.t 24)), (some 25), none, [], []⟩], [], [], true⟩
def r_rSame_6 : Reg := ⟨[], [⟨(.mv (.c (.bool false))), (some 4), none, [], []⟩], [], [], false⟩
def r_rSame_7 : Reg := ⟨[], [⟨(.mv (.t 5)), (some 15), none, [], []⟩, ⟨(.bin .add (.t 15) (.c (.int .i64 1))), (some 16), none, [], []⟩, ⟨(.mv (.t 16)), (some 5), none, [], []⟩], [], [], false⟩
def r_rSame_l8 : IR := (.seq (.seq (.reg r_rSame_4)
  (.cond (.t 14) .skip
  (.exit 0)))
  (.seq (.block 1 (.seq (.reg r_rSame_5)
  (.cond (.t 25) (.seq (.reg r_rSame_6)
  .ret)
  .skip)))
  (.reg r_rSame_7)))
def r_rSame_9 : Reg := ⟨[], [⟨(.mv (.c (.bool true))), (some 4), none, [], []⟩], [], [], false⟩
def ir_rSame : IR := (.seq (.reg r_rSame_0)
  (.seq (.seq (.reg r_rSame_1)
  (.cond (.t 10) (.seq (.reg r_rSame_2)
  .ret)
  .skip))
  (.seq (.seq (.reg r_rSame_3)
  (.block 0 (.loop r_rSame_l8)))
  (.seq (.reg r_rSame_9)
  .ret))))
def res_rSame : List RDesc := [(.tmp 4)]
theorem e_rSame_0 (C : FuncId → List AV → AV → Prop) (σ : St) (K : St → Prop) : runReg C r_rSame_0 σ K = runOps C [⟨(.mv (.c (.bool false))), (some 4), none, [], []⟩] (σ.kills []) K := rfl
theorem e_rSame_1 (C : FuncId → List AV → AV → Prop) (σ : St) (K : St → Prop) : runReg C r_rSame_1 σ K = runOps C [⟨(.mv (.t 0)), (some 6), none, [], []⟩, ⟨(.len false (.t 6)), (some 7), none, [], []⟩, ⟨(.mv (.t 1)), (some 8), none, [], []⟩, ⟨(.len false (.t 8)), (some 9), none, [], []⟩, ⟨(.bin .neq (.t 7) (.t 9)), (some 10), none, [], []⟩] (σ.kills []) K := rfl
theorem e_rSame_2 (C : FuncId → List AV → AV → Prop) (σ : St) (K : St → Prop) : runReg C r_rSame_2 σ K = runOps C [⟨(.mv (.c (.bool false))), (some 4), none, [], []⟩] (σ.kills []) K := rfl
theorem e_rSame_3 (C : FuncId → List AV → AV → Prop) (σ : St) (K : St → Prop) : runReg C r_rSame_3 σ K = runOps C [⟨(.mv (.c (.int .i64 0))), (some 5), none, [], []⟩] (σ.kills []) K := rfl
theorem e_rSame_4 (C : FuncId → List AV → AV → Prop) (σ : St) (K : St → Prop) : runReg C r_rSame_4 σ K = runOps C [⟨(.mv (.t 5)), (some 11), none, [], []⟩, ⟨(.mv (.t 0)), (some 12), none, [], []⟩, ⟨(.len false (.t 12)), (some 13), none, [], []⟩, ⟨(.bin .lss (.t 11) (.t 13)), (some 14), none, [], []⟩] (σ.kills []) K := rfl
theorem e_rSame_5 (C : FuncId → List AV → AV → Prop) (σ : St) (K : St → Prop) : runReg C r_rSame_5 σ K = runHead C [] [⟨(.bin .neq (.t 20) (.t 24)), (some 25), none, [], []⟩] [⟨(.mv (.t 0)), (some 17), none, [], []⟩, ⟨(.mv (.t 5)), (some 18), none, [], []⟩, ⟨(.iaddr 1 (.t 17) (.t 18)), (some 19), none, [], []⟩, ⟨(.load 1 false (.t 19)), (some 20), none, [], []⟩, ⟨(.mv (.t 1)), (some 21), none, [], []⟩, ⟨(.mv (.t 5)), (some 22), none, [], []⟩, ⟨(.iaddr 1 (.t 21) (.t 22)), (some 23), none, [], []⟩, ⟨(.load 1 false (.t 23)), (some 24), none, [], []⟩] (σ.kills []) K := rfl
theorem e_rSame_6 (C : FuncId → List AV → AV → Prop) (σ : St) (K : St → Prop) : runReg C r_rSame_6 σ K = runOps C [⟨(.mv (.c (.bool false))), (some 4), none, [], []⟩] (σ.kills []) K := rfl
theorem e_rSame_7 (C : FuncId → List AV → AV → Prop) (σ : St) (K : St → Prop) : runReg C r_rSame_7 σ K = runOps C [⟨(.mv (.t 5)), (some 15), none, [], []⟩, ⟨(.bin .add (.t 15) (.c (.int .i64 1))), (some 16), none, [], []⟩, ⟨(.mv (.t 16)), (some 5), none, [], []⟩] (σ.kills []) K := rfl
theorem e_rSame_9 (C : FuncId → List AV → AV → Prop) (σ : St) (K : St → Prop) : runReg C r_rSame_9 σ K = runOps C [⟨(.mv (.c (.bool true))), (some 4), none, [], []⟩] (σ.kills []) K := rfl
theorem fn_rSame {args : List AV} {r : AV} (ha : args.length.ble Tryd.f15.ntmps = true) (h : run (AFn Tryd.prog) ir_rSame (endQ res_rSame r) (initSt args)) : AFn Tryd.prog 15 args r :=
  AFn.of_code (hint := fun _ => []) (c := Tryd.f15.body.getD .skip) (by kernel_rfl) (by kernel_rfl) Tryd.func15 (by kernel_rfl) (by kernel_rfl) (by kernel_rfl) (of_decide_eq_true (by kernel_rfl)) (Nat.le_of_ble_eq_true ha) (Nat.le_of_ble_eq_true (by kernel_rfl)) (run_ok h)

/-! ### percolate/percolatelaw06.PackWords -/
def r_wordsL_0 : Reg := ⟨[], [⟨(.mv (.c (.bool false))), (some 2), none, [], []⟩], [], [], false⟩
def r_wordsL_1 : Reg := ⟨[], [⟨(.mv (.t 0)), (some 3), none, [7, 15, 17, 18, 21], []⟩, ⟨(.len true (.t 3)), (some 4), none, [7, 15, 17, 18, 21], []⟩, ⟨(.bin .gtr (.t 4) (.c (.int .i64 1000))), (some 5), none, [7, 15, 17, 18, 21], []⟩, ⟨(.mv (.t 5)), (some 6), none, [7, 15, 17, 18, 21], []⟩, ⟨(.callv (.c (.clo 10 [] [])) []), (some 7), (some (6, true)), [15, 17, 18, 21], []⟩, ⟨(.pick (.t 6) (.t 7) (.c (.bool false))), (some 8), none, [15, 17, 18, 21], []⟩, ⟨(.mv (.t 8)), (some 9), none, [15, 17, 18, 21], []⟩, ⟨(.mv (.t 0)), (some 10), (some (9, false)), [15, 17, 18, 21], []⟩, ⟨(.len true (.t 10)), (some 11), (some (9, false)), [15, 17, 18, 21], []⟩, ⟨(.bin .leq (.t 11) (.c (.int .i64 1000))), (some 12), (some (9, false)), [15, 17, 18, 21], []⟩, ⟨(.mv (.t 12)), (some 13), (some (9, false)), [15, 17, 18, 21], []⟩, ⟨(.mv (.t 0)), (some 14), (some (13, true)), [15, 17, 18, 21], []⟩, ⟨(.callv (.c (.clo 16 [] [])) [(.t 14)]), (some 15), (some (13, true)), [17, 18, 21], []⟩, ⟨(.mv (.t 0)), (some 16), (some (13, true)), [17, 18, 21], []⟩, ⟨(.callv (.c (.clo 17 [] [])) [(.t 16)]), (some 17), (some (13, true)), [18, 21], []⟩, ⟨(.callv (.c (.clo 15 [] [])) [(.t 15), (.t 17)]), (some 18), (some (13, true)), [21], []⟩, ⟨(.pick (.t 13) (.t 18) (.c (.bool false))), (some 19), (some (9, false)), [21], []⟩, ⟨(.mv (.t 19)), (some 20), (some (9, false)), [21], []⟩, ⟨(.callv (.c (.clo 10 [] [])) []), (some 21), (some (20, true)), [], []⟩, ⟨(.pick (.t 20) (.t 21) (.c (.bool false))), (some 22), (some (9, false)), [], []⟩, ⟨(.pick (.t 9) (.c (.bool true)) (.t 22)), (some 23), none, [], []⟩, ⟨(.mv (.t 23)), (some 2), none, [], []⟩], [7, 15, 17, 18, 21], [], false⟩
def ir_wordsL : IR := (.seq (.reg r_wordsL_0)
  (.seq (.reg r_wordsL_1)
  .ret))
def res_wordsL : List RDesc := [(.tmp 2)]
theorem e_wordsL_0 (C : FuncId → List AV → AV → Prop) (σ : St) (K : St → Prop) : runReg C r_wordsL_0 σ K = runOps C [⟨(.mv (.c (.bool false))), (some 2), none, [], []⟩] (σ.kills []) K := rfl
theorem e_wordsL_1 (C : FuncId → List AV → AV → Prop) (σ : St) (K : St → Prop) : runReg C r_wordsL_1 σ K = runOps C [⟨(.mv (.t 0)), (some 3), none, [7, 15, 17, 18, 21], []⟩, ⟨(.len true (.t 3)), (some 4), none, [7, 15, 17, 18, 21], []⟩, ⟨(.bin .gtr (.t 4) (.c (.int .i64 1000))), (some 5), none, [7, 15, 17, 18, 21], []⟩, ⟨(.mv (.t 5)), (some 6), none, [7, 15, 17, 18, 21], []⟩, ⟨(.callv (.c (.clo 10 [] [])) []), (some 7), (some (6, true)), [15, 17, 18, 21], []⟩, ⟨(.pick (.t 6) (.t 7) (.c (.bool false))), (some 8), none, [15, 17, 18, 21], []⟩, ⟨(.mv (.t 8)), (some 9), none, [15, 17, 18, 21], []⟩, ⟨(.mv (.t 0)), (some 10), (some (9, false)), [15, 17, 18, 21], []⟩, ⟨(.len true (.t 10)), (some 11), (some (9, false)), [15, 17, 18, 21], []⟩, ⟨(.bin .leq (.t 11) (.c (.int .i64 1000))), (some 12), (some (9, false)), [15, 17, 18, 21], []⟩, ⟨(.mv (.t 12)), (some 13), (some (9, false)), [15, 17, 18, 21], []⟩, ⟨(.mv (.t 0)), (some 14), (some (13, true)), [15, 17, 18, 21], []⟩, ⟨(.callv (.c (.clo 16 [] [])) [(.t 14)]), (some 15), (some (13, true)), [17, 18, 21], []⟩, ⟨(.mv (.t 0)), (some 16), (some (13, true)), [17, 18, 21], []⟩, ⟨(.callv (.c (.clo 17 [] [])) [(.t 16)]), (some 17), (some (13, true)), [18, 21], []⟩, ⟨(.callv (.c (.clo 15 [] [])) [(.t 15), (.t 17)]), (some 18), (some (13, true)), [21], []⟩, ⟨(.pick (.t 13) (.t 18) (.c (.bool false))), (some 19), (some (9, false)), [21], []⟩, ⟨(.mv (.t 19)), (some 20), (some (9, false)), [21], []⟩, ⟨(.callv (.c (.clo 10 [] [])) []), (some 21), (some (20, true)), [], []⟩, ⟨(.pick (.t 20) (.t 21) (.c (.bool false))), (some 22), (some (9, false)), [], []⟩, ⟨(.pick (.t 9) (.c (.bool true)) (.t 22)), (some 23), none, [], []⟩, ⟨(.mv (.t 23)), (some 2), none, [], []⟩] (σ.kills [7, 15, 17, 18, 21]) K := rfl
theorem fn_wordsL {args : List AV} {r : AV} (ha : args.length.ble Tryd.f4.ntmps = true) (h : run (AFn Tryd.prog) ir_wordsL (endQ res_wordsL r) (initSt args)) : AFn Tryd.prog 4 args r :=
  AFn.of_code (hint := fun _ => []) (c := Tryd.f4.body.getD .skip) (by kernel_rfl) (by kernel_rfl) Tryd.func4 (by kernel_rfl) (by kernel_rfl) (by kernel_rfl) (of_decide_eq_true (by kernel_rfl)) (Nat.le_of_ble_eq_true ha) (Nat.le_of_ble_eq_true (by kernel_rfl)) (run_ok h)

attribute [local go_sem ↓] ir_rWords
attribute [local go_sem] res_rWords e_rWords_0 e_rWords_1 e_rWords_2 e_rWords_3 e_rWords_4 e_rWords_5 e_rWords_6 e_rWords_7 e_rWords_9
attribute [local go_sem ↓] ir_rSame
attribute [local go_sem] res_rSame e_rSame_0 e_rSame_1 e_rSame_2 e_rSame_3 e_rSame_4 e_rSame_5 e_rSame_6 e_rSame_7 e_rSame_9
attribute [local go_sem ↓] ir_wordsL
attribute [local go_sem] res_wordsL e_wordsL_0 e_wordsL_1

/-- what stands between blanks -/
def wl : List UInt8 → List (List UInt8)
  | [] => [[]]
  | c :: l => if c = 32 then [] :: wl l else match wl l with
    | [] => [[c]]
    | w :: ws => (c :: w) :: ws
theorem wl_nil : wl [] = [[]] := rfl
theorem wl_ne : ∀ l, wl l ≠ []
  | [] => by simp [wl]
  | c :: l => by
    rw [wl]
    split
    · simp
    · split <;> simp
theorem wl_miss : ∀ {l : List UInt8}, Lib.index l [32] = -1 → wl l = [l]
  | [], _ => rfl
  | c :: l, h => by
    unfold Lib.index at h
    by_cases hc : c = 32
    · subst hc; simp [List.isPrefixOf] at h
    · have hp : List.isPrefixOf [32] (c :: l) = false := by simp [List.isPrefixOf, Ne.symm hc]
      rw [hp] at h
      have hge := Lib.index_ge l [32]
      have : Lib.index l [32] = -1 := by
        by_cases e : Lib.index l [32] = -1
        · exact e
        · simp [e] at h; omega
      rw [wl, if_neg hc, wl_miss this]
theorem wl_hit : ∀ {l : List UInt8} {i : Nat}, Lib.index l [32] = i → wl l = l.take i :: wl (l.drop (i + 1))
  | [], i, h => by simp [Lib.index] at h
  | c :: l, i, h => by
    unfold Lib.index at h
    by_cases hc : c = 32
    · subst hc
      simp [List.isPrefixOf] at h
      have : i = 0 := by omega
      subst this
      rw [wl, if_pos rfl]; rfl
    · have hp : List.isPrefixOf [32] (c :: l) = false := by simp [List.isPrefixOf, Ne.symm hc]
      rw [hp] at h
      have hge := Lib.index_ge l [32]
      by_cases e : Lib.index l [32] = -1
      · simp [e] at h
      · simp [e] at h
        obtain ⟨k, rfl⟩ : ∃ k, i = k + 1 := ⟨i - 1, by omega⟩
        have := wl_hit (l := l) (i := k) (by omega)
        rw [wl, if_neg hc, this]
        rfl
theorem split_wl : ∀ (n : Nat) (s : ByteArray), Lib.countB s ⟨#[32]⟩ = n → (Lib.splitB ⟨#[32]⟩ 0 n s).map (·.data.toList) = wl s.data.toList := by
  intro n
  induction n with
  | zero =>
    intro s hc
    rcases Lib.indexB_cases s ⟨#[32]⟩ with h | ⟨i, h, _⟩
    · rw [Lib.splitB_zero, wl_miss h]; rfl
    · rw [Lib.countB_hit s ⟨#[32]⟩ i (Nat.le_refl _) h] at hc; omega
  | succ n ih =>
    intro s hc
    rcases Lib.indexB_cases s ⟨#[32]⟩ with h | ⟨i, h, _⟩
    · rw [Lib.countB_miss s ⟨#[32]⟩ h] at hc; omega
    · rw [Lib.countB_hit s ⟨#[32]⟩ i (Nat.le_refl _) h] at hc
      rw [Lib.splitB_hit ⟨#[32]⟩ 0 n s i h, List.map_cons, ih _ (by omega), wl_hit h]
      have hL : s.data.toList.length = s.size := by rw [Array.length_toList]; rfl
      rw [ext_list, ext_list, List.drop_zero, Nat.add_zero]
      rw [List.take_of_length_le (show s.data.toList.length ≤ s.size by omega)]
      rfl
def wb (l : List UInt8) : ByteArray := ⟨l.toArray⟩
def ws (l : List (List UInt8)) : List AV := l.map fun x => .str (wb x)
theorem ws_snoc (init : List (List UInt8)) (last : List UInt8) : ws (init ++ [last]) = ws init ++ [.str (wb last)] := by unfold ws; rw [List.map_append]; rfl
theorem splitL_wl (s : ByteArray) : (splitL s ⟨#[32]⟩).map AV.str = ws (wl s.data.toList) := by
  unfold ws splitL
  rw [← split_wl _ s rfl, List.map_map]
  refine List.map_congr_left fun x _ => ?_
  show AV.str x = AV.str (wb x.data.toList)
  congr 1
theorem wl_snoc : ∀ {l : List UInt8} {c : UInt8} {init : List (List UInt8)} {last : List UInt8}, wl l = init ++ [last] → wl (l ++ [c]) = if c = 32 then init ++ [last] ++ [[]] else init ++ [last ++ [c]]
  | [], c, init, last, h => by
    rw [wl_nil] at h
    have h1 : init = [] := by
      cases init with
      | nil => rfl
      | cons a t => simp at h
    subst h1
    simp at h; subst h
    show wl [c] = _
    rw [wl]
    by_cases hc : c = 32 <;> simp [hc, wl]
  | x :: l, c, init, last, h => by
    rw [wl] at h
    rw [List.cons_append, wl]
    by_cases hx : x = 32
    · rw [if_pos hx] at h ⊢
      cases init with
      | nil => simp at h; exact absurd h.2 (wl_ne l)
      | cons a t =>
        simp at h
        obtain ⟨rfl, h⟩ := h
        rw [wl_snoc h]
        by_cases hc : c = 32 <;> simp [hc]
    · rw [if_neg hx] at h ⊢
      cases hw : wl l with
      | nil => exact absurd hw (wl_ne l)
      | cons w wss =>
        rw [hw] at h
        simp only at h
        cases init with
        | nil =>
          simp at h
          obtain ⟨h1, h2⟩ := h
          subst h2 h1
          rw [wl_snoc (l := l) (init := []) (last := w) hw]
          by_cases hc : c = 32 <;> simp [hc]
        | cons a t =>
          simp at h
          obtain ⟨h1, h2⟩ := h
          subst h1
          rw [wl_snoc (l := l) (init := w :: t) (last := last) (by rw [hw, h2]; rfl)]
          by_cases hc : c = 32 <;> simp [hc]
theorem wl_last (l : List UInt8) : ∃ init last, wl l = init ++ [last] := ⟨_, _, (List.dropLast_concat_getLast (wl_ne l)).symm⟩
theorem wl_len : ∀ l : List UInt8, (wl l).length ≤ l.length + 1
  | [] => by simp [wl]
  | c :: l => by
    have := wl_len l
    rw [wl]
    split
    · simp; omega
    · cases hw : wl l with
      | nil => simp
      | cons w wss => rw [hw] at this; simp at this ⊢; omega
theorem wl_small : ∀ (l : List UInt8), ∀ x, x ∈ wl l → x.length ≤ l.length
  | [], x, h => by simp [wl] at h; subst h; simp
  | c :: l, x, h => by
    have ih := wl_small l
    rw [wl] at h
    split at h
    · rcases List.mem_cons.1 h with rfl | h
      · simp
      · have := ih x h; simp; omega
    · cases hw : wl l with
      | nil => exact absurd hw (wl_ne l)
      | cons w wss =>
        rw [hw] at h ih
        rcases List.mem_cons.1 h with rfl | h
        · have := ih w (by simp); simp; omega
        · have := ih x (by simp [h]); simp; omega
def rwInv (s : ByteArray) (k : Nat) (σ : St) : Prop :=
  ∃ (j : Nat) (init : List (List UInt8)) (last : List UInt8), j ≤ s.size ∧ k = s.size - j ∧ wl (s.data.toList.take j) = init ++ [last] ∧ σ.T 0 = .str s ∧ σ.T 4 = .int .i64 j ∧ σ.T 3 = .rs 5 0 (init.length + 1) ∧ σ.H 5 = some ⟨1, 9, ws init ++ [.str (wb last)], 0⟩
theorem rWords_ok (s : ByteArray) (hs : s.size ≤ 300000) : AFn Tryd.prog 17 [.str s] (.own 1 9 (ws (wl s.data.toList))) := by
  have hL : s.data.toList.length = s.size := by rw [Array.length_toList]; rfl
  refine fn_rWords rfl ?_
  simp (maxSteps := 4000000) only [go_sem, ↓reduceIte, reduceCtorEq, Nat.reduceEqDiff, Nat.reduceBEq, Nat.reduceAdd, Nat.reduceSub, Nat.reduceMul, Nat.reduceLT, Nat.reduceLeDiff, Nat.reduceBNe, Int.reduceBEq, Int.reduceBNe, Int.reduceLT, Int.reduceLE]
  refine run_loop (rwInv s) (k := s.size) ⟨0, [], [], by omega, rfl, rfl, ?_, ?_, ?_, ?_⟩ ?_
  · simp (maxSteps := 4000000) only [go_sem, ↓reduceIte, reduceCtorEq, Nat.reduceEqDiff, Nat.reduceBEq, Nat.reduceAdd, Nat.reduceSub, Nat.reduceMul, Nat.reduceLT, Nat.reduceLeDiff, Nat.reduceBNe, Int.reduceBEq, Int.reduceBNe, Int.reduceLT, Int.reduceLE]
  · simp (maxSteps := 4000000) only [go_sem, ↓reduceIte, reduceCtorEq, Nat.reduceEqDiff, Nat.reduceBEq, Nat.reduceAdd, Nat.reduceSub, Nat.reduceMul, Nat.reduceLT, Nat.reduceLeDiff, Nat.reduceBNe, Int.reduceBEq, Int.reduceBNe, Int.reduceLT, Int.reduceLE]
    rfl
  · simp (maxSteps := 4000000) only [go_sem, ↓reduceIte, reduceCtorEq, Nat.reduceEqDiff, Nat.reduceBEq, Nat.reduceAdd, Nat.reduceSub, Nat.reduceMul, Nat.reduceLT, Nat.reduceLeDiff, Nat.reduceBNe, Int.reduceBEq, Int.reduceBNe, Int.reduceLT, Int.reduceLE]
  · simp (maxSteps := 4000000) only [go_sem, ↓reduceIte, reduceCtorEq, Nat.reduceEqDiff, Nat.reduceBEq, Nat.reduceAdd, Nat.reduceSub, Nat.reduceMul, Nat.reduceLT, Nat.reduceLeDiff, Nat.reduceBNe, Int.reduceBEq, Int.reduceBNe, Int.reduceLT, Int.reduceLE]
    rfl
  rintro k σ ⟨j, init, last, hj, rfl, hw, t0, t4, t3, o5⟩
  simp only [r_rWords_l8]
  have hil : init.length ≤ s.size := by
    have h1 := wl_len (s.data.toList.take j)
    have h2 : (s.data.toList.take j).length ≤ s.size := by rw [List.length_take, hL]; omega
    rw [hw] at h1
    simp at h1; omega
  have hll : last.length ≤ s.size := by
    have h1 := wl_small (s.data.toList.take j) last (by rw [hw]; simp)
    have h2 : (s.data.toList.take j).length ≤ s.size := by rw [List.length_take, hL]; omega
    omega
  have hwl : (ws init).length = init.length := List.length_map ..
  have htk : (ws init ++ [AV.str (wb last)]).take (init.length + 1) = ws init ++ [AV.str (wb last)] := List.take_of_length_le (by rw [List.length_append, hwl]; simp)
  by_cases hlt : j < s.size
  · have hlt' : (j : Int) < (s.size : Int) := by omega
    have hw1 : IntKind.i64.wrap ((j : Int) + 1) = ((j + 1 : Nat) : Int) := by rw [IntWalk.i64_in _ (by omega)]; rfl
    have hw2 : IntKind.i64.wrap (((init.length + 1 : Nat) : Int) - 1) = (init.length : Int) := by rw [IntWalk.i64_in _ (by omega)]; omega
    obtain ⟨c, hc⟩ : ∃ c, s.data.toList[j]? = some c := ⟨_, List.getElem?_eq_getElem (by omega)⟩
    have hg : s.data.toList.getD j 0 = c := by rw [List.getD_eq_getElem?_getD, hc]; rfl
    have hs1 : s.data.toList.take (j + 1) = s.data.toList.take j ++ [c] := by rw [List.take_add_one, hc]; rfl
    have hsn := wl_snoc (c := c) hw
    rw [← hs1] at hsn
    by_cases h32 : c = 32
    · subst h32
      rw [if_pos rfl] at hsn
      have e32 : (((32 : UInt8).toNat : Int) == 32) = true := rfl
      simp (maxSteps := 4000000) only [go_sem, ↓reduceIte, reduceCtorEq, Nat.reduceEqDiff, Nat.reduceBEq, Nat.reduceAdd, Nat.reduceSub, Nat.reduceMul, Nat.reduceLT, Nat.reduceLeDiff, Nat.reduceBNe, Int.reduceBEq, Int.reduceBNe, Int.reduceLT, Int.reduceLE, t0, t4, t3, o5, hlt', hg, e32, hw1, htk, Int.toNat_natCast]
      (repeat refine And.intro (by omega) ?_)
      refine ⟨⟨⟨by omega, by omega⟩, fun d hd => by rcases hd with rfl | hd; exact ⟨rfl, rfl⟩; cases hd⟩, s.size - (j + 1), by omega, j + 1, init ++ [last], [], by omega, rfl, hsn, ?_, ?_, ?_, ?_⟩ <;>
        (simp (maxSteps := 4000000) only [go_sem, ↓reduceIte, reduceCtorEq, Nat.reduceEqDiff, Nat.reduceBEq, Nat.reduceAdd, Nat.reduceSub, Nat.reduceMul, Nat.reduceLT, Nat.reduceLeDiff, Nat.reduceBNe, Int.reduceBEq, Int.reduceBNe, Int.reduceLT, Int.reduceLE, t0, t4, t3, o5, hw1, ws_snoc, List.length_append])
      rfl
    · have e32 : (((c.toNat : Nat) : Int) == 32) = false := by
        rw [beq_eq_false_iff_ne]
        intro e
        exact h32 (UInt8.toNat.inj (by rw [show (32 : UInt8).toNat = 32 from rfl]; omega))
      rw [if_neg h32] at hsn
      have hx := ext_one hc
      have s1 : ∀ x : UInt8, #[x].size = 1 := fun _ => rfl
      have hlen : (ws init ++ [AV.str (wb last)]).length = init.length + 1 := by rw [List.length_append, hwl]; rfl
      have hgl : (ws init ++ [AV.str (wb last)]).getD init.length .und = .str (wb last) := by
        rw [List.getD_eq_getElem?_getD, List.getElem?_append_right (by rw [hwl]; exact Nat.le_refl _), hwl]; simp
      have hst : ∀ v, (ws init ++ [AV.str (wb last)]).set init.length v = ws init ++ [v] := by
        intro v
        rw [List.set_append_right _ _ (by rw [hwl]; exact Nat.le_refl _), hwl]; simp
      simp (maxSteps := 4000000) only [go_sem, ↓reduceIte, reduceCtorEq, Nat.reduceEqDiff, Nat.reduceBEq, Nat.reduceAdd, Nat.reduceSub, Nat.reduceMul, Nat.reduceLT, Nat.reduceLeDiff, Nat.reduceBNe, Int.reduceBEq, Int.reduceBNe, Int.reduceLT, Int.reduceLE, t0, t4, t3, o5, hlt', hg, e32, hw1, hw2, hx, hgl, hst, hlen, s1, Int.toNat_natCast]
      have hwb : (wb last).size = last.length := rfl
      (repeat refine And.intro (by omega) ?_)
      refine ⟨s.size - (j + 1), by omega, j + 1, init, last ++ [c], by omega, rfl, hsn, ?_, ?_, ?_, ?_⟩ <;>
        (simp (maxSteps := 4000000) only [go_sem, ↓reduceIte, reduceCtorEq, Nat.reduceEqDiff, Nat.reduceBEq, Nat.reduceAdd, Nat.reduceSub, Nat.reduceMul, Nat.reduceLT, Nat.reduceLeDiff, Nat.reduceBNe, Int.reduceBEq, Int.reduceBNe, Int.reduceLT, Int.reduceLE, t0, t4, t3, o5, hw1])
      congr 3
  · have hlt' : ¬ (j : Int) < (s.size : Int) := by omega
    rw [List.take_of_length_le (by omega)] at hw
    have hans : ws (wl s.data.toList) = ws init ++ [.str (wb last)] := by rw [hw]; unfold ws; rw [List.map_append]; rfl
    rw [hans]
    simp (maxSteps := 4000000) only [go_sem, ↓reduceIte, reduceCtorEq, Nat.reduceEqDiff, Nat.reduceBEq, Nat.reduceAdd, Nat.reduceSub, Nat.reduceMul, Nat.reduceLT, Nat.reduceLeDiff, Nat.reduceBNe, Int.reduceBEq, Int.reduceBNe, Int.reduceLT, Int.reduceLE, t0, t4, t3, o5, hlt', htk, Int.toNat_natCast]
    rw [List.length_append, hwl]; rfl
def sameInv (l : List ByteArray) (k : Nat) (σ : St) : Prop :=
  ∃ j : Nat, j ≤ l.length ∧ k = l.length - j ∧ σ.T 0 = .sl (l.map .str) ∧ σ.T 1 = .sl (l.map .str) ∧ σ.T 5 = .int .i64 j
theorem same_refl (l : List ByteArray) (hl : l.length ≤ 1000000) : AFn Tryd.prog 15 [.sl (l.map .str), .sl (l.map .str)] (.bool true) := by
  refine fn_rSame rfl ?_
  simp (maxSteps := 4000000) only [go_sem, ↓reduceIte, reduceCtorEq, Nat.reduceEqDiff, Nat.reduceBEq, Nat.reduceAdd, Nat.reduceSub, Nat.reduceMul, Nat.reduceLT, Nat.reduceLeDiff, Nat.reduceBNe, Int.reduceBEq, Int.reduceBNe, Int.reduceLT, Int.reduceLE, bne_self_eq_false]
  refine run_loop (sameInv l) (k := l.length) ⟨0, by omega, rfl, ?_, ?_, ?_⟩ ?_
  · simp (maxSteps := 4000000) only [go_sem, ↓reduceIte, reduceCtorEq, Nat.reduceEqDiff, Nat.reduceBEq, Nat.reduceAdd, Nat.reduceSub, Nat.reduceMul, Nat.reduceLT, Nat.reduceLeDiff, Nat.reduceBNe, Int.reduceBEq, Int.reduceBNe, Int.reduceLT, Int.reduceLE]
  · simp (maxSteps := 4000000) only [go_sem, ↓reduceIte, reduceCtorEq, Nat.reduceEqDiff, Nat.reduceBEq, Nat.reduceAdd, Nat.reduceSub, Nat.reduceMul, Nat.reduceLT, Nat.reduceLeDiff, Nat.reduceBNe, Int.reduceBEq, Int.reduceBNe, Int.reduceLT, Int.reduceLE]
  · simp (maxSteps := 4000000) only [go_sem, ↓reduceIte, reduceCtorEq, Nat.reduceEqDiff, Nat.reduceBEq, Nat.reduceAdd, Nat.reduceSub, Nat.reduceMul, Nat.reduceLT, Nat.reduceLeDiff, Nat.reduceBNe, Int.reduceBEq, Int.reduceBNe, Int.reduceLT, Int.reduceLE]
    rfl
  rintro k σ ⟨j, hj, rfl, t0, t1, t5⟩
  simp only [r_rSame_l8]
  by_cases hlt : j < l.length
  · have hlt' : (j : Int) < (l.length : Int) := by omega
    have hw1 : IntKind.i64.wrap ((j : Int) + 1) = ((j + 1 : Nat) : Int) := by rw [IntWalk.i64_in _ (by omega)]; rfl
    obtain ⟨x, hx⟩ : ∃ x, l[j]? = some x := ⟨_, List.getElem?_eq_getElem hlt⟩
    have hg : (l.map AV.str).getD j .und = .str x := by rw [List.getD_eq_getElem?_getD, List.getElem?_map, hx]; rfl
    simp (maxSteps := 4000000) only [go_sem, ↓reduceIte, reduceCtorEq, Nat.reduceEqDiff, Nat.reduceBEq, Nat.reduceAdd, Nat.reduceSub, Nat.reduceMul, Nat.reduceLT, Nat.reduceLeDiff, Nat.reduceBNe, Int.reduceBEq, Int.reduceBNe, Int.reduceLT, Int.reduceLE, t0, t1, t5, hlt', hg, hw1, beq_self_eq_true, List.length_map, Int.toNat_natCast]
    (repeat refine And.intro (by omega) ?_)
    refine ⟨l.length - (j + 1), by omega, j + 1, by omega, rfl, ?_, ?_, ?_⟩ <;> (simp (maxSteps := 4000000) only [go_sem, ↓reduceIte, reduceCtorEq, Nat.reduceEqDiff, Nat.reduceBEq, Nat.reduceAdd, Nat.reduceSub, Nat.reduceMul, Nat.reduceLT, Nat.reduceLeDiff, Nat.reduceBNe, Int.reduceBEq, Int.reduceBNe, Int.reduceLT, Int.reduceLE, t0, t1, t5, hw1])
  · have hlt' : ¬ (j : Int) < (l.length : Int) := by omega
    simp (maxSteps := 4000000) only [go_sem, ↓reduceIte, reduceCtorEq, Nat.reduceEqDiff, Nat.reduceBEq, Nat.reduceAdd, Nat.reduceSub, Nat.reduceMul, Nat.reduceLT, Nat.reduceLeDiff, Nat.reduceBNe, Int.reduceBEq, Int.reduceBNe, Int.reduceLT, Int.reduceLE, t0, t1, t5, hlt', List.length_map]
theorem wordsL_law (s : ByteArray) (hs : s.size ≤ 281474976710656) : AFn Tryd.prog 4 [.str s] (.bool true) := by
  have hL : s.data.toList.length = s.size := by rw [Array.length_toList]; rfl
  refine fn_wordsL rfl ?_
  by_cases h1 : (1000 : Int) < s.size
  · have h1' : ¬ (s.size : Int) ≤ 1000 := by omega
    simp (maxSteps := 4000000) only [go_sem, ↓reduceIte, reduceCtorEq, Nat.reduceEqDiff, Nat.reduceBEq, Nat.reduceAdd, Nat.reduceSub, Nat.reduceMul, Nat.reduceLT, Nat.reduceLeDiff, Nat.reduceBNe, Int.reduceBEq, Int.reduceBNe, Int.reduceLT, Int.reduceLE, h1, h1']
    (first | refine calling awake_ok ?_ | refine callingH awake_ok ?_)
    simp (maxSteps := 4000000) only [go_sem, ↓reduceIte, reduceCtorEq, Nat.reduceEqDiff, Nat.reduceBEq, Nat.reduceAdd, Nat.reduceSub, Nat.reduceMul, Nat.reduceLT, Nat.reduceLeDiff, Nat.reduceBNe, Int.reduceBEq, Int.reduceBNe, Int.reduceLT, Int.reduceLE, h1, h1']
  · have h1' : (s.size : Int) ≤ 1000 := by omega
    have hlen : (splitL s ⟨#[32]⟩).length = (wl s.data.toList).length := by
      have := congrArg List.length (splitL_wl s)
      unfold ws at this
      rwa [List.length_map, List.length_map] at this
    have hwl := wl_len s.data.toList
    simp (maxSteps := 4000000) only [go_sem, ↓reduceIte, reduceCtorEq, Nat.reduceEqDiff, Nat.reduceBEq, Nat.reduceAdd, Nat.reduceSub, Nat.reduceMul, Nat.reduceLT, Nat.reduceLeDiff, Nat.reduceBNe, Int.reduceBEq, Int.reduceBNe, Int.reduceLT, Int.reduceLE, h1, h1']
    (first | refine calling (words_ok s (by omega) (by rw [hlen]; unfold maxLen; omega)) ?_ | refine callingH (words_ok s (by omega) (by rw [hlen]; unfold maxLen; omega)) ?_)
    rw [splitL_wl]
    simp (maxSteps := 4000000) only [go_sem, ↓reduceIte, reduceCtorEq, Nat.reduceEqDiff, Nat.reduceBEq, Nat.reduceAdd, Nat.reduceSub, Nat.reduceMul, Nat.reduceLT, Nat.reduceLeDiff, Nat.reduceBNe, Int.reduceBEq, Int.reduceBNe, Int.reduceLT, Int.reduceLE, h1, h1']
    (first | refine calling (rWords_ok s (by omega)) ?_ | refine callingH (rWords_ok s (by omega)) ?_)
    have hm : ws (wl s.data.toList) = ((wl s.data.toList).map wb).map AV.str := by unfold ws; rw [List.map_map]; rfl
    have ht : (ws (wl s.data.toList)).take (ws (wl s.data.toList)).length = ws (wl s.data.toList) := List.take_of_length_le (Nat.le_refl _)
    simp (maxSteps := 4000000) only [go_sem, ↓reduceIte, reduceCtorEq, Nat.reduceEqDiff, Nat.reduceBEq, Nat.reduceAdd, Nat.reduceSub, Nat.reduceMul, Nat.reduceLT, Nat.reduceLeDiff, Nat.reduceBNe, Int.reduceBEq, Int.reduceBNe, Int.reduceLT, Int.reduceLE, h1, h1', ht]
    have hsame := same_refl ((wl s.data.toList).map wb) (by rw [List.length_map]; omega)
    rw [← hm] at hsame
    (first | refine calling hsame ?_ | refine callingH hsame ?_)
    simp (maxSteps := 4000000) only [go_sem, ↓reduceIte, reduceCtorEq, Nat.reduceEqDiff, Nat.reduceBEq, Nat.reduceAdd, Nat.reduceSub, Nat.reduceMul, Nat.reduceLT, Nat.reduceLeDiff, Nat.reduceBNe, Int.reduceBEq, Int.reduceBNe, Int.reduceLT, Int.reduceLE, h1, h1']
    (first | refine calling awake_ok ?_ | refine callingH awake_ok ?_)
    simp (maxSteps := 4000000) only [go_sem, ↓reduceIte, reduceCtorEq, Nat.reduceEqDiff, Nat.reduceBEq, Nat.reduceAdd, Nat.reduceSub, Nat.reduceMul, Nat.reduceLT, Nat.reduceLeDiff, Nat.reduceBNe, Int.reduceBEq, Int.reduceBNe, Int.reduceLT, Int.reduceLE, h1, h1']
theorem wordsL_walk (a : ByteArray) (w : World) (hG : Glob w) (h1 : a.size ≤ 281474976710656) : Calls Tryd.prog 4 #[.string a] w fun e w' => e = .returned (.bool true) ∧ Below w.heap.size w w' :=
  run_args (vs := [.string a]) hG rfl (vr_strs [a]) (wordsL_law a h1)
end Go.Proofs.YtgpoglaojklfbaaDoor
