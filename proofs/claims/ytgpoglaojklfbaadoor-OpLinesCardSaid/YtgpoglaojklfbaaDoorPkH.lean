/-
  Layer 6: the document's Quote and Unquote, and the law PackQuotes.
-/
import Derived.Test.YtgpoglaojklfbaaDoorPkF
import Derived.Test.YtgpoglaojklfbaaDoorPkG
namespace Go.Proofs.YtgpoglaojklfbaaDoor
open Go.RowKit
set_option linter.unusedVariables false
set_option linter.unusedSimpArgs false
set_option maxRecDepth 100000
attribute [local go_sem ↓] runOp headOp
attribute [local go_sem] ev0 ev1 ev2 ev3 ev4 evA stHOk.eq_1 stHOk.eq_2 stHSt.eq_1 stHSt.eq_2 okV valV fzV okF valF okBld valBld mxOk.eq_1 mxOk.eq_2 mxVal.eq_1 mxVal.eq_2 cellFit.eq_1 cellFit.eq_2 cellFit.eq_3 cellEq.eq_1 cellEq.eq_2 cellEq.eq_3 upd_at AV.flatB AV.flatBs binIok binIV binSok binSV cellsOk.eq_1 cellsOk.eq_2 cellsVal.eq_1 cellsVal.eq_2 objCells.eq_1 objCells.eq_2 objZ.eq_1 objZ.eq_2 objProt.eq_1 objProt.eq_2 oneObj ptrOk.eq_1 ptrOk.eq_2 ptrOk.eq_3 ptrCells.eq_1 ptrCells.eq_2 ptrCells.eq_3 lenOk.eq_1 lenOk.eq_2 lenOk.eq_3 lenOk.eq_4 lenVal.eq_1 lenVal.eq_2 lenVal.eq_3 lenVal.eq_4 faOk.eq_1 faOk.eq_2 faOk.eq_3 faVal.eq_1 faVal.eq_2 faVal.eq_3 iaOk.eq_1 iaOk.eq_2 iaOk.eq_3 iaVal.eq_1 iaVal.eq_2 iaVal.eq_3 slcLen.eq_1 slcLen.eq_2 slcLen.eq_3 slcLen.eq_4 bdOk.eq_1 bdOk.eq_2 bdVal.eq_1 bdVal.eq_2 slcOk.eq_1 slcOk.eq_2 slcOk.eq_3 slcOk.eq_4 slcVal.eq_1 slcVal.eq_2 slcVal.eq_3 slcVal.eq_4 slcFz.eq_1 slcFz.eq_2 byOk.eq_1 byOk.eq_2 byOk.eq_3 byOk.eq_4 byOk.eq_5 byOk.eq_6 byVal.eq_1 byVal.eq_2 byVal.eq_3 byFz.eq_1 byFz.eq_2 byFz.eq_3 byOks byVals byFzs allOne resSt.eq_1 resSt.eq_2 resName.eq_1 resName.eq_2 stOk.eq_1 stOk.eq_2 stArr.eq_1 stArr.eq_2 stSt.eq_1 stSt.eq_2 AV.patch nameOk_none gB.eq_1 gB.eq_2 gB.eq_3 gIs.eq_1 gIs.eq_2 gIs.eq_3 retV resV resVs evalV cellsV St.byval List.getD_cons_zero List.getD_cons_succ List.getD_nil List.map_cons List.map_nil List.length_cons List.length_nil List.take_succ_cons List.take_zero List.drop_succ_cons List.drop_zero List.headD_cons List.set_cons_zero List.append_nil List.nil_append List.cons_append List.contains_cons List.contains_nil List.elem_cons List.elem_nil List.all_cons List.all_nil List.getElem?_cons_zero List.getElem?_cons_succ List.filterMap_cons List.filterMap_nil Option.isSome_some Option.isSome_none Option.map_some Option.map_none Option.some.injEq AV.int.injEq AV.bool.injEq AV.str.injEq AV.tup.injEq AV.agg.injEq AV.sl.injEq List.cons.injEq Bool.false_eq_true Bool.true_eq_false Bool.not_true Bool.not_false Bool.and_true Bool.true_and Bool.or_false Bool.or_true Bool.false_or Bool.true_or Bool.or_self Bool.and_self Bool.not_eq_true' Bool.not_eq_false' Bool.not_not beq_self_eq_true true_and and_true false_and and_false and_self not_true_eq_false not_false_eq_true forall_const true_implies false_implies implies_true imp_self Nat.lt_add_one Nat.le_refl Nat.zero_le Nat.add_zero Nat.zero_add decide_true decide_false decide_eq_true_eq decide_eq_false_iff_not exists_eq_left exists_eq_left' ge_iff_le gt_iff_lt ite_branch ite_branch' nilOk.eq_1 nilOk.eq_2 nilMay.eq_1 nilMay.eq_2 AV.isSl.eq_1 objTy'.eq_1 objTy'.eq_2 apSt.eq_1 apArr.eq_1 apArr.eq_2 slOf.eq_1 fitsV List.mem_cons List.not_mem_nil Bool.false_and Bool.and_false primOk.eq_1 primOk.eq_2 primOk.eq_3 primOk.eq_4 primOk.eq_5 primVal.eq_1 primVal.eq_2 primVal.eq_3 primVal.eq_4 primVal.eq_5 mOk.eq_1 mOk.eq_2 mVal.eq_1 mVal.eq_2 mFz.eq_1 mFz.eq_2 mOks mVals mFzs mCalOk.eq_1 mCalOk.eq_2 mFn.eq_1 mFn.eq_2 mArgs.eq_1 mArgs.eq_2 ckOk.eq_1 ckOk.eq_2 cloOk.eq_1 ptrAt.eq_1 sh.eq_1 sh.eq_2 sh.eq_3 sh.eq_4 retM shH_small
/-! ### percolate/percolateref06.value -/
def r_rVal_0 : Reg := ⟨[], [⟨(.mv (.c (.int .u8 0))), (some 2), none, [], []⟩], [], [], false⟩
def r_rVal_1 : Reg := ⟨[], [⟨(.mv (.t 0)), (some 3), none, [], []⟩, ⟨(.bin .geq (.t 3) (.c (.int .u8 97))), (some 4), none, [], []⟩, ⟨(.mv (.t 4)), (some 5), none, [], []⟩, ⟨(.mv (.t 0)), (some 6), (some (5, true)), [], []⟩, ⟨(.bin .leq (.t 6) (.c (.int .u8 102))), (some 7), (some (5, true)), [], []⟩, ⟨(.pick (.t 5) (.t 7) (.c (.bool false))), (some 8), none, [], []⟩], [], [], false⟩
def r_rVal_2 : Reg := ⟨[], [⟨(.mv (.t 0)), (some 9), none, [], []⟩, ⟨(.bin .sub (.t 9) (.c (.int .u8 97))), (some 10), none, [], []⟩, ⟨(.bin .add (.t 10) (.c (.int .u8 10))), (some 11), none, [], []⟩, ⟨(.mv (.t 11)), (some 2), none, [], []⟩], [], [], false⟩
def r_rVal_3 : Reg := ⟨[], [⟨(.mv (.t 0)), (some 12), none, [], []⟩, ⟨(.bin .geq (.t 12) (.c (.int .u8 48))), (some 13), none, [], []⟩, ⟨(.mv (.t 13)), (some 14), none, [], []⟩, ⟨(.mv (.t 0)), (some 15), (some (14, true)), [], []⟩, ⟨(.bin .leq (.t 15) (.c (.int .u8 57))), (some 16), (some (14, true)), [], []⟩, ⟨(.pick (.t 14) (.t 16) (.c (.bool false))), (some 17), none, [], []⟩], [], [], false⟩
def r_rVal_4 : Reg := ⟨[], [⟨(.mv (.t 0)), (some 18), none, [], []⟩, ⟨(.bin .sub (.t 18) (.c (.int .u8 48))), (some 19), none, [], []⟩, ⟨(.mv (.t 19)), (some 2), none, [], []⟩], [], [], false⟩
def r_rVal_5 : Reg := ⟨[], [⟨(.mv (.c (.int .u8 0))), (some 2), none, [], []⟩], [], [], false⟩
def ir_rVal : IR := (.seq (.reg r_rVal_0)
  (.seq (.seq (.reg r_rVal_1)
  (.cond (.t 8) (.seq (.reg r_rVal_2)
  .ret)
  .skip))
  (.seq (.seq (.reg r_rVal_3)
  (.cond (.t 17) (.seq (.reg r_rVal_4)
  .ret)
  .skip))
  (.seq (.reg r_rVal_5)
  .ret))))
def res_rVal : List RDesc := [(.tmp 2)]
theorem e_rVal_0 (C : FuncId → List AV → AV → Prop) (σ : St) (K : St → Prop) : runReg C r_rVal_0 σ K = runOps C [⟨(.mv (.c (.int .u8 0))), (some 2), none, [], []⟩] (σ.kills []) K := rfl
theorem e_rVal_1 (C : FuncId → List AV → AV → Prop) (σ : St) (K : St → Prop) : runReg C r_rVal_1 σ K = runOps C [⟨(.mv (.t 0)), (some 3), none, [], []⟩, ⟨(.bin .geq (.t 3) (.c (.int .u8 97))), (some 4), none, [], []⟩, ⟨(.mv (.t 4)), (some 5), none, [], []⟩, ⟨(.mv (.t 0)), (some 6), (some (5, true)), [], []⟩, ⟨(.bin .leq (.t 6) (.c (.int .u8 102))), (some 7), (some (5, true)), [], []⟩, ⟨(.pick (.t 5) (.t 7) (.c (.bool false))), (some 8), none, [], []⟩] (σ.kills []) K := rfl
theorem e_rVal_2 (C : FuncId → List AV → AV → Prop) (σ : St) (K : St → Prop) : runReg C r_rVal_2 σ K = runOps C [⟨(.mv (.t 0)), (some 9), none, [], []⟩, ⟨(.bin .sub (.t 9) (.c (.int .u8 97))), (some 10), none, [], []⟩, ⟨(.bin .add (.t 10) (.c (.int .u8 10))), (some 11), none, [], []⟩, ⟨(.mv (.t 11)), (some 2), none, [], []⟩] (σ.kills []) K := rfl
theorem e_rVal_3 (C : FuncId → List AV → AV → Prop) (σ : St) (K : St → Prop) : runReg C r_rVal_3 σ K = runOps C [⟨(.mv (.t 0)), (some 12), none, [], []⟩, ⟨(.bin .geq (.t 12) (.c (.int .u8 48))), (some 13), none, [], []⟩, ⟨(.mv (.t 13)), (some 14), none, [], []⟩, ⟨(.mv (.t 0)), (some 15), (some (14, true)), [], []⟩, ⟨(.bin .leq (.t 15) (.c (.int .u8 57))), (some 16), (some (14, true)), [], []⟩, ⟨(.pick (.t 14) (.t 16) (.c (.bool false))), (some 17), none, [], []⟩] (σ.kills []) K := rfl
theorem e_rVal_4 (C : FuncId → List AV → AV → Prop) (σ : St) (K : St → Prop) : runReg C r_rVal_4 σ K = runOps C [⟨(.mv (.t 0)), (some 18), none, [], []⟩, ⟨(.bin .sub (.t 18) (.c (.int .u8 48))), (some 19), none, [], []⟩, ⟨(.mv (.t 19)), (some 2), none, [], []⟩] (σ.kills []) K := rfl
theorem e_rVal_5 (C : FuncId → List AV → AV → Prop) (σ : St) (K : St → Prop) : runReg C r_rVal_5 σ K = runOps C [⟨(.mv (.c (.int .u8 0))), (some 2), none, [], []⟩] (σ.kills []) K := rfl
theorem fn_rVal {args : List AV} {r : AV} (ha : args.length.ble Tryd.f39.ntmps = true) (h : run (AFn Tryd.prog) ir_rVal (endQ res_rVal r) (initSt args)) : AFn Tryd.prog 39 args r :=
  AFn.of_code (hint := fun _ => []) (c := Tryd.f39.body.getD .skip) (by kernel_rfl) (by kernel_rfl) Tryd.func39 (by kernel_rfl) (by kernel_rfl) (by kernel_rfl) (of_decide_eq_true (by kernel_rfl)) (Nat.le_of_ble_eq_true ha) (Nat.le_of_ble_eq_true (by kernel_rfl)) (run_ok h)

/-! ### percolate/percolateref06.Quote -/
def r_rQuote_0 : Reg := ⟨[], [⟨(.mv (.c (.str ⟨#[]⟩))), (some 2), none, [], []⟩], [], [], false⟩
def r_rQuote_1 : Reg := ⟨[], [⟨(.mv (.c (.str ⟨#[48, 49, 50, 51, 52, 53, 54, 55, 56, 57, 97, 98, 99, 100, 101, 102]⟩))), (some 3), none, [], []⟩], [], [], false⟩
def r_rQuote_2 : Reg := ⟨[], [⟨(.mv (.c (.str ⟨#[]⟩))), (some 4), none, [], []⟩], [], [], false⟩
def r_rQuote_3 : Reg := ⟨[], [⟨(.mv (.c (.int .i64 0))), (some 5), none, [], []⟩], [], [], false⟩
def r_rQuote_4 : Reg := ⟨[], [⟨(.mv (.t 5)), (some 6), none, [], []⟩, ⟨(.mv (.t 0)), (some 7), none, [], []⟩, ⟨(.len true (.t 7)), (some 8), none, [], []⟩, ⟨(.bin .lss (.t 6) (.t 8)), (some 9), none, [], []⟩], [], [], false⟩
def r_rQuote_5 : Reg := ⟨[], [⟨(.mv (.t 0)), (some 12), none, [15], []⟩, ⟨(.mv (.t 5)), (some 13), none, [15], []⟩, ⟨(.idx (.t 12) (.t 13)), (some 14), none, [15], []⟩, ⟨(.callv (.c (.clo 40 [] [])) [(.t 14)]), (some 15), none, [], []⟩], [15], [], false⟩
def r_rQuote_6 : Reg := ⟨[], [⟨(.mv (.t 4)), (some 16), none, [], []⟩, ⟨(.mv (.t 0)), (some 17), none, [], []⟩, ⟨(.mv (.t 5)), (some 18), none, [], []⟩, ⟨(.mv (.t 5)), (some 19), none, [], []⟩, ⟨(.bin .add (.t 19) (.c (.int .i64 1))), (some 20), none, [], []⟩, ⟨(.slc true 0 (.t 17) (some (.t 18)) (some (.t 20))), (some 21), none, [], []⟩, ⟨(.bin .add (.t 16) (.t 21)), (some 22), none, [], []⟩, ⟨(.mv (.t 22)), (some 4), none, [], []⟩], [], [], false⟩
def r_rQuote_7 : Reg := ⟨[⟨(.mv (.t 4)), (some 23), none, [], []⟩, ⟨(.mv (.t 3)), (some 24), none, [], []⟩, ⟨(.mv (.t 0)), (some 25), none, [], []⟩, ⟨(.mv (.t 5)), (some 26), none, [], []⟩, ⟨(.idx (.t 25) (.t 26)), (some 27), none, [], []⟩, ⟨(.bin .quo (.t 27) (.c (.int .u8 16))), (some 28), none, [], []⟩, ⟨(.mv (.t 0)), (some 29), none, [], []⟩, ⟨(.mv (.t 5)), (some 30), none, [], []⟩, ⟨(.idx (.t 29) (.t 30)), (some 31), none, [], []⟩, ⟨(.bin .quo (.t 31) (.c (.int .u8 16))), (some 32), none, [], []⟩, ⟨(.bin .add (.t 32) (.c (.int .u8 1))), (some 33), none, [], []⟩, ⟨(.slc true 0 (.t 24) (some (.t 28)) (some (.t 33))), (some 34), none, [], []⟩, ⟨(.bin .add (.c (.str ⟨#[37]⟩)) (.t 34)), (some 35), none, [], []⟩, ⟨(.mv (.t 3)), (some 36), none, [], []⟩, ⟨(.mv (.t 0)), (some 37), none, [], []⟩, ⟨(.mv (.t 5)), (some 38), none, [], []⟩, ⟨(.idx (.t 37) (.t 38)), (some 39), none, [], []⟩, ⟨(.bin .rem (.t 39) (.c (.int .u8 16))), (some 40), none, [], []⟩, ⟨(.mv (.t 0)), (some 41), none, [], []⟩, ⟨(.mv (.t 5)), (some 42), none, [], []⟩, ⟨(.idx (.t 41) (.t 42)), (some 43), none, [], []⟩, ⟨(.bin .rem (.t 43) (.c (.int .u8 16))), (some 44), none, [], []⟩, ⟨(.bin .add (.t 44) (.c (.int .u8 1))), (some 45), none, [], []⟩, ⟨(.slc true 0 (.t 36) (some (.t 40)) (some (.t 45))), (some 46), none, [], []⟩, ⟨(.bin .add (.t 35) (.t 46)), (some 47), none, [], []⟩], [⟨(.bin .add (.t 23) (.t 47)), (some 48), none, [], []⟩, ⟨(.mv (.t 48)), (some 4), none, [], []⟩], [], [], true⟩
def r_rQuote_8 : Reg := ⟨[], [⟨(.mv (.t 5)), (some 10), none, [], []⟩, ⟨(.bin .add (.t 10) (.c (.int .i64 1))), (some 11), none, [], []⟩, ⟨(.mv (.t 11)), (some 5), none, [], []⟩], [], [], false⟩
def r_rQuote_l9 : IR := (.seq (.seq (.reg r_rQuote_4)
  (.cond (.t 9) .skip
  (.exit 0)))
  (.seq (.block 1 (.seq (.reg r_rQuote_5)
  (.cond (.t 15) (.reg r_rQuote_6)
  (.reg r_rQuote_7))))
  (.reg r_rQuote_8)))
def r_rQuote_10 : Reg := ⟨[], [⟨(.mv (.t 4)), (some 49), none, [], []⟩, ⟨(.bin .eql (.t 49) (.c (.str ⟨#[]⟩))), (some 50), none, [], []⟩], [], [], false⟩
def r_rQuote_11 : Reg := ⟨[], [⟨(.mv (.c (.str ⟨#[45]⟩))), (some 2), none, [], []⟩], [], [], false⟩
def r_rQuote_12 : Reg := ⟨[], [⟨(.mv (.t 4)), (some 51), none, [], []⟩, ⟨(.mv (.t 51)), (some 2), none, [], []⟩], [], [], false⟩
def ir_rQuote : IR := (.seq (.reg r_rQuote_0)
  (.seq (.reg r_rQuote_1)
  (.seq (.reg r_rQuote_2)
  (.seq (.seq (.reg r_rQuote_3)
  (.block 0 (.loop r_rQuote_l9)))
  (.seq (.seq (.reg r_rQuote_10)
  (.cond (.t 50) (.seq (.reg r_rQuote_11)
  .ret)
  .skip))
  (.seq (.reg r_rQuote_12)
  .ret))))))
def res_rQuote : List RDesc := [(.tmp 2)]
theorem e_rQuote_0 (C : FuncId → List AV → AV → Prop) (σ : St) (K : St → Prop) : runReg C r_rQuote_0 σ K = runOps C [⟨(.mv (.c (.str ⟨#[]⟩))), (some 2), none, [], []⟩] (σ.kills []) K := rfl
theorem e_rQuote_1 (C : FuncId → List AV → AV → Prop) (σ : St) (K : St → Prop) : runReg C r_rQuote_1 σ K = runOps C [⟨(.mv (.c (.str ⟨#[48, 49, 50, 51, 52, 53, 54, 55, 56, 57, 97, 98, 99, 100, 101, 102]⟩))), (some 3), none, [], []⟩] (σ.kills []) K := rfl
theorem e_rQuote_2 (C : FuncId → List AV → AV → Prop) (σ : St) (K : St → Prop) : runReg C r_rQuote_2 σ K = runOps C [⟨(.mv (.c (.str ⟨#[]⟩))), (some 4), none, [], []⟩] (σ.kills []) K := rfl
theorem e_rQuote_3 (C : FuncId → List AV → AV → Prop) (σ : St) (K : St → Prop) : runReg C r_rQuote_3 σ K = runOps C [⟨(.mv (.c (.int .i64 0))), (some 5), none, [], []⟩] (σ.kills []) K := rfl
theorem e_rQuote_4 (C : FuncId → List AV → AV → Prop) (σ : St) (K : St → Prop) : runReg C r_rQuote_4 σ K = runOps C [⟨(.mv (.t 5)), (some 6), none, [], []⟩, ⟨(.mv (.t 0)), (some 7), none, [], []⟩, ⟨(.len true (.t 7)), (some 8), none, [], []⟩, ⟨(.bin .lss (.t 6) (.t 8)), (some 9), none, [], []⟩] (σ.kills []) K := rfl
theorem e_rQuote_5 (C : FuncId → List AV → AV → Prop) (σ : St) (K : St → Prop) : runReg C r_rQuote_5 σ K = runOps C [⟨(.mv (.t 0)), (some 12), none, [15], []⟩, ⟨(.mv (.t 5)), (some 13), none, [15], []⟩, ⟨(.idx (.t 12) (.t 13)), (some 14), none, [15], []⟩, ⟨(.callv (.c (.clo 40 [] [])) [(.t 14)]), (some 15), none, [], []⟩] (σ.kills [15]) K := rfl
theorem e_rQuote_6 (C : FuncId → List AV → AV → Prop) (σ : St) (K : St → Prop) : runReg C r_rQuote_6 σ K = runOps C [⟨(.mv (.t 4)), (some 16), none, [], []⟩, ⟨(.mv (.t 0)), (some 17), none, [], []⟩, ⟨(.mv (.t 5)), (some 18), none, [], []⟩, ⟨(.mv (.t 5)), (some 19), none, [], []⟩, ⟨(.bin .add (.t 19) (.c (.int .i64 1))), (some 20), none, [], []⟩, ⟨(.slc true 0 (.t 17) (some (.t 18)) (some (.t 20))), (some 21), none, [], []⟩, ⟨(.bin .add (.t 16) (.t 21)), (some 22), none, [], []⟩, ⟨(.mv (.t 22)), (some 4), none, [], []⟩] (σ.kills []) K := rfl
theorem e_rQuote_7 (C : FuncId → List AV → AV → Prop) (σ : St) (K : St → Prop) : runReg C r_rQuote_7 σ K = runHead C [] [⟨(.bin .add (.t 23) (.t 47)), (some 48), none, [], []⟩, ⟨(.mv (.t 48)), (some 4), none, [], []⟩] [⟨(.mv (.t 4)), (some 23), none, [], []⟩, ⟨(.mv (.t 3)), (some 24), none, [], []⟩, ⟨(.mv (.t 0)), (some 25), none, [], []⟩, ⟨(.mv (.t 5)), (some 26), none, [], []⟩, ⟨(.idx (.t 25) (.t 26)), (some 27), none, [], []⟩, ⟨(.bin .quo (.t 27) (.c (.int .u8 16))), (some 28), none, [], []⟩, ⟨(.mv (.t 0)), (some 29), none, [], []⟩, ⟨(.mv (.t 5)), (some 30), none, [], []⟩, ⟨(.idx (.t 29) (.t 30)), (some 31), none, [], []⟩, ⟨(.bin .quo (.t 31) (.c (.int .u8 16))), (some 32), none, [], []⟩, ⟨(.bin .add (.t 32) (.c (.int .u8 1))), (some 33), none, [], []⟩, ⟨(.slc true 0 (.t 24) (some (.t 28)) (some (.t 33))), (some 34), none, [], []⟩, ⟨(.bin .add (.c (.str ⟨#[37]⟩)) (.t 34)), (some 35), none, [], []⟩, ⟨(.mv (.t 3)), (some 36), none, [], []⟩, ⟨(.mv (.t 0)), (some 37), none, [], []⟩, ⟨(.mv (.t 5)), (some 38), none, [], []⟩, ⟨(.idx (.t 37) (.t 38)), (some 39), none, [], []⟩, ⟨(.bin .rem (.t 39) (.c (.int .u8 16))), (some 40), none, [], []⟩, ⟨(.mv (.t 0)), (some 41), none, [], []⟩, ⟨(.mv (.t 5)), (some 42), none, [], []⟩, ⟨(.idx (.t 41) (.t 42)), (some 43), none, [], []⟩, ⟨(.bin .rem (.t 43) (.c (.int .u8 16))), (some 44), none, [], []⟩, ⟨(.bin .add (.t 44) (.c (.int .u8 1))), (some 45), none, [], []⟩, ⟨(.slc true 0 (.t 36) (some (.t 40)) (some (.t 45))), (some 46), none, [], []⟩, ⟨(.bin .add (.t 35) (.t 46)), (some 47), none, [], []⟩] (σ.kills []) K := rfl
theorem e_rQuote_8 (C : FuncId → List AV → AV → Prop) (σ : St) (K : St → Prop) : runReg C r_rQuote_8 σ K = runOps C [⟨(.mv (.t 5)), (some 10), none, [], []⟩, ⟨(.bin .add (.t 10) (.c (.int .i64 1))), (some 11), none, [], []⟩, ⟨(.mv (.t 11)), (some 5), none, [], []⟩] (σ.kills []) K := rfl
theorem e_rQuote_10 (C : FuncId → List AV → AV → Prop) (σ : St) (K : St → Prop) : runReg C r_rQuote_10 σ K = runOps C [⟨(.mv (.t 4)), (some 49), none, [], []⟩, ⟨(.bin .eql (.t 49) (.c (.str ⟨#[]⟩))), (some 50), none, [], []⟩] (σ.kills []) K := rfl
theorem e_rQuote_11 (C : FuncId → List AV → AV → Prop) (σ : St) (K : St → Prop) : runReg C r_rQuote_11 σ K = runOps C [⟨(.mv (.c (.str ⟨#[45]⟩))), (some 2), none, [], []⟩] (σ.kills []) K := rfl
theorem e_rQuote_12 (C : FuncId → List AV → AV → Prop) (σ : St) (K : St → Prop) : runReg C r_rQuote_12 σ K = runOps C [⟨(.mv (.t 4)), (some 51), none, [], []⟩, ⟨(.mv (.t 51)), (some 2), none, [], []⟩] (σ.kills []) K := rfl
theorem fn_rQuote {args : List AV} {r : AV} (ha : args.length.ble Tryd.f14.ntmps = true) (h : run (AFn Tryd.prog) ir_rQuote (endQ res_rQuote r) (initSt args)) : AFn Tryd.prog 14 args r :=
  AFn.of_code (hint := fun _ => []) (c := Tryd.f14.body.getD .skip) (by kernel_rfl) (by kernel_rfl) Tryd.func14 (by kernel_rfl) (by kernel_rfl) (by kernel_rfl) (of_decide_eq_true (by kernel_rfl)) (Nat.le_of_ble_eq_true ha) (Nat.le_of_ble_eq_true (by kernel_rfl)) (run_ok h)

/-! ### percolate/percolateref06.Unquote -/
def r_rUnq_0 : Reg := ⟨[], [⟨(.mv (.c (.str ⟨#[]⟩))), (some 2), none, [], []⟩, ⟨(.mv (.c (.bool false))), (some 3), none, [], []⟩], [], [], false⟩
def r_rUnq_1 : Reg := ⟨[], [⟨(.mknil 1 5), (some 4), none, [], []⟩], [4], [], false⟩
def r_rUnq_2 : Reg := ⟨[], [⟨(.mv (.c (.int .i64 0))), (some 5), none, [], []⟩], [], [], false⟩
def r_rUnq_3 : Reg := ⟨[], [⟨(.mv (.t 5)), (some 6), none, [], []⟩, ⟨(.mv (.t 0)), (some 7), none, [], []⟩, ⟨(.len true (.t 7)), (some 8), none, [], []⟩, ⟨(.bin .lss (.t 6) (.t 8)), (some 9), none, [], []⟩], [], [], false⟩
def r_rUnq_4 : Reg := ⟨[], [⟨(.mv (.t 0)), (some 12), none, [], []⟩, ⟨(.mv (.t 5)), (some 13), none, [], []⟩, ⟨(.idx (.t 12) (.t 13)), (some 14), none, [], []⟩, ⟨(.bin .eql (.t 14) (.c (.int .u8 37))), (some 15), none, [], []⟩, ⟨(.mv (.t 15)), (some 16), none, [], []⟩, ⟨(.mv (.t 5)), (some 17), (some (16, true)), [], []⟩, ⟨(.bin .add (.t 17) (.c (.int .i64 2))), (some 18), (some (16, true)), [], []⟩, ⟨(.mv (.t 0)), (some 19), (some (16, true)), [], []⟩, ⟨(.len true (.t 19)), (some 20), (some (16, true)), [], []⟩, ⟨(.bin .lss (.t 18) (.t 20)), (some 21), (some (16, true)), [], []⟩, ⟨(.pick (.t 16) (.t 21) (.c (.bool false))), (some 22), none, [], []⟩], [], [], false⟩
def r_rUnq_5 : Reg := ⟨[⟨(.mv (.t 4)), (some 23), none, [28, 34, 36], []⟩, ⟨(.mv (.t 0)), (some 24), none, [28, 34, 36], []⟩, ⟨(.mv (.t 5)), (some 25), none, [28, 34, 36], []⟩, ⟨(.bin .add (.t 25) (.c (.int .i64 1))), (some 26), none, [28, 34, 36], []⟩, ⟨(.idx (.t 24) (.t 26)), (some 27), none, [28, 34, 36], []⟩, ⟨(.callv (.c (.clo 39 [] [])) [(.t 27)]), (some 28), none, [34, 36], []⟩, ⟨(.bin .mul (.c (.int .u8 16)) (.t 28)), (some 29), none, [34, 36], []⟩, ⟨(.mv (.t 0)), (some 30), none, [28, 34, 36], []⟩, ⟨(.mv (.t 5)), (some 31), none, [28, 34, 36], []⟩, ⟨(.bin .add (.t 31) (.c (.int .i64 2))), (some 32), none, [28, 34, 36], []⟩, ⟨(.idx (.t 30) (.t 32)), (some 33), none, [28, 34, 36], []⟩, ⟨(.callv (.c (.clo 39 [] [])) [(.t 33)]), (some 34), none, [36], []⟩, ⟨(.bin .add (.t 29) (.t 34)), (some 35), none, [36], []⟩, ⟨(.bsl 1 5 [(.t 35)]), (some 36), none, [], []⟩], [⟨(.append 1 5 1 (.t 23) (.t 36)), (some 37), none, [], []⟩, ⟨(.mv (.t 37)), (some 4), none, [], []⟩], [28, 34, 36], [], true⟩
def r_rUnq_6 : Reg := ⟨[], [⟨(.mv (.t 5)), (some 38), none, [], []⟩, ⟨(.bin .add (.t 38) (.c (.int .i64 2))), (some 39), none, [], []⟩, ⟨(.mv (.t 39)), (some 5), none, [], []⟩], [], [], false⟩
def r_rUnq_7 : Reg := ⟨[], [⟨(.mv (.t 4)), (some 40), none, [44], []⟩, ⟨(.mv (.t 0)), (some 41), none, [44], []⟩, ⟨(.mv (.t 5)), (some 42), none, [44], []⟩, ⟨(.idx (.t 41) (.t 42)), (some 43), none, [44], []⟩, ⟨(.bsl 1 5 [(.t 43)]), (some 44), none, [], []⟩, ⟨(.append 1 5 1 (.t 40) (.t 44)), (some 45), none, [], []⟩, ⟨(.mv (.t 45)), (some 4), none, [], []⟩], [44], [], false⟩
def r_rUnq_8 : Reg := ⟨[], [⟨(.mv (.t 5)), (some 10), none, [], []⟩, ⟨(.bin .add (.t 10) (.c (.int .i64 1))), (some 11), none, [], []⟩, ⟨(.mv (.t 11)), (some 5), none, [], []⟩], [], [], false⟩
def r_rUnq_l9 : IR := (.seq (.seq (.reg r_rUnq_3)
  (.cond (.t 9) .skip
  (.exit 0)))
  (.seq (.block 1 (.seq (.reg r_rUnq_4)
  (.cond (.t 22) (.seq (.reg r_rUnq_5)
  (.reg r_rUnq_6))
  (.reg r_rUnq_7))))
  (.reg r_rUnq_8)))
def r_rUnq_10 : Reg := ⟨[], [⟨(.mv (.t 0)), (some 46), none, [], []⟩, ⟨(.bin .eql (.t 46) (.c (.str ⟨#[45]⟩))), (some 47), none, [], []⟩], [], [], false⟩
def r_rUnq_11 : Reg := ⟨[], [⟨(.mknil 1 5), (some 4), none, [], []⟩], [4], [], false⟩
def r_rUnq_12 : Reg := ⟨[], [⟨(.mv (.t 4)), (some 48), none, [49, 50], []⟩, ⟨(.call 1 [(.t 48)]), (some 49), none, [50], []⟩, ⟨(.callv (.c (.clo 14 [] [])) [(.t 49)]), (some 50), none, [], []⟩, ⟨(.mv (.t 0)), (some 51), none, [], []⟩, ⟨(.bin .neq (.t 50) (.t 51)), (some 52), none, [], []⟩], [49, 50], [], false⟩
def r_rUnq_13 : Reg := ⟨[], [⟨(.mv (.c (.str ⟨#[]⟩))), (some 2), none, [], []⟩, ⟨(.mv (.c (.bool false))), (some 3), none, [], []⟩], [], [], false⟩
def r_rUnq_14 : Reg := ⟨[], [⟨(.mv (.t 4)), (some 53), none, [54], []⟩, ⟨(.call 1 [(.t 53)]), (some 54), none, [], []⟩, ⟨(.mv (.t 54)), (some 2), none, [], []⟩, ⟨(.mv (.c (.bool true))), (some 3), none, [], []⟩], [54], [], false⟩
def ir_rUnq : IR := (.seq (.reg r_rUnq_0)
  (.seq (.reg r_rUnq_1)
  (.seq (.seq (.reg r_rUnq_2)
  (.block 0 (.loop r_rUnq_l9)))
  (.seq (.seq (.reg r_rUnq_10)
  (.cond (.t 47) (.reg r_rUnq_11)
  .skip))
  (.seq (.seq (.reg r_rUnq_12)
  (.cond (.t 52) (.seq (.reg r_rUnq_13)
  .ret)
  .skip))
  (.seq (.reg r_rUnq_14)
  .ret))))))
def res_rUnq : List RDesc := [(.tmp 2), (.tmp 3)]
theorem e_rUnq_0 (C : FuncId → List AV → AV → Prop) (σ : St) (K : St → Prop) : runReg C r_rUnq_0 σ K = runOps C [⟨(.mv (.c (.str ⟨#[]⟩))), (some 2), none, [], []⟩, ⟨(.mv (.c (.bool false))), (some 3), none, [], []⟩] (σ.kills []) K := rfl
theorem e_rUnq_1 (C : FuncId → List AV → AV → Prop) (σ : St) (K : St → Prop) : runReg C r_rUnq_1 σ K = runOps C [⟨(.mknil 1 5), (some 4), none, [], []⟩] (σ.kills [4]) K := rfl
theorem e_rUnq_2 (C : FuncId → List AV → AV → Prop) (σ : St) (K : St → Prop) : runReg C r_rUnq_2 σ K = runOps C [⟨(.mv (.c (.int .i64 0))), (some 5), none, [], []⟩] (σ.kills []) K := rfl
theorem e_rUnq_3 (C : FuncId → List AV → AV → Prop) (σ : St) (K : St → Prop) : runReg C r_rUnq_3 σ K = runOps C [⟨(.mv (.t 5)), (some 6), none, [], []⟩, ⟨(.mv (.t 0)), (some 7), none, [], []⟩, ⟨(.len true (.t 7)), (some 8), none, [], []⟩, ⟨(.bin .lss (.t 6) (.t 8)), (some 9), none, [], []⟩] (σ.kills []) K := rfl
theorem e_rUnq_4 (C : FuncId → List AV → AV → Prop) (σ : St) (K : St → Prop) : runReg C r_rUnq_4 σ K = runOps C [⟨(.mv (.t 0)), (some 12), none, [], []⟩, ⟨(.mv (.t 5)), (some 13), none, [], []⟩, ⟨(.idx (.t 12) (.t 13)), (some 14), none, [], []⟩, ⟨(.bin .eql (.t 14) (.c (.int .u8 37))), (some 15), none, [], []⟩, ⟨(.mv (.t 15)), (some 16), none, [], []⟩, ⟨(.mv (.t 5)), (some 17), (some (16, true)), [], []⟩, ⟨(.bin .add (.t 17) (.c (.int .i64 2))), (some 18), (some (16, true)), [], []⟩, ⟨(.mv (.t 0)), (some 19), (some (16, true)), [], []⟩, ⟨(.len true (.t 19)), (some 20), (some (16, true)), [], []⟩, ⟨(.bin .lss (.t 18) (.t 20)), (some 21), (some (16, true)), [], []⟩, ⟨(.pick (.t 16) (.t 21) (.c (.bool false))), (some 22), none, [], []⟩] (σ.kills []) K := rfl
theorem e_rUnq_5 (C : FuncId → List AV → AV → Prop) (σ : St) (K : St → Prop) : runReg C r_rUnq_5 σ K = runHead C [] [⟨(.append 1 5 1 (.t 23) (.t 36)), (some 37), none, [], []⟩, ⟨(.mv (.t 37)), (some 4), none, [], []⟩] [⟨(.mv (.t 4)), (some 23), none, [28, 34, 36], []⟩, ⟨(.mv (.t 0)), (some 24), none, [28, 34, 36], []⟩, ⟨(.mv (.t 5)), (some 25), none, [28, 34, 36], []⟩, ⟨(.bin .add (.t 25) (.c (.int .i64 1))), (some 26), none, [28, 34, 36], []⟩, ⟨(.idx (.t 24) (.t 26)), (some 27), none, [28, 34, 36], []⟩, ⟨(.callv (.c (.clo 39 [] [])) [(.t 27)]), (some 28), none, [34, 36], []⟩, ⟨(.bin .mul (.c (.int .u8 16)) (.t 28)), (some 29), none, [34, 36], []⟩, ⟨(.mv (.t 0)), (some 30), none, [28, 34, 36], []⟩, ⟨(.mv (.t 5)), (some 31), none, [28, 34, 36], []⟩, ⟨(.bin .add (.t 31) (.c (.int .i64 2))), (some 32), none, [28, 34, 36], []⟩, ⟨(.idx (.t 30) (.t 32)), (some 33), none, [28, 34, 36], []⟩, ⟨(.callv (.c (.clo 39 [] [])) [(.t 33)]), (some 34), none, [36], []⟩, ⟨(.bin .add (.t 29) (.t 34)), (some 35), none, [36], []⟩, ⟨(.bsl 1 5 [(.t 35)]), (some 36), none, [], []⟩] (σ.kills [28, 34, 36]) K := rfl
theorem e_rUnq_6 (C : FuncId → List AV → AV → Prop) (σ : St) (K : St → Prop) : runReg C r_rUnq_6 σ K = runOps C [⟨(.mv (.t 5)), (some 38), none, [], []⟩, ⟨(.bin .add (.t 38) (.c (.int .i64 2))), (some 39), none, [], []⟩, ⟨(.mv (.t 39)), (some 5), none, [], []⟩] (σ.kills []) K := rfl
theorem e_rUnq_7 (C : FuncId → List AV → AV → Prop) (σ : St) (K : St → Prop) : runReg C r_rUnq_7 σ K = runOps C [⟨(.mv (.t 4)), (some 40), none, [44], []⟩, ⟨(.mv (.t 0)), (some 41), none, [44], []⟩, ⟨(.mv (.t 5)), (some 42), none, [44], []⟩, ⟨(.idx (.t 41) (.t 42)), (some 43), none, [44], []⟩, ⟨(.bsl 1 5 [(.t 43)]), (some 44), none, [], []⟩, ⟨(.append 1 5 1 (.t 40) (.t 44)), (some 45), none, [], []⟩, ⟨(.mv (.t 45)), (some 4), none, [], []⟩] (σ.kills [44]) K := rfl
theorem e_rUnq_8 (C : FuncId → List AV → AV → Prop) (σ : St) (K : St → Prop) : runReg C r_rUnq_8 σ K = runOps C [⟨(.mv (.t 5)), (some 10), none, [], []⟩, ⟨(.bin .add (.t 10) (.c (.int .i64 1))), (some 11), none, [], []⟩, ⟨(.mv (.t 11)), (some 5), none, [], []⟩] (σ.kills []) K := rfl
theorem e_rUnq_10 (C : FuncId → List AV → AV → Prop) (σ : St) (K : St → Prop) : runReg C r_rUnq_10 σ K = runOps C [⟨(.mv (.t 0)), (some 46), none, [], []⟩, ⟨(.bin .eql (.t 46) (.c (.str ⟨#[45]⟩))), (some 47), none, [], []⟩] (σ.kills []) K := rfl
theorem e_rUnq_11 (C : FuncId → List AV → AV → Prop) (σ : St) (K : St → Prop) : runReg C r_rUnq_11 σ K = runOps C [⟨(.mknil 1 5), (some 4), none, [], []⟩] (σ.kills [4]) K := rfl
theorem e_rUnq_12 (C : FuncId → List AV → AV → Prop) (σ : St) (K : St → Prop) : runReg C r_rUnq_12 σ K = runOps C [⟨(.mv (.t 4)), (some 48), none, [49, 50], []⟩, ⟨(.call 1 [(.t 48)]), (some 49), none, [50], []⟩, ⟨(.callv (.c (.clo 14 [] [])) [(.t 49)]), (some 50), none, [], []⟩, ⟨(.mv (.t 0)), (some 51), none, [], []⟩, ⟨(.bin .neq (.t 50) (.t 51)), (some 52), none, [], []⟩] (σ.kills [49, 50]) K := rfl
theorem e_rUnq_13 (C : FuncId → List AV → AV → Prop) (σ : St) (K : St → Prop) : runReg C r_rUnq_13 σ K = runOps C [⟨(.mv (.c (.str ⟨#[]⟩))), (some 2), none, [], []⟩, ⟨(.mv (.c (.bool false))), (some 3), none, [], []⟩] (σ.kills []) K := rfl
theorem e_rUnq_14 (C : FuncId → List AV → AV → Prop) (σ : St) (K : St → Prop) : runReg C r_rUnq_14 σ K = runOps C [⟨(.mv (.t 4)), (some 53), none, [54], []⟩, ⟨(.call 1 [(.t 53)]), (some 54), none, [], []⟩, ⟨(.mv (.t 54)), (some 2), none, [], []⟩, ⟨(.mv (.c (.bool true))), (some 3), none, [], []⟩] (σ.kills [54]) K := rfl
theorem fn_rUnq {args : List AV} {r : AV} (ha : args.length.ble Tryd.f13.ntmps = true) (h : run (AFn Tryd.prog) ir_rUnq (endQ res_rUnq r) (initSt args)) : AFn Tryd.prog 13 args r :=
  AFn.of_code (hint := fun _ => []) (c := Tryd.f13.body.getD .skip) (by kernel_rfl) (by kernel_rfl) Tryd.func13 (by kernel_rfl) (by kernel_rfl) (by kernel_rfl) (of_decide_eq_true (by kernel_rfl)) (Nat.le_of_ble_eq_true ha) (Nat.le_of_ble_eq_true (by kernel_rfl)) (run_ok h)

/-! ### percolate/percolatelaw06.PackQuotes -/
def r_quotes_0 : Reg := ⟨[], [⟨(.mv (.c (.bool false))), (some 4), none, [], []⟩], [], [], false⟩
def r_quotes_1 : Reg := ⟨[], [⟨(.mv (.t 0)), (some 12), none, [], []⟩, ⟨(.len true (.t 12)), (some 13), none, [], []⟩, ⟨(.bin .gtr (.t 13) (.c (.int .i64 1000))), (some 14), none, [], []⟩, ⟨(.mv (.t 14)), (some 15), none, [], []⟩, ⟨(.mv (.t 1)), (some 16), (some (15, false)), [], []⟩, ⟨(.len true (.t 16)), (some 17), (some (15, false)), [], []⟩, ⟨(.bin .gtr (.t 17) (.c (.int .i64 1000))), (some 18), (some (15, false)), [], []⟩, ⟨(.pick (.t 15) (.c (.bool true)) (.t 18)), (some 19), none, [], []⟩], [], [], false⟩
def r_quotes_2 : Reg := ⟨[], [⟨(.callv (.c (.clo 10 [] [])) []), (some 20), none, [], []⟩, ⟨(.mv (.t 20)), (some 4), none, [], []⟩], [20], [], false⟩
def r_quotes_3 : Reg := ⟨[], [⟨(.mv (.t 0)), (some 21), none, [22], []⟩, ⟨(.callv (.c (.clo 11 [] [])) [(.t 21)]), (some 22), none, [], []⟩, ⟨(.mv (.t 22)), (some 5), none, [], []⟩], [22], [], false⟩
def r_quotes_4 : Reg := ⟨[], [⟨(.mv (.t 5)), (some 24), none, [25], []⟩, ⟨(.callv (.c (.clo 12 [] [])) [(.t 24)]), (some 25), none, [], []⟩, ⟨(.mv (.t 25)), (some 23), none, [], []⟩, ⟨(.ext 0 (.t 23)), (some 26), none, [], []⟩, ⟨(.ext 1 (.t 23)), (some 27), none, [], []⟩, ⟨(.mv (.t 26)), (some 6), none, [], []⟩, ⟨(.mv (.t 27)), (some 7), none, [], []⟩], [25], [], false⟩
def r_quotes_5 : Reg := ⟨[], [⟨(.mv (.t 1)), (some 29), none, [30], []⟩, ⟨(.callv (.c (.clo 12 [] [])) [(.t 29)]), (some 30), none, [], []⟩, ⟨(.mv (.t 30)), (some 28), none, [], []⟩, ⟨(.ext 0 (.t 28)), (some 31), none, [], []⟩, ⟨(.ext 1 (.t 28)), (some 32), none, [], []⟩, ⟨(.mv (.t 31)), (some 8), none, [], []⟩, ⟨(.mv (.t 32)), (some 9), none, [], []⟩], [30], [], false⟩
def r_quotes_6 : Reg := ⟨[], [⟨(.mv (.t 1)), (some 34), none, [35], []⟩, ⟨(.callv (.c (.clo 13 [] [])) [(.t 34)]), (some 35), none, [], []⟩, ⟨(.mv (.t 35)), (some 33), none, [], []⟩, ⟨(.ext 0 (.t 33)), (some 36), none, [], []⟩, ⟨(.ext 1 (.t 33)), (some 37), none, [], []⟩, ⟨(.mv (.t 36)), (some 10), none, [], []⟩, ⟨(.mv (.t 37)), (some 11), none, [], []⟩], [35], [], false⟩
def r_quotes_7 : Reg := ⟨[], [⟨(.mv (.t 5)), (some 38), none, [40, 61], []⟩, ⟨(.mv (.t 0)), (some 39), none, [40, 61], []⟩, ⟨(.callv (.c (.clo 14 [] [])) [(.t 39)]), (some 40), none, [61], []⟩, ⟨(.bin .eql (.t 38) (.t 40)), (some 41), none, [61], []⟩, ⟨(.mv (.t 41)), (some 42), none, [61], []⟩, ⟨(.mv (.t 6)), (some 43), (some (42, true)), [61], []⟩, ⟨(.mv (.t 0)), (some 44), (some (42, true)), [61], []⟩, ⟨(.bin .eql (.t 43) (.t 44)), (some 45), (some (42, true)), [61], []⟩, ⟨(.pick (.t 42) (.t 45) (.c (.bool false))), (some 46), none, [61], []⟩, ⟨(.mv (.t 46)), (some 47), none, [61], []⟩, ⟨(.mv (.t 7)), (some 48), (some (47, true)), [61], []⟩, ⟨(.pick (.t 47) (.t 48) (.c (.bool false))), (some 49), none, [61], []⟩, ⟨(.mv (.t 49)), (some 50), none, [61], []⟩, ⟨(.mv (.t 8)), (some 51), (some (50, true)), [61], []⟩, ⟨(.mv (.t 10)), (some 52), (some (50, true)), [61], []⟩, ⟨(.bin .eql (.t 51) (.t 52)), (some 53), (some (50, true)), [61], []⟩, ⟨(.pick (.t 50) (.t 53) (.c (.bool false))), (some 54), none, [61], []⟩, ⟨(.mv (.t 54)), (some 55), none, [61], []⟩, ⟨(.mv (.t 9)), (some 56), (some (55, true)), [61], []⟩, ⟨(.mv (.t 11)), (some 57), (some (55, true)), [61], []⟩, ⟨(.beq false (.t 56) (.t 57)), (some 58), (some (55, true)), [61], []⟩, ⟨(.pick (.t 55) (.t 58) (.c (.bool false))), (some 59), none, [61], []⟩, ⟨(.mv (.t 59)), (some 60), none, [61], []⟩, ⟨(.callv (.c (.clo 10 [] [])) []), (some 61), (some (60, true)), [], []⟩, ⟨(.pick (.t 60) (.t 61) (.c (.bool false))), (some 62), none, [], []⟩, ⟨(.mv (.t 62)), (some 4), none, [], []⟩], [40, 61], [], false⟩
def ir_quotes : IR := (.seq (.reg r_quotes_0)
  (.seq (.seq (.reg r_quotes_1)
  (.cond (.t 19) (.seq (.reg r_quotes_2)
  .ret)
  .skip))
  (.seq (.reg r_quotes_3)
  (.seq (.reg r_quotes_4)
  (.seq (.reg r_quotes_5)
  (.seq (.reg r_quotes_6)
  (.seq (.reg r_quotes_7)
  .ret)))))))
def res_quotes : List RDesc := [(.tmp 4)]
theorem e_quotes_0 (C : FuncId → List AV → AV → Prop) (σ : St) (K : St → Prop) : runReg C r_quotes_0 σ K = runOps C [⟨(.mv (.c (.bool false))), (some 4), none, [], []⟩] (σ.kills []) K := rfl
theorem e_quotes_1 (C : FuncId → List AV → AV → Prop) (σ : St) (K : St → Prop) : runReg C r_quotes_1 σ K = runOps C [⟨(.mv (.t 0)), (some 12), none, [], []⟩, ⟨(.len true (.t 12)), (some 13), none, [], []⟩, ⟨(.bin .gtr (.t 13) (.c (.int .i64 1000))), (some 14), none, [], []⟩, ⟨(.mv (.t 14)), (some 15), none, [], []⟩, ⟨(.mv (.t 1)), (some 16), (some (15, false)), [], []⟩, ⟨(.len true (.t 16)), (some 17), (some (15, false)), [], []⟩, ⟨(.bin .gtr (.t 17) (.c (.int .i64 1000))), (some 18), (some (15, false)), [], []⟩, ⟨(.pick (.t 15) (.c (.bool true)) (.t 18)), (some 19), none, [], []⟩] (σ.kills []) K := rfl
theorem e_quotes_2 (C : FuncId → List AV → AV → Prop) (σ : St) (K : St → Prop) : runReg C r_quotes_2 σ K = runOps C [⟨(.callv (.c (.clo 10 [] [])) []), (some 20), none, [], []⟩, ⟨(.mv (.t 20)), (some 4), none, [], []⟩] (σ.kills [20]) K := rfl
theorem e_quotes_3 (C : FuncId → List AV → AV → Prop) (σ : St) (K : St → Prop) : runReg C r_quotes_3 σ K = runOps C [⟨(.mv (.t 0)), (some 21), none, [22], []⟩, ⟨(.callv (.c (.clo 11 [] [])) [(.t 21)]), (some 22), none, [], []⟩, ⟨(.mv (.t 22)), (some 5), none, [], []⟩] (σ.kills [22]) K := rfl
theorem e_quotes_4 (C : FuncId → List AV → AV → Prop) (σ : St) (K : St → Prop) : runReg C r_quotes_4 σ K = runOps C [⟨(.mv (.t 5)), (some 24), none, [25], []⟩, ⟨(.callv (.c (.clo 12 [] [])) [(.t 24)]), (some 25), none, [], []⟩, ⟨(.mv (.t 25)), (some 23), none, [], []⟩, ⟨(.ext 0 (.t 23)), (some 26), none, [], []⟩, ⟨(.ext 1 (.t 23)), (some 27), none, [], []⟩, ⟨(.mv (.t 26)), (some 6), none, [], []⟩, ⟨(.mv (.t 27)), (some 7), none, [], []⟩] (σ.kills [25]) K := rfl
theorem e_quotes_5 (C : FuncId → List AV → AV → Prop) (σ : St) (K : St → Prop) : runReg C r_quotes_5 σ K = runOps C [⟨(.mv (.t 1)), (some 29), none, [30], []⟩, ⟨(.callv (.c (.clo 12 [] [])) [(.t 29)]), (some 30), none, [], []⟩, ⟨(.mv (.t 30)), (some 28), none, [], []⟩, ⟨(.ext 0 (.t 28)), (some 31), none, [], []⟩, ⟨(.ext 1 (.t 28)), (some 32), none, [], []⟩, ⟨(.mv (.t 31)), (some 8), none, [], []⟩, ⟨(.mv (.t 32)), (some 9), none, [], []⟩] (σ.kills [30]) K := rfl
theorem e_quotes_6 (C : FuncId → List AV → AV → Prop) (σ : St) (K : St → Prop) : runReg C r_quotes_6 σ K = runOps C [⟨(.mv (.t 1)), (some 34), none, [35], []⟩, ⟨(.callv (.c (.clo 13 [] [])) [(.t 34)]), (some 35), none, [], []⟩, ⟨(.mv (.t 35)), (some 33), none, [], []⟩, ⟨(.ext 0 (.t 33)), (some 36), none, [], []⟩, ⟨(.ext 1 (.t 33)), (some 37), none, [], []⟩, ⟨(.mv (.t 36)), (some 10), none, [], []⟩, ⟨(.mv (.t 37)), (some 11), none, [], []⟩] (σ.kills [35]) K := rfl
theorem e_quotes_7 (C : FuncId → List AV → AV → Prop) (σ : St) (K : St → Prop) : runReg C r_quotes_7 σ K = runOps C [⟨(.mv (.t 5)), (some 38), none, [40, 61], []⟩, ⟨(.mv (.t 0)), (some 39), none, [40, 61], []⟩, ⟨(.callv (.c (.clo 14 [] [])) [(.t 39)]), (some 40), none, [61], []⟩, ⟨(.bin .eql (.t 38) (.t 40)), (some 41), none, [61], []⟩, ⟨(.mv (.t 41)), (some 42), none, [61], []⟩, ⟨(.mv (.t 6)), (some 43), (some (42, true)), [61], []⟩, ⟨(.mv (.t 0)), (some 44), (some (42, true)), [61], []⟩, ⟨(.bin .eql (.t 43) (.t 44)), (some 45), (some (42, true)), [61], []⟩, ⟨(.pick (.t 42) (.t 45) (.c (.bool false))), (some 46), none, [61], []⟩, ⟨(.mv (.t 46)), (some 47), none, [61], []⟩, ⟨(.mv (.t 7)), (some 48), (some (47, true)), [61], []⟩, ⟨(.pick (.t 47) (.t 48) (.c (.bool false))), (some 49), none, [61], []⟩, ⟨(.mv (.t 49)), (some 50), none, [61], []⟩, ⟨(.mv (.t 8)), (some 51), (some (50, true)), [61], []⟩, ⟨(.mv (.t 10)), (some 52), (some (50, true)), [61], []⟩, ⟨(.bin .eql (.t 51) (.t 52)), (some 53), (some (50, true)), [61], []⟩, ⟨(.pick (.t 50) (.t 53) (.c (.bool false))), (some 54), none, [61], []⟩, ⟨(.mv (.t 54)), (some 55), none, [61], []⟩, ⟨(.mv (.t 9)), (some 56), (some (55, true)), [61], []⟩, ⟨(.mv (.t 11)), (some 57), (some (55, true)), [61], []⟩, ⟨(.beq false (.t 56) (.t 57)), (some 58), (some (55, true)), [61], []⟩, ⟨(.pick (.t 55) (.t 58) (.c (.bool false))), (some 59), none, [61], []⟩, ⟨(.mv (.t 59)), (some 60), none, [61], []⟩, ⟨(.callv (.c (.clo 10 [] [])) []), (some 61), (some (60, true)), [], []⟩, ⟨(.pick (.t 60) (.t 61) (.c (.bool false))), (some 62), none, [], []⟩, ⟨(.mv (.t 62)), (some 4), none, [], []⟩] (σ.kills [40, 61]) K := rfl
theorem fn_quotes {args : List AV} {r : AV} (ha : args.length.ble Tryd.f3.ntmps = true) (h : run (AFn Tryd.prog) ir_quotes (endQ res_quotes r) (initSt args)) : AFn Tryd.prog 3 args r :=
  AFn.of_code (hint := fun _ => []) (c := Tryd.f3.body.getD .skip) (by kernel_rfl) (by kernel_rfl) Tryd.func3 (by kernel_rfl) (by kernel_rfl) (by kernel_rfl) (of_decide_eq_true (by kernel_rfl)) (Nat.le_of_ble_eq_true ha) (Nat.le_of_ble_eq_true (by kernel_rfl)) (run_ok h)

attribute [local go_sem ↓] ir_rVal
attribute [local go_sem] res_rVal e_rVal_0 e_rVal_1 e_rVal_2 e_rVal_3 e_rVal_4 e_rVal_5
attribute [local go_sem ↓] ir_rQuote
attribute [local go_sem] res_rQuote e_rQuote_0 e_rQuote_1 e_rQuote_2 e_rQuote_3 e_rQuote_4 e_rQuote_5 e_rQuote_6 e_rQuote_7 e_rQuote_8 e_rQuote_10 e_rQuote_11 e_rQuote_12
attribute [local go_sem ↓] ir_rUnq
attribute [local go_sem] res_rUnq e_rUnq_0 e_rUnq_1 e_rUnq_2 e_rUnq_3 e_rUnq_4 e_rUnq_5 e_rUnq_6 e_rUnq_7 e_rUnq_8 e_rUnq_10 e_rUnq_11 e_rUnq_12 e_rUnq_13 e_rUnq_14
attribute [local go_sem ↓] ir_quotes
attribute [local go_sem] res_quotes e_quotes_0 e_quotes_1 e_quotes_2 e_quotes_3 e_quotes_4 e_quotes_5 e_quotes_6 e_quotes_7

theorem rVal_ok (c : UInt8) : AFn Tryd.prog 39 [bz c] (.int .u8 ((valB c).toNat : Int)) := by
  refine fn_rVal rfl ?_
  have hc := c.toNat_lt
  have w1 : IntKind.u8.wrap (IntKind.u8.wrap ((c.toNat : Int) - 97) + 10) = ((c.toNat - 97 + 10 : Nat) : Int) ∨ ¬ (97 ≤ (c.toNat : Int)) ∨ ¬ ((c.toNat : Int) ≤ 102) := by
    by_cases h1 : 97 ≤ (c.toNat : Int)
    · by_cases h2 : (c.toNat : Int) ≤ 102
      · left
        simp [IntKind.wrap, IntKind.signed, IntKind.bits]; omega
      · exact .inr (.inr h2)
    · exact .inr (.inl h1)
  have w2 : IntKind.u8.wrap ((c.toNat : Int) - 48) = ((c.toNat - 48 : Nat) : Int) ∨ ¬ (48 ≤ (c.toNat : Int)) := by
    by_cases h1 : 48 ≤ (c.toNat : Int)
    · left
      simp [IntKind.wrap, IntKind.signed, IntKind.bits]; omega
    · exact .inr h1
  have hu : ∀ n : Nat, n < 256 → ((UInt8.ofNat n).toNat : Int) = n := fun n hn => by rw [show (UInt8.ofNat n).toNat = n % 256 from UInt8.toNat_ofNat' ..]; omega
  have hlow : ¬ (48 ≤ c.toNat ∧ c.toNat ≤ 57) → ¬ (97 ≤ c.toNat ∧ c.toNat ≤ 102) → valB c = 0 := fun h1 h2 => by unfold valB; rw [if_neg h2, if_neg h1]
  have hdig : (48 ≤ c.toNat ∧ c.toNat ≤ 57) → ((valB c).toNat : Int) = ((c.toNat - 48 : Nat) : Int) := fun h1 => by
    unfold valB; rw [if_neg (by omega), if_pos h1, hu _ (by omega)]
  by_cases h1 : 97 ≤ (c.toNat : Int)
  · by_cases h2 : (c.toNat : Int) ≤ 102
    · have w1 : IntKind.u8.wrap (IntKind.u8.wrap ((c.toNat : Int) - 97) + 10) = ((c.toNat - 97 + 10 : Nat) : Int) := by
        rcases w1 with h | h | h
        · exact h
        · exact absurd h1 h
        · exact absurd h2 h
      have hv : ((c.toNat - 97 + 10 : Nat) : Int) = ((valB c).toNat : Int) := by
        unfold valB; rw [if_pos (by omega), hu _ (by omega)]
      rw [hv] at w1
      simp (maxSteps := 4000000) only [go_sem, ↓reduceIte, reduceCtorEq, Nat.reduceEqDiff, Nat.reduceBEq, Nat.reduceAdd, Nat.reduceSub, Nat.reduceMul, Nat.reduceLT, Nat.reduceLeDiff, Nat.reduceBNe, Int.reduceBEq, Int.reduceBNe, Int.reduceLT, Int.reduceLE, h1, h2, w1]
    · have h3 : 48 ≤ (c.toNat : Int) := by omega
      have h4 : ¬ (c.toNat : Int) ≤ 57 := by omega
      have hv := hlow (by omega) (by omega)
      have z : ((0 : UInt8).toNat : Int) = 0 := rfl
      rw [hv, z]
      simp (maxSteps := 4000000) only [go_sem, ↓reduceIte, reduceCtorEq, Nat.reduceEqDiff, Nat.reduceBEq, Nat.reduceAdd, Nat.reduceSub, Nat.reduceMul, Nat.reduceLT, Nat.reduceLeDiff, Nat.reduceBNe, Int.reduceBEq, Int.reduceBNe, Int.reduceLT, Int.reduceLE, h1, h2, h3, h4]
  · by_cases h3 : 48 ≤ (c.toNat : Int)
    · by_cases h4 : (c.toNat : Int) ≤ 57
      · have w2 : IntKind.u8.wrap ((c.toNat : Int) - 48) = ((c.toNat - 48 : Nat) : Int) := by
          rcases w2 with h | h
          · exact h
          · exact absurd h3 h
        rw [← hdig (by omega)] at w2
        simp (maxSteps := 4000000) only [go_sem, ↓reduceIte, reduceCtorEq, Nat.reduceEqDiff, Nat.reduceBEq, Nat.reduceAdd, Nat.reduceSub, Nat.reduceMul, Nat.reduceLT, Nat.reduceLeDiff, Nat.reduceBNe, Int.reduceBEq, Int.reduceBNe, Int.reduceLT, Int.reduceLE, h1, h3, h4, w2]
      · have hv := hlow (by omega) (by omega)
        have z : ((0 : UInt8).toNat : Int) = 0 := rfl
        rw [hv, z]
        simp (maxSteps := 4000000) only [go_sem, ↓reduceIte, reduceCtorEq, Nat.reduceEqDiff, Nat.reduceBEq, Nat.reduceAdd, Nat.reduceSub, Nat.reduceMul, Nat.reduceLT, Nat.reduceLeDiff, Nat.reduceBNe, Int.reduceBEq, Int.reduceBNe, Int.reduceLT, Int.reduceLE, h1, h3, h4]
    · have hv := hlow (by omega) (by omega)
      have z : ((0 : UInt8).toNat : Int) = 0 := rfl
      rw [hv, z]
      simp (maxSteps := 4000000) only [go_sem, ↓reduceIte, reduceCtorEq, Nat.reduceEqDiff, Nat.reduceBEq, Nat.reduceAdd, Nat.reduceSub, Nat.reduceMul, Nat.reduceLT, Nat.reduceLeDiff, Nat.reduceBNe, Int.reduceBEq, Int.reduceBNe, Int.reduceLT, Int.reduceLE, h1, h3]
def qs (l : List UInt8) : ByteArray := ⟨(quoteL l).toArray⟩
def hexS : ByteArray := ⟨#[48, 49, 50, 51, 52, 53, 54, 55, 56, 57, 97, 98, 99, 100, 101, 102]⟩
theorem hexS_ext : ∀ n : Fin 16, hexS.extract n.val (n.val + 1) = ⟨#[hexD n.val]⟩ := by decide +kernel
theorem qs_size (l : List UInt8) : (qs l).size = (quoteL l).length := rfl
theorem qs_plain {s : List UInt8} {j : Nat} {c : UInt8} (hc : s[j]? = some c) (hp : plainB c = true) : qs (s.take j) ++ (⟨#[c]⟩ : ByteArray) = qs (s.take (j + 1)) := by
  apply ba_ext
  rw [ByteArray.data_append, Array.toList_append]
  unfold qs
  rw [List.take_add_one, hc]
  simp only [Option.toList]
  rw [quoteL_app, quoteL_one, hp, if_pos rfl]
theorem qs_other {s : List UInt8} {j : Nat} {c : UInt8} (hc : s[j]? = some c) (hp : plainB c = false) : qs (s.take j) ++ ((⟨#[37]⟩ : ByteArray) ++ ⟨#[hexD (c.toNat / 16)]⟩ ++ ⟨#[hexD (c.toNat % 16)]⟩) = qs (s.take (j + 1)) := by
  apply ba_ext
  rw [ByteArray.data_append, Array.toList_append]
  unfold qs
  rw [List.take_add_one, hc]
  simp only [Option.toList]
  rw [quoteL_app, quoteL_one, hp, if_neg (by simp)]
  rfl
theorem ext_one {s : ByteArray} {j : Nat} {c : UInt8} (hc : s.data.toList[j]? = some c) : s.extract j (j + 1) = ⟨#[c]⟩ := by
  apply bext
  rw [ext_list, List.take_add_one, hc]
  have hj := (List.getElem?_eq_some_iff.1 hc).1
  simp only [Option.toList]
  rw [List.drop_append, List.length_take, Nat.min_eq_left (by omega), Nat.sub_self, List.drop_zero, List.drop_eq_nil_of_le (by rw [List.length_take]; omega), List.nil_append]
def rqInv (s : ByteArray) (k : Nat) (σ : St) : Prop :=
  ∃ j : Nat, j ≤ s.size ∧ k = s.size - j ∧ σ.T 0 = .str s ∧ σ.T 3 = .str hexS ∧ σ.T 4 = .str (qs (s.data.toList.take j)) ∧ σ.T 5 = .int .i64 j
theorem qs_eq {s : ByteArray} : (if s.size = 0 then (⟨#[45]⟩ : ByteArray) else qs s.data.toList) = quoteF s := rfl
theorem rQuote_ok (s : ByteArray) (hs : s.size ≤ 1000000) : AFn Tryd.prog 14 [.str s] (.str (quoteF s)) := by
  have hL : s.data.toList.length = s.size := by rw [Array.length_toList]; rfl
  refine fn_rQuote rfl ?_
  simp (maxSteps := 4000000) only [go_sem, ↓reduceIte, reduceCtorEq, Nat.reduceEqDiff, Nat.reduceBEq, Nat.reduceAdd, Nat.reduceSub, Nat.reduceMul, Nat.reduceLT, Nat.reduceLeDiff, Nat.reduceBNe, Int.reduceBEq, Int.reduceBNe, Int.reduceLT, Int.reduceLE]
  refine run_loop (rqInv s) (k := s.size) ⟨0, by omega, rfl, ?_, ?_, ?_, ?_⟩ ?_
  · simp (maxSteps := 4000000) only [go_sem, ↓reduceIte, reduceCtorEq, Nat.reduceEqDiff, Nat.reduceBEq, Nat.reduceAdd, Nat.reduceSub, Nat.reduceMul, Nat.reduceLT, Nat.reduceLeDiff, Nat.reduceBNe, Int.reduceBEq, Int.reduceBNe, Int.reduceLT, Int.reduceLE]
  · simp (maxSteps := 4000000) only [go_sem, ↓reduceIte, reduceCtorEq, Nat.reduceEqDiff, Nat.reduceBEq, Nat.reduceAdd, Nat.reduceSub, Nat.reduceMul, Nat.reduceLT, Nat.reduceLeDiff, Nat.reduceBNe, Int.reduceBEq, Int.reduceBNe, Int.reduceLT, Int.reduceLE]
    rfl
  · simp (maxSteps := 4000000) only [go_sem, ↓reduceIte, reduceCtorEq, Nat.reduceEqDiff, Nat.reduceBEq, Nat.reduceAdd, Nat.reduceSub, Nat.reduceMul, Nat.reduceLT, Nat.reduceLeDiff, Nat.reduceBNe, Int.reduceBEq, Int.reduceBNe, Int.reduceLT, Int.reduceLE]
    rfl
  · simp (maxSteps := 4000000) only [go_sem, ↓reduceIte, reduceCtorEq, Nat.reduceEqDiff, Nat.reduceBEq, Nat.reduceAdd, Nat.reduceSub, Nat.reduceMul, Nat.reduceLT, Nat.reduceLeDiff, Nat.reduceBNe, Int.reduceBEq, Int.reduceBNe, Int.reduceLT, Int.reduceLE]
    rfl
  rintro k σ ⟨j, hj, rfl, t0, t3, t4, t5⟩
  simp only [r_rQuote_l9]
  have hsz : (qs (s.data.toList.take j)).size ≤ 3000000 := by
    rw [qs_size]
    have h1 := quoteL_len (s.data.toList.take j)
    have h2 : (s.data.toList.take j).length ≤ s.size := by rw [List.length_take, hL]; omega
    omega
  by_cases hlt : j < s.size
  · have hlt' : (j : Int) < (s.size : Int) := by omega
    have hw1 : IntKind.i64.wrap ((j : Int) + 1) = ((j + 1 : Nat) : Int) := by rw [IntWalk.i64_in _ (by omega)]; rfl
    obtain ⟨c, hc⟩ : ∃ c, s.data.toList[j]? = some c := ⟨_, List.getElem?_eq_getElem (by omega)⟩
    have hg : s.data.toList.getD j 0 = c := by rw [List.getD_eq_getElem?_getD, hc]; rfl
    simp (maxSteps := 4000000) only [go_sem, ↓reduceIte, reduceCtorEq, Nat.reduceEqDiff, Nat.reduceBEq, Nat.reduceAdd, Nat.reduceSub, Nat.reduceMul, Nat.reduceLT, Nat.reduceLeDiff, Nat.reduceBNe, Int.reduceBEq, Int.reduceBNe, Int.reduceLT, Int.reduceLE, t0, t3, t4, t5, hlt', hg, Int.toNat_natCast]
    (repeat refine And.intro (by omega) ?_)
    (first | refine calling (rOwn_ok c) ?_ | refine callingH (rOwn_ok c) ?_)
    cases hp : plainB c with
    | true =>
      have hx := ext_one hc
      have hq := qs_plain hc hp
      simp (maxSteps := 4000000) only [go_sem, ↓reduceIte, reduceCtorEq, Nat.reduceEqDiff, Nat.reduceBEq, Nat.reduceAdd, Nat.reduceSub, Nat.reduceMul, Nat.reduceLT, Nat.reduceLeDiff, Nat.reduceBNe, Int.reduceBEq, Int.reduceBNe, Int.reduceLT, Int.reduceLE, t0, t3, t4, t5, hp, hw1, hx, Int.toNat_natCast]
      (repeat refine And.intro (by omega) ?_)
      rw [hq]
      refine ⟨?_, s.size - (j + 1), by omega, j + 1, by omega, rfl, ?_, ?_, ?_, ?_⟩
      · show (qs _).size + 1 ≤ _
        omega
      all_goals (simp (maxSteps := 4000000) only [go_sem, ↓reduceIte, reduceCtorEq, Nat.reduceEqDiff, Nat.reduceBEq, Nat.reduceAdd, Nat.reduceSub, Nat.reduceMul, Nat.reduceLT, Nat.reduceLeDiff, Nat.reduceBNe, Int.reduceBEq, Int.reduceBNe, Int.reduceLT, Int.reduceLE, t0, t3, t4, t5, hw1])
    | false =>
      have hcl := c.toNat_lt
      have hq := qs_other hc hp
      have e1 := hexS_ext ⟨c.toNat / 16, by omega⟩
      have e2 := hexS_ext ⟨c.toNat % 16, by omega⟩
      simp only at e1 e2
      have h16 : hexS.size = 16 := rfl
      have s1 : ∀ x : UInt8, #[x].size = 1 := fun _ => rfl
      have d1 : IntKind.u8.wrap ((c.toNat : Int).tdiv 16) = ((c.toNat / 16 : Nat) : Int) := by
        rw [Int.tdiv_eq_ediv_of_nonneg (by omega), show ((c.toNat : Int) / 16) = ((c.toNat / 16 : Nat) : Int) by omega]
        simp [IntKind.wrap, IntKind.signed, IntKind.bits]; omega
      have d2 : (c.toNat : Int).tmod 16 = ((c.toNat % 16 : Nat) : Int) := by
        rw [Int.tmod_eq_emod_of_nonneg (by omega)]; omega
      have d3 : IntKind.u8.wrap (((c.toNat / 16 : Nat) : Int) + 1) = ((c.toNat / 16 + 1 : Nat) : Int) := by
        simp [IntKind.wrap, IntKind.signed, IntKind.bits]; omega
      have d4 : IntKind.u8.wrap (((c.toNat % 16 : Nat) : Int) + 1) = ((c.toNat % 16 + 1 : Nat) : Int) := by
        simp [IntKind.wrap, IntKind.signed, IntKind.bits]; omega
      simp (maxSteps := 4000000) only [go_sem, ↓reduceIte, reduceCtorEq, Nat.reduceEqDiff, Nat.reduceBEq, Nat.reduceAdd, Nat.reduceSub, Nat.reduceMul, Nat.reduceLT, Nat.reduceLeDiff, Nat.reduceBNe, Int.reduceBEq, Int.reduceBNe, Int.reduceLT, Int.reduceLE, t0, t3, t4, t5, hp, hw1, hg, d1, d2, d3, d4, e1, e2, h16, s1, Int.toNat_natCast]
      (repeat refine And.intro (by omega) ?_)
      rw [hq]
      refine ⟨s.size - (j + 1), by omega, j + 1, by omega, rfl, ?_, ?_, ?_, ?_⟩ <;> (simp (maxSteps := 4000000) only [go_sem, ↓reduceIte, reduceCtorEq, Nat.reduceEqDiff, Nat.reduceBEq, Nat.reduceAdd, Nat.reduceSub, Nat.reduceMul, Nat.reduceLT, Nat.reduceLeDiff, Nat.reduceBNe, Int.reduceBEq, Int.reduceBNe, Int.reduceLT, Int.reduceLE, t0, t3, t4, t5, hw1])
  · have hlt' : ¬ (j : Int) < (s.size : Int) := by omega
    have hall : s.data.toList.take j = s.data.toList := List.take_of_length_le (by omega)
    rw [hall] at t4
    by_cases h0 : s.size = 0
    · have hnil : s.data.toList = [] := List.eq_nil_of_length_eq_zero (by omega)
      have z1 : ((qs s.data.toList).toList == (ByteArray.mk #[]).toList) = true := by rw [hnil]; decide +kernel
      have z2 : quoteF s = ⟨#[45]⟩ := by rw [← qs_eq, if_pos h0]
      rw [z2]
      simp (maxSteps := 4000000) only [go_sem, ↓reduceIte, reduceCtorEq, Nat.reduceEqDiff, Nat.reduceBEq, Nat.reduceAdd, Nat.reduceSub, Nat.reduceMul, Nat.reduceLT, Nat.reduceLeDiff, Nat.reduceBNe, Int.reduceBEq, Int.reduceBNe, Int.reduceLT, Int.reduceLE, t0, t3, t4, t5, hlt', z1]
    · have hq : qs s.data.toList = quoteF s := by rw [← qs_eq, if_neg h0]
      have z1 : ((qs s.data.toList).toList == (ByteArray.mk #[]).toList) = false := by
        rw [bytes_nil]
        refine decide_eq_false fun e => h0 ?_
        rw [qs_size] at e
        have := quoteL_nil (List.eq_nil_of_length_eq_zero e)
        rw [← hL, this]; rfl
      rw [← hq]
      simp (maxSteps := 4000000) only [go_sem, ↓reduceIte, reduceCtorEq, Nat.reduceEqDiff, Nat.reduceBEq, Nat.reduceAdd, Nat.reduceSub, Nat.reduceMul, Nat.reduceLT, Nat.reduceLeDiff, Nat.reduceBNe, Int.reduceBEq, Int.reduceBNe, Int.reduceLT, Int.reduceLE, t0, t3, t4, t5, hlt', z1]
def ruInv (s : ByteArray) (k : Nat) (σ : St) : Prop :=
  ∃ (i : Nat) (out : List UInt8), i ≤ s.size ∧ out.length ≤ i ∧ k = s.size - i ∧ σ.T 0 = .str s ∧ σ.T 5 = .int .i64 i ∧ σ.T 4 = .rs 4 0 out.length ∧ σ.H 4 = some ⟨1, 5, out.map bz, 0⟩ ∧ out ++ parseL (s.data.toList.drop i) = parseL s.data.toList
theorem pairB_nat (a b : UInt8) : IntKind.u8.wrap (IntKind.u8.wrap (16 * ((valB a).toNat : Int)) + ((valB b).toNat : Int)) = ((pairB a b).toNat : Int) := by
  unfold pairB
  rw [show (UInt8.ofNat (16 * (valB a).toNat + (valB b).toNat)).toNat = (16 * (valB a).toNat + (valB b).toNat) % 256 from UInt8.toNat_ofNat' ..]
  simp [IntKind.wrap, IntKind.signed, IntKind.bits]
theorem rUnq_ok (s : ByteArray) (hs : s.size ≤ 300000) : AFn Tryd.prog 13 [.str s] (ruqF s) := by
  have hL : s.data.toList.length = s.size := by rw [Array.length_toList]; rfl
  refine fn_rUnq rfl ?_
  simp (maxSteps := 4000000) only [go_sem, ↓reduceIte, reduceCtorEq, Nat.reduceEqDiff, Nat.reduceBEq, Nat.reduceAdd, Nat.reduceSub, Nat.reduceMul, Nat.reduceLT, Nat.reduceLeDiff, Nat.reduceBNe, Int.reduceBEq, Int.reduceBNe, Int.reduceLT, Int.reduceLE]
  refine run_loop (ruInv s) (k := s.size) ⟨0, [], by omega, Nat.le_refl _, by omega, ?_, ?_, ?_, ?_, rfl⟩ ?_
  · simp (maxSteps := 4000000) only [go_sem, ↓reduceIte, reduceCtorEq, Nat.reduceEqDiff, Nat.reduceBEq, Nat.reduceAdd, Nat.reduceSub, Nat.reduceMul, Nat.reduceLT, Nat.reduceLeDiff, Nat.reduceBNe, Int.reduceBEq, Int.reduceBNe, Int.reduceLT, Int.reduceLE]
  · simp (maxSteps := 4000000) only [go_sem, ↓reduceIte, reduceCtorEq, Nat.reduceEqDiff, Nat.reduceBEq, Nat.reduceAdd, Nat.reduceSub, Nat.reduceMul, Nat.reduceLT, Nat.reduceLeDiff, Nat.reduceBNe, Int.reduceBEq, Int.reduceBNe, Int.reduceLT, Int.reduceLE]
    rfl
  · simp (maxSteps := 4000000) only [go_sem, ↓reduceIte, reduceCtorEq, Nat.reduceEqDiff, Nat.reduceBEq, Nat.reduceAdd, Nat.reduceSub, Nat.reduceMul, Nat.reduceLT, Nat.reduceLeDiff, Nat.reduceBNe, Int.reduceBEq, Int.reduceBNe, Int.reduceLT, Int.reduceLE]
  · simp (maxSteps := 4000000) only [go_sem, ↓reduceIte, reduceCtorEq, Nat.reduceEqDiff, Nat.reduceBEq, Nat.reduceAdd, Nat.reduceSub, Nat.reduceMul, Nat.reduceLT, Nat.reduceLeDiff, Nat.reduceBNe, Int.reduceBEq, Int.reduceBNe, Int.reduceLT, Int.reduceLE]
  rintro k σ ⟨i, out, hi, ho, rfl, t0, t5, t4, o4, hr⟩
  simp only [r_rUnq_l9]
  have hto : (out.map bz).take out.length = out.map bz := List.take_of_length_le (by rw [List.length_map]; exact Nat.le_refl _)
  have hw1 : IntKind.i64.wrap ((i : Int) + 1) = ((i + 1 : Nat) : Int) := by rw [IntWalk.i64_in _ (by omega)]; rfl
  have hw2 : IntKind.i64.wrap ((i : Int) + 2) = ((i + 2 : Nat) : Int) := by rw [IntWalk.i64_in _ (by omega)]; rfl
  have hw3 : IntKind.i64.wrap (((i + 2 : Nat) : Int) + 1) = ((i + 3 : Nat) : Int) := by rw [IntWalk.i64_in _ (by omega)]; rfl
  by_cases hlt : i < s.size
  · have hlt' : (i : Int) < (s.size : Int) := by omega
    obtain ⟨c, hc⟩ : ∃ c, s.data.toList[i]? = some c := ⟨_, List.getElem?_eq_getElem (by omega)⟩
    have hg : s.data.toList.getD i 0 = c := by rw [List.getD_eq_getElem?_getD, hc]; rfl
    have one : (c ≠ 37 ∨ ¬ i + 2 < s.size) → out ++ [c] ++ parseL (s.data.toList.drop (i + 1)) = parseL s.data.toList := by
      intro h
      rw [← hr, drop_some hc, parseL_cons, List.append_assoc, List.singleton_append]
      by_cases h37 : c = 37
      · rw [if_pos h37]
        have hl : (s.data.toList.drop (i + 1)).length < 2 := by
          rw [List.length_drop]
          rcases h with h | h
          · exact absurd h37 h
          · omega
        generalize s.data.toList.drop (i + 1) = q at hl
        match q, hl with
        | [], _ => rfl
        | [_], _ => rfl
        | a :: b :: m, h => exact absurd h (by simp)
      · rw [if_neg h37]
    by_cases h37 : c = 37
    · subst h37
      have e37 : (((37 : UInt8).toNat : Int) == 37) = true := rfl
      by_cases h2 : i + 2 < s.size
      · have h2' : ((i + 2 : Nat) : Int) < (s.size : Int) := by omega
        obtain ⟨a, ha⟩ : ∃ a, s.data.toList[i + 1]? = some a := ⟨_, List.getElem?_eq_getElem (by omega)⟩
        obtain ⟨b, hb⟩ : ∃ b, s.data.toList[i + 2]? = some b := ⟨_, List.getElem?_eq_getElem (by omega)⟩
        have hga : s.data.toList.getD (i + 1) 0 = a := by rw [List.getD_eq_getElem?_getD, ha]; rfl
        have hgb : s.data.toList.getD (i + 2) 0 = b := by rw [List.getD_eq_getElem?_getD, hb]; rfl
        have hp := pairB_nat a b
        have two : out ++ [pairB a b] ++ parseL (s.data.toList.drop (i + 3)) = parseL s.data.toList := by
          rw [← hr, drop_some hc, parseL_cons, if_pos rfl, drop_some ha, drop_some hb, List.append_assoc]; rfl
        simp (maxSteps := 4000000) only [go_sem, ↓reduceIte, reduceCtorEq, Nat.reduceEqDiff, Nat.reduceBEq, Nat.reduceAdd, Nat.reduceSub, Nat.reduceMul, Nat.reduceLT, Nat.reduceLeDiff, Nat.reduceBNe, Int.reduceBEq, Int.reduceBNe, Int.reduceLT, Int.reduceLE, t0, t5, t4, o4, hlt', hg, e37, hw2, h2', hw1, hga, Int.toNat_natCast]
        (repeat refine And.intro (by omega) ?_)
        (first | refine calling (rVal_ok a) ?_ | refine callingH (rVal_ok a) ?_)
        simp (maxSteps := 4000000) only [go_sem, ↓reduceIte, reduceCtorEq, Nat.reduceEqDiff, Nat.reduceBEq, Nat.reduceAdd, Nat.reduceSub, Nat.reduceMul, Nat.reduceLT, Nat.reduceLeDiff, Nat.reduceBNe, Int.reduceBEq, Int.reduceBNe, Int.reduceLT, Int.reduceLE, t0, t5, t4, o4, hw2, hgb, Int.toNat_natCast]
        (repeat refine And.intro (by omega) ?_)
        (first | refine calling (rVal_ok b) ?_ | refine callingH (rVal_ok b) ?_)
        simp (maxSteps := 4000000) only [go_sem, ↓reduceIte, reduceCtorEq, Nat.reduceEqDiff, Nat.reduceBEq, Nat.reduceAdd, Nat.reduceSub, Nat.reduceMul, Nat.reduceLT, Nat.reduceLeDiff, Nat.reduceBNe, Int.reduceBEq, Int.reduceBNe, Int.reduceLT, Int.reduceLE, t0, t5, t4, o4, hp, hw2, hw3, Int.toNat_natCast, List.length_map]
        refine ⟨⟨⟨by omega, by omega⟩, fun d hd => by rcases hd with rfl | hd; exact ⟨rfl, rfl⟩; cases hd⟩, s.size - (i + 3), by omega, i + 3, out ++ [pairB a b], by omega, by rw [List.length_append]; simp; omega, rfl, ?_, ?_, ?_, ?_, two⟩ <;>
          (simp (maxSteps := 4000000) only [go_sem, ↓reduceIte, reduceCtorEq, Nat.reduceEqDiff, Nat.reduceBEq, Nat.reduceAdd, Nat.reduceSub, Nat.reduceMul, Nat.reduceLT, Nat.reduceLeDiff, Nat.reduceBNe, Int.reduceBEq, Int.reduceBNe, Int.reduceLT, Int.reduceLE, t0, t5, t4, o4, hto, List.length_append, List.map_append])
      · have h2' : ¬ ((i + 2 : Nat) : Int) < (s.size : Int) := by omega
        simp (maxSteps := 4000000) only [go_sem, ↓reduceIte, reduceCtorEq, Nat.reduceEqDiff, Nat.reduceBEq, Nat.reduceAdd, Nat.reduceSub, Nat.reduceMul, Nat.reduceLT, Nat.reduceLeDiff, Nat.reduceBNe, Int.reduceBEq, Int.reduceBNe, Int.reduceLT, Int.reduceLE, t0, t5, t4, o4, hlt', hg, e37, hw2, h2', hw1, Int.toNat_natCast]
        (repeat refine And.intro (by omega) ?_)
        refine ⟨⟨⟨by omega, by omega⟩, fun d hd => by rcases hd with rfl | hd; exact ⟨rfl, rfl⟩; cases hd⟩, s.size - (i + 1), by omega, i + 1, out ++ [37], by omega, by rw [List.length_append]; simp; omega, rfl, ?_, ?_, ?_, ?_, one (.inr h2)⟩ <;>
          (simp (maxSteps := 4000000) only [go_sem, ↓reduceIte, reduceCtorEq, Nat.reduceEqDiff, Nat.reduceBEq, Nat.reduceAdd, Nat.reduceSub, Nat.reduceMul, Nat.reduceLT, Nat.reduceLeDiff, Nat.reduceBNe, Int.reduceBEq, Int.reduceBNe, Int.reduceLT, Int.reduceLE, t0, t5, t4, o4, hto, List.length_append, List.map_append])
    · have e37 : (((c.toNat : Nat) : Int) == 37) = false := by
        rw [beq_eq_false_iff_ne]
        intro e
        exact h37 (UInt8.toNat.inj (by rw [show (37 : UInt8).toNat = 37 from rfl]; omega))
      simp (maxSteps := 4000000) only [go_sem, ↓reduceIte, reduceCtorEq, Nat.reduceEqDiff, Nat.reduceBEq, Nat.reduceAdd, Nat.reduceSub, Nat.reduceMul, Nat.reduceLT, Nat.reduceLeDiff, Nat.reduceBNe, Int.reduceBEq, Int.reduceBNe, Int.reduceLT, Int.reduceLE, t0, t5, t4, o4, hlt', hg, e37, hw1, Int.toNat_natCast]
      (repeat refine And.intro (by omega) ?_)
      refine ⟨⟨⟨by omega, by omega⟩, fun d hd => by rcases hd with rfl | hd; exact ⟨rfl, rfl⟩; cases hd⟩, s.size - (i + 1), by omega, i + 1, out ++ [c], by omega, by rw [List.length_append]; simp; omega, rfl, ?_, ?_, ?_, ?_, one (.inl h37)⟩ <;>
        (simp (maxSteps := 4000000) only [go_sem, ↓reduceIte, reduceCtorEq, Nat.reduceEqDiff, Nat.reduceBEq, Nat.reduceAdd, Nat.reduceSub, Nat.reduceMul, Nat.reduceLT, Nat.reduceLeDiff, Nat.reduceBNe, Int.reduceBEq, Int.reduceBNe, Int.reduceLT, Int.reduceLE, t0, t5, t4, o4, hto, List.length_append, List.map_append])
  · have hlt' : ¬ (i : Int) < (s.size : Int) := by omega
    rw [List.drop_eq_nil_of_le (by omega)] at hr
    have hr : out = parseL s.data.toList := by rw [← hr]; simp [parseL]
    have he : (s.toList == (ByteArray.mk #[45]).toList) = decide (s.data.toList = [45]) := by
      rw [ByteArray.toList_eq, ByteArray.toList_eq]
      exact Bool.eq_iff_iff.2 (by rw [beq_iff_eq, decide_eq_true_eq])
    by_cases h45 : s.data.toList = [45]
    · have he : (s.toList == (ByteArray.mk #[45]).toList) = true := by rw [he]; exact decide_eq_true h45
      have hs45 : s = ⟨#[45]⟩ := ba_ext h45
      have hans : ruqF s = .tup [.str ⟨#[]⟩, .bool true] := by rw [hs45]; rfl
      rw [hans]
      simp (maxSteps := 4000000) only [go_sem, ↓reduceIte, reduceCtorEq, Nat.reduceEqDiff, Nat.reduceBEq, Nat.reduceAdd, Nat.reduceSub, Nat.reduceMul, Nat.reduceLT, Nat.reduceLeDiff, Nat.reduceBNe, Int.reduceBEq, Int.reduceBNe, Int.reduceLT, Int.reduceLE, t0, t5, t4, o4, hlt', he]
      (first | refine calling (rQuote_ok ⟨#[]⟩ (by decide)) ?_ | refine callingH (rQuote_ok ⟨#[]⟩ (by decide)) ?_)
      have hq : ((quoteF ⟨#[]⟩).toList == s.toList) = true := by rw [hs45]; decide +kernel
      simp (maxSteps := 4000000) only [go_sem, ↓reduceIte, reduceCtorEq, Nat.reduceEqDiff, Nat.reduceBEq, Nat.reduceAdd, Nat.reduceSub, Nat.reduceMul, Nat.reduceLT, Nat.reduceLeDiff, Nat.reduceBNe, Int.reduceBEq, Int.reduceBNe, Int.reduceLT, Int.reduceLE, t0, t5, t4, o4, hlt', he, hq]
    · have he : (s.toList == (ByteArray.mk #[45]).toList) = false := by rw [he]; exact decide_eq_false h45
      have hans : ruqF s = if quoteF ⟨out.toArray⟩ = s then .tup [.str ⟨out.toArray⟩, .bool true] else .tup [.str ⟨#[]⟩, .bool false] := by
        unfold ruqF; rw [if_neg h45, ← hr]
      rw [hans]
      simp (maxSteps := 4000000) only [go_sem, ↓reduceIte, reduceCtorEq, Nat.reduceEqDiff, Nat.reduceBEq, Nat.reduceAdd, Nat.reduceSub, Nat.reduceMul, Nat.reduceLT, Nat.reduceLeDiff, Nat.reduceBNe, Int.reduceBEq, Int.reduceBNe, Int.reduceLT, Int.reduceLE, t0, t5, t4, o4, hlt', he, hto, bz_all, bz_back, List.length_map]
      (first | refine calling (rQuote_ok ⟨out.toArray⟩ (by show out.length ≤ _; omega)) ?_ | refine callingH (rQuote_ok ⟨out.toArray⟩ (by show out.length ≤ _; omega)) ?_)
      by_cases hq : quoteF ⟨out.toArray⟩ = s
      · rw [if_pos hq]
        have hq : ((quoteF ⟨out.toArray⟩).toList == s.toList) = true := by rw [hq]; simp
        simp (maxSteps := 4000000) only [go_sem, ↓reduceIte, reduceCtorEq, Nat.reduceEqDiff, Nat.reduceBEq, Nat.reduceAdd, Nat.reduceSub, Nat.reduceMul, Nat.reduceLT, Nat.reduceLeDiff, Nat.reduceBNe, Int.reduceBEq, Int.reduceBNe, Int.reduceLT, Int.reduceLE, t0, t5, t4, o4, hlt', he, hto, bz_all, bz_back, hq, List.length_map]
      · rw [if_neg hq]
        have hq : ((quoteF ⟨out.toArray⟩).toList == s.toList) = false := by
          rw [beq_eq_false_iff_ne]
          intro e
          rw [ByteArray.toList_eq, ByteArray.toList_eq] at e
          exact hq (ba_ext e)
        simp (maxSteps := 4000000) only [go_sem, ↓reduceIte, reduceCtorEq, Nat.reduceEqDiff, Nat.reduceBEq, Nat.reduceAdd, Nat.reduceSub, Nat.reduceMul, Nat.reduceLT, Nat.reduceLeDiff, Nat.reduceBNe, Int.reduceBEq, Int.reduceBNe, Int.reduceLT, Int.reduceLE, t0, t5, t4, o4, hlt', he, hto, bz_all, bz_back, hq, List.length_map]
theorem quotes_law (s w : ByteArray) (hs : s.size ≤ 281474976710656) (hw : w.size ≤ 281474976710656) : AFn Tryd.prog 3 [.str s, .str w] (.bool true) := by
  refine fn_quotes rfl ?_
  by_cases h1 : (1000 : Int) < s.size
  · simp (maxSteps := 4000000) only [go_sem, ↓reduceIte, reduceCtorEq, Nat.reduceEqDiff, Nat.reduceBEq, Nat.reduceAdd, Nat.reduceSub, Nat.reduceMul, Nat.reduceLT, Nat.reduceLeDiff, Nat.reduceBNe, Int.reduceBEq, Int.reduceBNe, Int.reduceLT, Int.reduceLE, h1]
    (first | refine calling awake_ok ?_ | refine callingH awake_ok ?_)
    simp (maxSteps := 4000000) only [go_sem, ↓reduceIte, reduceCtorEq, Nat.reduceEqDiff, Nat.reduceBEq, Nat.reduceAdd, Nat.reduceSub, Nat.reduceMul, Nat.reduceLT, Nat.reduceLeDiff, Nat.reduceBNe, Int.reduceBEq, Int.reduceBNe, Int.reduceLT, Int.reduceLE, h1]
  by_cases h2 : (1000 : Int) < w.size
  · simp (maxSteps := 4000000) only [go_sem, ↓reduceIte, reduceCtorEq, Nat.reduceEqDiff, Nat.reduceBEq, Nat.reduceAdd, Nat.reduceSub, Nat.reduceMul, Nat.reduceLT, Nat.reduceLeDiff, Nat.reduceBNe, Int.reduceBEq, Int.reduceBNe, Int.reduceLT, Int.reduceLE, h1, h2]
    (first | refine calling awake_ok ?_ | refine callingH awake_ok ?_)
    simp (maxSteps := 4000000) only [go_sem, ↓reduceIte, reduceCtorEq, Nat.reduceEqDiff, Nat.reduceBEq, Nat.reduceAdd, Nat.reduceSub, Nat.reduceMul, Nat.reduceLT, Nat.reduceLeDiff, Nat.reduceBNe, Int.reduceBEq, Int.reduceBNe, Int.reduceLT, Int.reduceLE, h1, h2]
  have hql : (quoteF s).size ≤ 3000 + 1 := by
    have h := congrArg List.length (quoteF_list s)
    have hL : s.data.toList.length = s.size := by rw [Array.length_toList]; rfl
    have e : (quoteF s).data.toList.length = (quoteF s).size := by rw [Array.length_toList]; rfl
    have := quoteL_len s.data.toList
    rw [e] at h
    rw [h]
    split
    · simp
    · omega
  simp (maxSteps := 4000000) only [go_sem, ↓reduceIte, reduceCtorEq, Nat.reduceEqDiff, Nat.reduceBEq, Nat.reduceAdd, Nat.reduceSub, Nat.reduceMul, Nat.reduceLT, Nat.reduceLeDiff, Nat.reduceBNe, Int.reduceBEq, Int.reduceBNe, Int.reduceLT, Int.reduceLE, h1, h2]
  (first | refine calling (quote_ok s (by omega)) ?_ | refine callingH (quote_ok s (by omega)) ?_)
  simp (maxSteps := 4000000) only [go_sem, ↓reduceIte, reduceCtorEq, Nat.reduceEqDiff, Nat.reduceBEq, Nat.reduceAdd, Nat.reduceSub, Nat.reduceMul, Nat.reduceLT, Nat.reduceLeDiff, Nat.reduceBNe, Int.reduceBEq, Int.reduceBNe, Int.reduceLT, Int.reduceLE, h1, h2]
  (first | refine calling (unq_ok (quoteF s) (by omega)) ?_ | refine callingH (unq_ok (quoteF s) (by omega)) ?_)
  rw [uqF_quote]
  simp (maxSteps := 4000000) only [go_sem, ↓reduceIte, reduceCtorEq, Nat.reduceEqDiff, Nat.reduceBEq, Nat.reduceAdd, Nat.reduceSub, Nat.reduceMul, Nat.reduceLT, Nat.reduceLeDiff, Nat.reduceBNe, Int.reduceBEq, Int.reduceBNe, Int.reduceLT, Int.reduceLE, h1, h2]
  (first | refine calling (unq_ok w (by omega)) ?_ | refine callingH (unq_ok w (by omega)) ?_)
  obtain ⟨t, b, hu⟩ : ∃ t b, ruqF w = .tup [.str t, .bool b] := by
    have key : ∀ l : List UInt8, ∃ t b, (if quoteF ⟨l.toArray⟩ = w then AV.tup [.str ⟨l.toArray⟩, .bool true] else AV.tup [.str ⟨#[]⟩, .bool false]) = .tup [.str t, .bool b] := by
      intro l
      split
      · exact ⟨_, _, rfl⟩
      · exact ⟨_, _, rfl⟩
    exact key _
  rw [uqF_eq, hu]
  simp (maxSteps := 4000000) only [go_sem, ↓reduceIte, reduceCtorEq, Nat.reduceEqDiff, Nat.reduceBEq, Nat.reduceAdd, Nat.reduceSub, Nat.reduceMul, Nat.reduceLT, Nat.reduceLeDiff, Nat.reduceBNe, Int.reduceBEq, Int.reduceBNe, Int.reduceLT, Int.reduceLE, h1, h2]
  (first | refine calling (rUnq_ok w (by omega)) ?_ | refine callingH (rUnq_ok w (by omega)) ?_)
  rw [hu]
  simp (maxSteps := 4000000) only [go_sem, ↓reduceIte, reduceCtorEq, Nat.reduceEqDiff, Nat.reduceBEq, Nat.reduceAdd, Nat.reduceSub, Nat.reduceMul, Nat.reduceLT, Nat.reduceLeDiff, Nat.reduceBNe, Int.reduceBEq, Int.reduceBNe, Int.reduceLT, Int.reduceLE, h1, h2]
  (first | refine calling (rQuote_ok s (by omega)) ?_ | refine callingH (rQuote_ok s (by omega)) ?_)
  simp (maxSteps := 4000000) only [go_sem, ↓reduceIte, reduceCtorEq, Nat.reduceEqDiff, Nat.reduceBEq, Nat.reduceAdd, Nat.reduceSub, Nat.reduceMul, Nat.reduceLT, Nat.reduceLeDiff, Nat.reduceBNe, Int.reduceBEq, Int.reduceBNe, Int.reduceLT, Int.reduceLE, h1, h2, beq_self_eq_true]
  (first | refine calling awake_ok ?_ | refine callingH awake_ok ?_)
  simp (maxSteps := 4000000) only [go_sem, ↓reduceIte, reduceCtorEq, Nat.reduceEqDiff, Nat.reduceBEq, Nat.reduceAdd, Nat.reduceSub, Nat.reduceMul, Nat.reduceLT, Nat.reduceLeDiff, Nat.reduceBNe, Int.reduceBEq, Int.reduceBNe, Int.reduceLT, Int.reduceLE, h1, h2]
theorem quotes_walk (a b : ByteArray) (w : World) (hG : Glob w) (h1 : a.size ≤ 281474976710656) (h2 : b.size ≤ 281474976710656) : Calls Tryd.prog 3 #[.string a, .string b] w fun e w' => e = .returned (.bool true) ∧ Below w.heap.size w w' :=
  run_args (vs := [.string a, .string b]) hG rfl (vr_strs [a, b]) (quotes_law a b h1 h2)
end Go.Proofs.YtgpoglaojklfbaaDoor
