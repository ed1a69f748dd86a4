/-
  Traces: what the document says of lines, walked.
-/
import Derived.Test.YtkdbphhekpdmhaaDoorTrD
import Derived.Test.YtkdbphhekpdmhaaDoorPkH
namespace Go.Proofs.YtkdbphhekpdmhaaDoor
open Go.RowKit
set_option linter.unusedVariables false
set_option linter.unusedSimpArgs false
set_option maxRecDepth 100000
attribute [local go_sem ↓] runOp headOp
attribute [local go_sem] ev0 ev1 ev2 ev3 ev4 evA stHOk.eq_1 stHOk.eq_2 stHSt.eq_1 stHSt.eq_2 okV valV fzV okF valF okBld valBld mxOk.eq_1 mxOk.eq_2 mxVal.eq_1 mxVal.eq_2 cellFit.eq_1 cellFit.eq_2 cellFit.eq_3 cellEq.eq_1 cellEq.eq_2 cellEq.eq_3 upd_at AV.flatB AV.flatBs binIok binIV binSok binSV cellsOk.eq_1 cellsOk.eq_2 cellsVal.eq_1 cellsVal.eq_2 objCells.eq_1 objCells.eq_2 objZ.eq_1 objZ.eq_2 objProt.eq_1 objProt.eq_2 oneObj ptrOk.eq_1 ptrOk.eq_2 ptrOk.eq_3 ptrCells.eq_1 ptrCells.eq_2 ptrCells.eq_3 lenOk.eq_1 lenOk.eq_2 lenOk.eq_3 lenOk.eq_4 lenVal.eq_1 lenVal.eq_2 lenVal.eq_3 lenVal.eq_4 faOk.eq_1 faOk.eq_2 faOk.eq_3 faVal.eq_1 faVal.eq_2 faVal.eq_3 iaOk.eq_1 iaOk.eq_2 iaOk.eq_3 iaVal.eq_1 iaVal.eq_2 iaVal.eq_3 slcLen.eq_1 slcLen.eq_2 slcLen.eq_3 slcLen.eq_4 bdOk.eq_1 bdOk.eq_2 bdVal.eq_1 bdVal.eq_2 slcOk.eq_1 slcOk.eq_2 slcOk.eq_3 slcOk.eq_4 slcVal.eq_1 slcVal.eq_2 slcVal.eq_3 slcVal.eq_4 slcFz.eq_1 slcFz.eq_2 byOk.eq_1 byOk.eq_2 byOk.eq_3 byOk.eq_4 byOk.eq_5 byOk.eq_6 byOk.eq_7 byVal.eq_1 byVal.eq_2 byVal.eq_3 byFz.eq_1 byFz.eq_2 byFz.eq_3 byOks byVals byFzs allOne resSt.eq_1 resSt.eq_2 resName.eq_1 resName.eq_2 stOk.eq_1 stOk.eq_2 stArr.eq_1 stArr.eq_2 stSt.eq_1 stSt.eq_2 AV.patch nameOk_none gB.eq_1 gB.eq_2 gB.eq_3 gIs.eq_1 gIs.eq_2 gIs.eq_3 retV resV resVs evalV cellsV St.byval List.getD_cons_zero List.getD_cons_succ List.getD_nil List.map_cons List.map_nil List.length_cons List.length_nil List.take_succ_cons List.take_zero List.drop_succ_cons List.drop_zero List.headD_cons List.set_cons_zero List.append_nil List.nil_append List.cons_append List.contains_cons List.contains_nil List.elem_cons List.elem_nil List.all_cons List.all_nil List.getElem?_cons_zero List.getElem?_cons_succ List.filterMap_cons List.filterMap_nil Option.isSome_some Option.isSome_none Option.map_some Option.map_none Option.some.injEq AV.int.injEq AV.bool.injEq AV.str.injEq AV.tup.injEq AV.agg.injEq AV.sl.injEq List.cons.injEq Bool.false_eq_true Bool.true_eq_false Bool.not_true Bool.not_false Bool.and_true Bool.true_and Bool.or_false Bool.or_true Bool.false_or Bool.true_or Bool.or_self Bool.and_self Bool.not_eq_true' Bool.not_eq_false' Bool.not_not beq_self_eq_true true_and and_true false_and and_false and_self not_true_eq_false not_false_eq_true forall_const true_implies false_implies implies_true imp_self Nat.lt_add_one Nat.le_refl Nat.zero_le Nat.add_zero Nat.zero_add decide_true decide_false decide_eq_true_eq decide_eq_false_iff_not exists_eq_left exists_eq_left' ge_iff_le gt_iff_lt ite_branch ite_branch' nilOk.eq_1 nilOk.eq_2 nilMay.eq_1 nilMay.eq_2 AV.isSl.eq_1 objTy'.eq_1 objTy'.eq_2 apSt.eq_1 apArr.eq_1 apArr.eq_2 slOf.eq_1 fitsV List.mem_cons List.not_mem_nil Bool.false_and Bool.and_false primOk.eq_1 primOk.eq_2 primOk.eq_3 primOk.eq_4 primOk.eq_5 primVal.eq_1 primVal.eq_2 primVal.eq_3 primVal.eq_4 primVal.eq_5 mOk.eq_1 mOk.eq_2 mVal.eq_1 mVal.eq_2 mFz.eq_1 mFz.eq_2 mOks mVals mFzs mCalOk.eq_1 mCalOk.eq_2 mFn.eq_1 mFn.eq_2 mArgs.eq_1 mArgs.eq_2 ckOk.eq_1 ckOk.eq_2 cloOk.eq_1 ptrAt.eq_1 sh.eq_1 sh.eq_2 sh.eq_3 sh.eq_4 sh.eq_5 retM shH_small
/-! ### percolate/percolateref46.Pairs -/
def r_r46Pairs_0 : Reg := ⟨[], [⟨(.mv (.c (.str ⟨#[]⟩))), (some 2), none, [], []⟩], [], [], false⟩
def r_r46Pairs_1 : Reg := ⟨[], [⟨(.mv (.t 0)), (some 5), none, [7], []⟩, ⟨(.len false (.t 5)), (some 6), none, [7], []⟩, ⟨(.callv (.c (.clo 42 [] [])) [(.t 6)]), (some 7), none, [], []⟩, ⟨(.mv (.t 7)), (some 3), none, [], []⟩], [7], [], false⟩
def r_r46Pairs_2 : Reg := ⟨[], [⟨(.mv (.c (.int .i64 0))), (some 4), none, [], []⟩], [], [], false⟩
def r_r46Pairs_3 : Reg := ⟨[], [⟨(.mv (.t 4)), (some 8), none, [], []⟩, ⟨(.mv (.t 0)), (some 9), none, [], []⟩, ⟨(.len false (.t 9)), (some 10), none, [], []⟩, ⟨(.bin .lss (.t 8) (.t 10)), (some 11), none, [], []⟩], [], [], false⟩
def r_r46Pairs_4 : Reg := ⟨[⟨(.mv (.t 3)), (some 14), none, [20, 28], []⟩, ⟨(.mv (.t 0)), (some 15), none, [20, 28], []⟩, ⟨(.mv (.t 4)), (some 16), none, [20, 28], []⟩, ⟨(.iaddr 2 (.t 15) (.t 16)), (some 17), none, [20, 28], []⟩, ⟨(.faddr 0 (.t 17)), (some 18), none, [20, 28], []⟩, ⟨(.load 1 false (.t 18)), (some 19), none, [20, 28], []⟩, ⟨(.callv (.c (.clo 43 [] [])) [(.t 19)]), (some 20), none, [28], []⟩, ⟨(.bin .add (.c (.str ⟨#[32]⟩)) (.t 20)), (some 21), none, [28], []⟩, ⟨(.bin .add (.t 21) (.c (.str ⟨#[61]⟩))), (some 22), none, [28], []⟩, ⟨(.mv (.t 0)), (some 23), none, [20, 28], []⟩, ⟨(.mv (.t 4)), (some 24), none, [20, 28], []⟩, ⟨(.iaddr 2 (.t 23) (.t 24)), (some 25), none, [20, 28], []⟩, ⟨(.faddr 1 (.t 25)), (some 26), none, [20, 28], []⟩, ⟨(.load 1 false (.t 26)), (some 27), none, [20, 28], []⟩, ⟨(.callv (.c (.clo 43 [] [])) [(.t 27)]), (some 28), none, [], []⟩, ⟨(.bin .add (.t 22) (.t 28)), (some 29), none, [], []⟩], [⟨(.bin .add (.t 14) (.t 29)), (some 30), none, [], []⟩, ⟨(.mv (.t 30)), (some 3), none, [], []⟩], [20, 28], [], true⟩
def r_r46Pairs_5 : Reg := ⟨[], [⟨(.mv (.t 4)), (some 12), none, [], []⟩, ⟨(.bin .add (.t 12) (.c (.int .i64 1))), (some 13), none, [], []⟩, ⟨(.mv (.t 13)), (some 4), none, [], []⟩], [], [], false⟩
def r_r46Pairs_l6 : IR := (.seq (.seq (.reg r_r46Pairs_3)
  (.cond (.t 11) .skip
  (.exit 0)))
  (.seq (.block 1 (.reg r_r46Pairs_4))
  (.reg r_r46Pairs_5)))
def r_r46Pairs_7 : Reg := ⟨[], [⟨(.mv (.t 3)), (some 31), none, [], []⟩, ⟨(.mv (.t 31)), (some 2), none, [], []⟩], [], [], false⟩
def ir_r46Pairs : IR := (.seq (.reg r_r46Pairs_0)
  (.seq (.reg r_r46Pairs_1)
  (.seq (.seq (.reg r_r46Pairs_2)
  (.block 0 (.loop r_r46Pairs_l6)))
  (.seq (.reg r_r46Pairs_7)
  .ret))))
def res_r46Pairs : List RDesc := [(.tmp 2)]
theorem e_r46Pairs_0 (C : FuncId → List AV → AV → Prop) (σ : St) (K : St → Prop) : runReg C r_r46Pairs_0 σ K = runOps C [⟨(.mv (.c (.str ⟨#[]⟩))), (some 2), none, [], []⟩] (σ.kills []) K := rfl
theorem e_r46Pairs_1 (C : FuncId → List AV → AV → Prop) (σ : St) (K : St → Prop) : runReg C r_r46Pairs_1 σ K = runOps C [⟨(.mv (.t 0)), (some 5), none, [7], []⟩, ⟨(.len false (.t 5)), (some 6), none, [7], []⟩, ⟨(.callv (.c (.clo 42 [] [])) [(.t 6)]), (some 7), none, [], []⟩, ⟨(.mv (.t 7)), (some 3), none, [], []⟩] (σ.kills [7]) K := rfl
theorem e_r46Pairs_2 (C : FuncId → List AV → AV → Prop) (σ : St) (K : St → Prop) : runReg C r_r46Pairs_2 σ K = runOps C [⟨(.mv (.c (.int .i64 0))), (some 4), none, [], []⟩] (σ.kills []) K := rfl
theorem e_r46Pairs_3 (C : FuncId → List AV → AV → Prop) (σ : St) (K : St → Prop) : runReg C r_r46Pairs_3 σ K = runOps C [⟨(.mv (.t 4)), (some 8), none, [], []⟩, ⟨(.mv (.t 0)), (some 9), none, [], []⟩, ⟨(.len false (.t 9)), (some 10), none, [], []⟩, ⟨(.bin .lss (.t 8) (.t 10)), (some 11), none, [], []⟩] (σ.kills []) K := rfl
theorem e_r46Pairs_4 (C : FuncId → List AV → AV → Prop) (σ : St) (K : St → Prop) : runReg C r_r46Pairs_4 σ K = runHead C [] [⟨(.bin .add (.t 14) (.t 29)), (some 30), none, [], []⟩, ⟨(.mv (.t 30)), (some 3), none, [], []⟩] [⟨(.mv (.t 3)), (some 14), none, [20, 28], []⟩, ⟨(.mv (.t 0)), (some 15), none, [20, 28], []⟩, ⟨(.mv (.t 4)), (some 16), none, [20, 28], []⟩, ⟨(.iaddr 2 (.t 15) (.t 16)), (some 17), none, [20, 28], []⟩, ⟨(.faddr 0 (.t 17)), (some 18), none, [20, 28], []⟩, ⟨(.load 1 false (.t 18)), (some 19), none, [20, 28], []⟩, ⟨(.callv (.c (.clo 43 [] [])) [(.t 19)]), (some 20), none, [28], []⟩, ⟨(.bin .add (.c (.str ⟨#[32]⟩)) (.t 20)), (some 21), none, [28], []⟩, ⟨(.bin .add (.t 21) (.c (.str ⟨#[61]⟩))), (some 22), none, [28], []⟩, ⟨(.mv (.t 0)), (some 23), none, [20, 28], []⟩, ⟨(.mv (.t 4)), (some 24), none, [20, 28], []⟩, ⟨(.iaddr 2 (.t 23) (.t 24)), (some 25), none, [20, 28], []⟩, ⟨(.faddr 1 (.t 25)), (some 26), none, [20, 28], []⟩, ⟨(.load 1 false (.t 26)), (some 27), none, [20, 28], []⟩, ⟨(.callv (.c (.clo 43 [] [])) [(.t 27)]), (some 28), none, [], []⟩, ⟨(.bin .add (.t 22) (.t 28)), (some 29), none, [], []⟩] (σ.kills [20, 28]) K := rfl
theorem e_r46Pairs_5 (C : FuncId → List AV → AV → Prop) (σ : St) (K : St → Prop) : runReg C r_r46Pairs_5 σ K = runOps C [⟨(.mv (.t 4)), (some 12), none, [], []⟩, ⟨(.bin .add (.t 12) (.c (.int .i64 1))), (some 13), none, [], []⟩, ⟨(.mv (.t 13)), (some 4), none, [], []⟩] (σ.kills []) K := rfl
theorem e_r46Pairs_7 (C : FuncId → List AV → AV → Prop) (σ : St) (K : St → Prop) : runReg C r_r46Pairs_7 σ K = runOps C [⟨(.mv (.t 3)), (some 31), none, [], []⟩, ⟨(.mv (.t 31)), (some 2), none, [], []⟩] (σ.kills []) K := rfl
theorem fn_r46Pairs {args : List AV} {r : AV} (ha : args.length.ble Tryd.f39.ntmps = true) (h : run (AFn Tryd.prog) ir_r46Pairs (endQ res_r46Pairs r) (initSt args)) : AFn Tryd.prog 39 args r :=
  AFn.of_code (hint := fun _ => []) (c := Tryd.f39.body.getD .skip) (by kernel_rfl) (by kernel_rfl) Tryd.func39 (by kernel_rfl) (by kernel_rfl) (by kernel_rfl) (of_decide_eq_true (by kernel_rfl)) (Nat.le_of_ble_eq_true ha) (Nat.le_of_ble_eq_true (by kernel_rfl)) (run_ok h)

/-! ### percolate/percolateref46.Message -/
def r_r46Msg_0 : Reg := ⟨[], [⟨(.box 6 65 (.t 0)), (some 1), none, [], []⟩, ⟨(.mv (.c (.str ⟨#[]⟩))), (some 2), none, [], []⟩], [1], [], false⟩
def r_r46Msg_1 : Reg := ⟨[], [⟨(.faddr 0 (.t 1)), (some 4), none, [6], []⟩, ⟨(.load 1 false (.t 4)), (some 5), none, [6], []⟩, ⟨(.callv (.c (.clo 42 [] [])) [(.t 5)]), (some 6), none, [], []⟩, ⟨(.mv (.t 6)), (some 3), none, [], []⟩], [6], [], false⟩
def r_r46Msg_2 : Reg := ⟨[], [⟨(.faddr 1 (.t 1)), (some 7), none, [], []⟩, ⟨(.load 1 false (.t 7)), (some 8), none, [], []⟩], [], [], false⟩
def r_r46Msg_3 : Reg := ⟨[], [⟨(.bin .eql (.t 8) (.c (.int .i64 1))), (some 10), none, [], []⟩, ⟨(.mv (.t 10)), (some 9), none, [], []⟩], [], [], false⟩
def r_r46Msg_4 : Reg := ⟨[⟨(.mv (.t 3)), (some 11), none, [15, 20], []⟩, ⟨(.bin .add (.t 11) (.c (.str ⟨#[32, 112, 117, 116, 32]⟩))), (some 12), none, [15, 20], []⟩, ⟨(.faddr 2 (.t 1)), (some 13), none, [15, 20], []⟩, ⟨(.load 1 false (.t 13)), (some 14), none, [15, 20], []⟩, ⟨(.callv (.c (.clo 43 [] [])) [(.t 14)]), (some 15), none, [20], []⟩, ⟨(.bin .add (.t 12) (.t 15)), (some 16), none, [20], []⟩, ⟨(.bin .add (.t 16) (.c (.str ⟨#[32]⟩))), (some 17), none, [20], []⟩, ⟨(.faddr 5 (.t 1)), (some 18), none, [15, 20], []⟩, ⟨(.load 1 false (.t 18)), (some 19), none, [15, 20], []⟩, ⟨(.callv (.c (.clo 43 [] [])) [(.t 19)]), (some 20), none, [], []⟩], [⟨(.bin .add (.t 17) (.t 20)), (some 21), none, [], []⟩, ⟨(.mv (.t 21)), (some 2), none, [], []⟩], [15, 20], [], true⟩
def r_r46Msg_5 : Reg := ⟨[], [⟨(.bin .eql (.t 8) (.c (.int .i64 2))), (some 23), none, [], []⟩, ⟨(.mv (.t 23)), (some 22), none, [], []⟩], [], [], false⟩
def r_r46Msg_6 : Reg := ⟨[⟨(.mv (.t 3)), (some 24), none, [28, 33], []⟩, ⟨(.bin .add (.t 24) (.c (.str ⟨#[32, 97, 100, 100, 32]⟩))), (some 25), none, [28, 33], []⟩, ⟨(.faddr 2 (.t 1)), (some 26), none, [28, 33], []⟩, ⟨(.load 1 false (.t 26)), (some 27), none, [28, 33], []⟩, ⟨(.callv (.c (.clo 43 [] [])) [(.t 27)]), (some 28), none, [33], []⟩, ⟨(.bin .add (.t 25) (.t 28)), (some 29), none, [33], []⟩, ⟨(.bin .add (.t 29) (.c (.str ⟨#[32]⟩))), (some 30), none, [33], []⟩, ⟨(.faddr 5 (.t 1)), (some 31), none, [28, 33], []⟩, ⟨(.load 1 false (.t 31)), (some 32), none, [28, 33], []⟩, ⟨(.callv (.c (.clo 43 [] [])) [(.t 32)]), (some 33), none, [], []⟩], [⟨(.bin .add (.t 30) (.t 33)), (some 34), none, [], []⟩, ⟨(.mv (.t 34)), (some 2), none, [], []⟩], [28, 33], [], true⟩
def r_r46Msg_7 : Reg := ⟨[], [⟨(.bin .eql (.t 8) (.c (.int .i64 3))), (some 36), none, [], []⟩, ⟨(.mv (.t 36)), (some 35), none, [], []⟩], [], [], false⟩
def r_r46Msg_8 : Reg := ⟨[], [⟨(.mv (.t 3)), (some 37), none, [41], []⟩, ⟨(.bin .add (.t 37) (.c (.str ⟨#[32, 100, 101, 108, 32]⟩))), (some 38), none, [41], []⟩, ⟨(.faddr 2 (.t 1)), (some 39), none, [41], []⟩, ⟨(.load 1 false (.t 39)), (some 40), none, [41], []⟩, ⟨(.callv (.c (.clo 43 [] [])) [(.t 40)]), (some 41), none, [], []⟩, ⟨(.bin .add (.t 38) (.t 41)), (some 42), none, [], []⟩, ⟨(.mv (.t 42)), (some 2), none, [], []⟩], [41], [], false⟩
def r_r46Msg_9 : Reg := ⟨[], [⟨(.bin .eql (.t 8) (.c (.int .i64 4))), (some 44), none, [], []⟩, ⟨(.mv (.t 44)), (some 43), none, [], []⟩], [], [], false⟩
def r_r46Msg_10 : Reg := ⟨[], [⟨(.faddr 4 (.t 1)), (some 45), none, [], []⟩, ⟨(.load 1 false (.t 45)), (some 46), none, [], []⟩], [], [], false⟩
def r_r46Msg_11 : Reg := ⟨[], [⟨(.mv (.t 3)), (some 47), none, [51], []⟩, ⟨(.bin .add (.t 47) (.c (.str ⟨#[32, 119, 105, 112, 101, 32]⟩))), (some 48), none, [51], []⟩, ⟨(.faddr 2 (.t 1)), (some 49), none, [51], []⟩, ⟨(.load 1 false (.t 49)), (some 50), none, [51], []⟩, ⟨(.callv (.c (.clo 43 [] [])) [(.t 50)]), (some 51), none, [], []⟩, ⟨(.bin .add (.t 48) (.t 51)), (some 52), none, [], []⟩, ⟨(.bin .add (.t 52) (.c (.str ⟨#[32, 42]⟩))), (some 53), none, [], []⟩, ⟨(.mv (.t 53)), (some 2), none, [], []⟩], [51], [], false⟩
def r_r46Msg_12 : Reg := ⟨[⟨(.mv (.t 3)), (some 54), none, [58, 63], []⟩, ⟨(.bin .add (.t 54) (.c (.str ⟨#[32, 119, 105, 112, 101, 32]⟩))), (some 55), none, [58, 63], []⟩, ⟨(.faddr 2 (.t 1)), (some 56), none, [58, 63], []⟩, ⟨(.load 1 false (.t 56)), (some 57), none, [58, 63], []⟩, ⟨(.callv (.c (.clo 43 [] [])) [(.t 57)]), (some 58), none, [63], []⟩, ⟨(.bin .add (.t 55) (.t 58)), (some 59), none, [63], []⟩, ⟨(.bin .add (.t 59) (.c (.str ⟨#[32]⟩))), (some 60), none, [63], []⟩, ⟨(.faddr 3 (.t 1)), (some 61), none, [58, 63], []⟩, ⟨(.load 1 false (.t 61)), (some 62), none, [58, 63], []⟩, ⟨(.callv (.c (.clo 43 [] [])) [(.t 62)]), (some 63), none, [], []⟩], [⟨(.bin .add (.t 60) (.t 63)), (some 64), none, [], []⟩, ⟨(.mv (.t 64)), (some 2), none, [], []⟩], [58, 63], [], true⟩
def r_r46Msg_13 : Reg := ⟨[], [⟨(.mv (.t 3)), (some 65), none, [69], []⟩, ⟨(.bin .add (.t 65) (.c (.str ⟨#[32, 107, 105, 110, 100, 32]⟩))), (some 66), none, [69], []⟩, ⟨(.faddr 2 (.t 1)), (some 67), none, [69], []⟩, ⟨(.load 1 false (.t 67)), (some 68), none, [69], []⟩, ⟨(.callv (.c (.clo 43 [] [])) [(.t 68)]), (some 69), none, [], []⟩, ⟨(.bin .add (.t 66) (.t 69)), (some 70), none, [], []⟩, ⟨(.mv (.t 70)), (some 2), none, [], []⟩], [69], [], false⟩
def ir_r46Msg : IR := (.seq (.reg r_r46Msg_0)
  (.seq (.reg r_r46Msg_1)
  (.seq (.seq (.reg r_r46Msg_2)
  (.block 0 (.seq (.reg r_r46Msg_3)
  (.cond (.t 9) (.seq (.reg r_r46Msg_4)
  .ret)
  (.seq (.reg r_r46Msg_5)
  (.cond (.t 22) (.seq (.reg r_r46Msg_6)
  .ret)
  (.seq (.reg r_r46Msg_7)
  (.cond (.t 35) (.seq (.reg r_r46Msg_8)
  .ret)
  (.seq (.reg r_r46Msg_9)
  (.cond (.t 43) (.seq (.seq (.reg r_r46Msg_10)
  (.cond (.t 46) (.seq (.reg r_r46Msg_11)
  .ret)
  .skip))
  (.seq (.reg r_r46Msg_12)
  .ret))
  .skip))))))))))
  (.seq (.reg r_r46Msg_13)
  .ret))))
def res_r46Msg : List RDesc := [(.tmp 2)]
theorem e_r46Msg_0 (C : FuncId → List AV → AV → Prop) (σ : St) (K : St → Prop) : runReg C r_r46Msg_0 σ K = runOps C [⟨(.box 6 65 (.t 0)), (some 1), none, [], []⟩, ⟨(.mv (.c (.str ⟨#[]⟩))), (some 2), none, [], []⟩] (σ.kills [1]) K := rfl
theorem e_r46Msg_1 (C : FuncId → List AV → AV → Prop) (σ : St) (K : St → Prop) : runReg C r_r46Msg_1 σ K = runOps C [⟨(.faddr 0 (.t 1)), (some 4), none, [6], []⟩, ⟨(.load 1 false (.t 4)), (some 5), none, [6], []⟩, ⟨(.callv (.c (.clo 42 [] [])) [(.t 5)]), (some 6), none, [], []⟩, ⟨(.mv (.t 6)), (some 3), none, [], []⟩] (σ.kills [6]) K := rfl
theorem e_r46Msg_2 (C : FuncId → List AV → AV → Prop) (σ : St) (K : St → Prop) : runReg C r_r46Msg_2 σ K = runOps C [⟨(.faddr 1 (.t 1)), (some 7), none, [], []⟩, ⟨(.load 1 false (.t 7)), (some 8), none, [], []⟩] (σ.kills []) K := rfl
theorem e_r46Msg_3 (C : FuncId → List AV → AV → Prop) (σ : St) (K : St → Prop) : runReg C r_r46Msg_3 σ K = runOps C [⟨(.bin .eql (.t 8) (.c (.int .i64 1))), (some 10), none, [], []⟩, ⟨(.mv (.t 10)), (some 9), none, [], []⟩] (σ.kills []) K := rfl
theorem e_r46Msg_4 (C : FuncId → List AV → AV → Prop) (σ : St) (K : St → Prop) : runReg C r_r46Msg_4 σ K = runHead C [] [⟨(.bin .add (.t 17) (.t 20)), (some 21), none, [], []⟩, ⟨(.mv (.t 21)), (some 2), none, [], []⟩] [⟨(.mv (.t 3)), (some 11), none, [15, 20], []⟩, ⟨(.bin .add (.t 11) (.c (.str ⟨#[32, 112, 117, 116, 32]⟩))), (some 12), none, [15, 20], []⟩, ⟨(.faddr 2 (.t 1)), (some 13), none, [15, 20], []⟩, ⟨(.load 1 false (.t 13)), (some 14), none, [15, 20], []⟩, ⟨(.callv (.c (.clo 43 [] [])) [(.t 14)]), (some 15), none, [20], []⟩, ⟨(.bin .add (.t 12) (.t 15)), (some 16), none, [20], []⟩, ⟨(.bin .add (.t 16) (.c (.str ⟨#[32]⟩))), (some 17), none, [20], []⟩, ⟨(.faddr 5 (.t 1)), (some 18), none, [15, 20], []⟩, ⟨(.load 1 false (.t 18)), (some 19), none, [15, 20], []⟩, ⟨(.callv (.c (.clo 43 [] [])) [(.t 19)]), (some 20), none, [], []⟩] (σ.kills [15, 20]) K := rfl
theorem e_r46Msg_5 (C : FuncId → List AV → AV → Prop) (σ : St) (K : St → Prop) : runReg C r_r46Msg_5 σ K = runOps C [⟨(.bin .eql (.t 8) (.c (.int .i64 2))), (some 23), none, [], []⟩, ⟨(.mv (.t 23)), (some 22), none, [], []⟩] (σ.kills []) K := rfl
theorem e_r46Msg_6 (C : FuncId → List AV → AV → Prop) (σ : St) (K : St → Prop) : runReg C r_r46Msg_6 σ K = runHead C [] [⟨(.bin .add (.t 30) (.t 33)), (some 34), none, [], []⟩, ⟨(.mv (.t 34)), (some 2), none, [], []⟩] [⟨(.mv (.t 3)), (some 24), none, [28, 33], []⟩, ⟨(.bin .add (.t 24) (.c (.str ⟨#[32, 97, 100, 100, 32]⟩))), (some 25), none, [28, 33], []⟩, ⟨(.faddr 2 (.t 1)), (some 26), none, [28, 33], []⟩, ⟨(.load 1 false (.t 26)), (some 27), none, [28, 33], []⟩, ⟨(.callv (.c (.clo 43 [] [])) [(.t 27)]), (some 28), none, [33], []⟩, ⟨(.bin .add (.t 25) (.t 28)), (some 29), none, [33], []⟩, ⟨(.bin .add (.t 29) (.c (.str ⟨#[32]⟩))), (some 30), none, [33], []⟩, ⟨(.faddr 5 (.t 1)), (some 31), none, [28, 33], []⟩, ⟨(.load 1 false (.t 31)), (some 32), none, [28, 33], []⟩, ⟨(.callv (.c (.clo 43 [] [])) [(.t 32)]), (some 33), none, [], []⟩] (σ.kills [28, 33]) K := rfl
theorem e_r46Msg_7 (C : FuncId → List AV → AV → Prop) (σ : St) (K : St → Prop) : runReg C r_r46Msg_7 σ K = runOps C [⟨(.bin .eql (.t 8) (.c (.int .i64 3))), (some 36), none, [], []⟩, ⟨(.mv (.t 36)), (some 35), none, [], []⟩] (σ.kills []) K := rfl
theorem e_r46Msg_8 (C : FuncId → List AV → AV → Prop) (σ : St) (K : St → Prop) : runReg C r_r46Msg_8 σ K = runOps C [⟨(.mv (.t 3)), (some 37), none, [41], []⟩, ⟨(.bin .add (.t 37) (.c (.str ⟨#[32, 100, 101, 108, 32]⟩))), (some 38), none, [41], []⟩, ⟨(.faddr 2 (.t 1)), (some 39), none, [41], []⟩, ⟨(.load 1 false (.t 39)), (some 40), none, [41], []⟩, ⟨(.callv (.c (.clo 43 [] [])) [(.t 40)]), (some 41), none, [], []⟩, ⟨(.bin .add (.t 38) (.t 41)), (some 42), none, [], []⟩, ⟨(.mv (.t 42)), (some 2), none, [], []⟩] (σ.kills [41]) K := rfl
theorem e_r46Msg_9 (C : FuncId → List AV → AV → Prop) (σ : St) (K : St → Prop) : runReg C r_r46Msg_9 σ K = runOps C [⟨(.bin .eql (.t 8) (.c (.int .i64 4))), (some 44), none, [], []⟩, ⟨(.mv (.t 44)), (some 43), none, [], []⟩] (σ.kills []) K := rfl
theorem e_r46Msg_10 (C : FuncId → List AV → AV → Prop) (σ : St) (K : St → Prop) : runReg C r_r46Msg_10 σ K = runOps C [⟨(.faddr 4 (.t 1)), (some 45), none, [], []⟩, ⟨(.load 1 false (.t 45)), (some 46), none, [], []⟩] (σ.kills []) K := rfl
theorem e_r46Msg_11 (C : FuncId → List AV → AV → Prop) (σ : St) (K : St → Prop) : runReg C r_r46Msg_11 σ K = runOps C [⟨(.mv (.t 3)), (some 47), none, [51], []⟩, ⟨(.bin .add (.t 47) (.c (.str ⟨#[32, 119, 105, 112, 101, 32]⟩))), (some 48), none, [51], []⟩, ⟨(.faddr 2 (.t 1)), (some 49), none, [51], []⟩, ⟨(.load 1 false (.t 49)), (some 50), none, [51], []⟩, ⟨(.callv (.c (.clo 43 [] [])) [(.t 50)]), (some 51), none, [], []⟩, ⟨(.bin .add (.t 48) (.t 51)), (some 52), none, [], []⟩, ⟨(.bin .add (.t 52) (.c (.str ⟨#[32, 42]⟩))), (some 53), none, [], []⟩, ⟨(.mv (.t 53)), (some 2), none, [], []⟩] (σ.kills [51]) K := rfl
theorem e_r46Msg_12 (C : FuncId → List AV → AV → Prop) (σ : St) (K : St → Prop) : runReg C r_r46Msg_12 σ K = runHead C [] [⟨(.bin .add (.t 60) (.t 63)), (some 64), none, [], []⟩, ⟨(.mv (.t 64)), (some 2), none, [], []⟩] [⟨(.mv (.t 3)), (some 54), none, [58, 63], []⟩, ⟨(.bin .add (.t 54) (.c (.str ⟨#[32, 119, 105, 112, 101, 32]⟩))), (some 55), none, [58, 63], []⟩, ⟨(.faddr 2 (.t 1)), (some 56), none, [58, 63], []⟩, ⟨(.load 1 false (.t 56)), (some 57), none, [58, 63], []⟩, ⟨(.callv (.c (.clo 43 [] [])) [(.t 57)]), (some 58), none, [63], []⟩, ⟨(.bin .add (.t 55) (.t 58)), (some 59), none, [63], []⟩, ⟨(.bin .add (.t 59) (.c (.str ⟨#[32]⟩))), (some 60), none, [63], []⟩, ⟨(.faddr 3 (.t 1)), (some 61), none, [58, 63], []⟩, ⟨(.load 1 false (.t 61)), (some 62), none, [58, 63], []⟩, ⟨(.callv (.c (.clo 43 [] [])) [(.t 62)]), (some 63), none, [], []⟩] (σ.kills [58, 63]) K := rfl
theorem e_r46Msg_13 (C : FuncId → List AV → AV → Prop) (σ : St) (K : St → Prop) : runReg C r_r46Msg_13 σ K = runOps C [⟨(.mv (.t 3)), (some 65), none, [69], []⟩, ⟨(.bin .add (.t 65) (.c (.str ⟨#[32, 107, 105, 110, 100, 32]⟩))), (some 66), none, [69], []⟩, ⟨(.faddr 2 (.t 1)), (some 67), none, [69], []⟩, ⟨(.load 1 false (.t 67)), (some 68), none, [69], []⟩, ⟨(.callv (.c (.clo 43 [] [])) [(.t 68)]), (some 69), none, [], []⟩, ⟨(.bin .add (.t 66) (.t 69)), (some 70), none, [], []⟩, ⟨(.mv (.t 70)), (some 2), none, [], []⟩] (σ.kills [69]) K := rfl
theorem fn_r46Msg {args : List AV} {r : AV} (ha : args.length.ble Tryd.f37.ntmps = true) (h : run (AFn Tryd.prog) ir_r46Msg (endQ res_r46Msg r) (initSt args)) : AFn Tryd.prog 37 args r :=
  AFn.of_code (hint := fun _ => []) (c := Tryd.f37.body.getD .skip) (by kernel_rfl) (by kernel_rfl) Tryd.func37 (by kernel_rfl) (by kernel_rfl) (by kernel_rfl) (of_decide_eq_true (by kernel_rfl)) (Nat.le_of_ble_eq_true ha) (Nat.le_of_ble_eq_true (by kernel_rfl)) (run_ok h)

/-! ### percolate/percolateref46.Hold -/
def r_r46Hold_0 : Reg := ⟨[], [⟨(.box 3 63 (.t 0)), (some 1), none, [], []⟩, ⟨(.mv (.c (.str ⟨#[]⟩))), (some 2), none, [], []⟩], [1], [], false⟩
def r_r46Hold_1 : Reg := ⟨[], [⟨(.faddr 2 (.t 1)), (some 3), none, [], []⟩, ⟨(.load 1 false (.t 3)), (some 4), none, [], []⟩], [], [], false⟩
def r_r46Hold_2 : Reg := ⟨[⟨(.faddr 0 (.t 1)), (some 5), none, [7, 11], []⟩, ⟨(.load 1 false (.t 5)), (some 6), none, [7, 11], []⟩, ⟨(.callv (.c (.clo 42 [] [])) [(.t 6)]), (some 7), none, [11], []⟩, ⟨(.bin .add (.t 7) (.c (.str ⟨#[32]⟩))), (some 8), none, [11], []⟩, ⟨(.faddr 1 (.t 1)), (some 9), none, [7, 11], []⟩, ⟨(.load 1 false (.t 9)), (some 10), none, [7, 11], []⟩, ⟨(.callv (.c (.clo 42 [] [])) [(.t 10)]), (some 11), none, [], []⟩], [⟨(.bin .add (.t 8) (.t 11)), (some 12), none, [], []⟩, ⟨(.bin .add (.t 12) (.c (.str ⟨#[32, 119, 114, 105, 116, 101]⟩))), (some 13), none, [], []⟩, ⟨(.mv (.t 13)), (some 2), none, [], []⟩], [7, 11], [], true⟩
def r_r46Hold_3 : Reg := ⟨[⟨(.faddr 0 (.t 1)), (some 14), none, [16, 20], []⟩, ⟨(.load 1 false (.t 14)), (some 15), none, [16, 20], []⟩, ⟨(.callv (.c (.clo 42 [] [])) [(.t 15)]), (some 16), none, [20], []⟩, ⟨(.bin .add (.t 16) (.c (.str ⟨#[32]⟩))), (some 17), none, [20], []⟩, ⟨(.faddr 1 (.t 1)), (some 18), none, [16, 20], []⟩, ⟨(.load 1 false (.t 18)), (some 19), none, [16, 20], []⟩, ⟨(.callv (.c (.clo 42 [] [])) [(.t 19)]), (some 20), none, [], []⟩], [⟨(.bin .add (.t 17) (.t 20)), (some 21), none, [], []⟩, ⟨(.bin .add (.t 21) (.c (.str ⟨#[32, 114, 101, 97, 100]⟩))), (some 22), none, [], []⟩, ⟨(.mv (.t 22)), (some 2), none, [], []⟩], [16, 20], [], true⟩
def ir_r46Hold : IR := (.seq (.reg r_r46Hold_0)
  (.seq (.seq (.reg r_r46Hold_1)
  (.cond (.t 4) (.seq (.reg r_r46Hold_2)
  .ret)
  .skip))
  (.seq (.reg r_r46Hold_3)
  .ret)))
def res_r46Hold : List RDesc := [(.tmp 2)]
theorem e_r46Hold_0 (C : FuncId → List AV → AV → Prop) (σ : St) (K : St → Prop) : runReg C r_r46Hold_0 σ K = runOps C [⟨(.box 3 63 (.t 0)), (some 1), none, [], []⟩, ⟨(.mv (.c (.str ⟨#[]⟩))), (some 2), none, [], []⟩] (σ.kills [1]) K := rfl
theorem e_r46Hold_1 (C : FuncId → List AV → AV → Prop) (σ : St) (K : St → Prop) : runReg C r_r46Hold_1 σ K = runOps C [⟨(.faddr 2 (.t 1)), (some 3), none, [], []⟩, ⟨(.load 1 false (.t 3)), (some 4), none, [], []⟩] (σ.kills []) K := rfl
theorem e_r46Hold_2 (C : FuncId → List AV → AV → Prop) (σ : St) (K : St → Prop) : runReg C r_r46Hold_2 σ K = runHead C [] [⟨(.bin .add (.t 8) (.t 11)), (some 12), none, [], []⟩, ⟨(.bin .add (.t 12) (.c (.str ⟨#[32, 119, 114, 105, 116, 101]⟩))), (some 13), none, [], []⟩, ⟨(.mv (.t 13)), (some 2), none, [], []⟩] [⟨(.faddr 0 (.t 1)), (some 5), none, [7, 11], []⟩, ⟨(.load 1 false (.t 5)), (some 6), none, [7, 11], []⟩, ⟨(.callv (.c (.clo 42 [] [])) [(.t 6)]), (some 7), none, [11], []⟩, ⟨(.bin .add (.t 7) (.c (.str ⟨#[32]⟩))), (some 8), none, [11], []⟩, ⟨(.faddr 1 (.t 1)), (some 9), none, [7, 11], []⟩, ⟨(.load 1 false (.t 9)), (some 10), none, [7, 11], []⟩, ⟨(.callv (.c (.clo 42 [] [])) [(.t 10)]), (some 11), none, [], []⟩] (σ.kills [7, 11]) K := rfl
theorem e_r46Hold_3 (C : FuncId → List AV → AV → Prop) (σ : St) (K : St → Prop) : runReg C r_r46Hold_3 σ K = runHead C [] [⟨(.bin .add (.t 17) (.t 20)), (some 21), none, [], []⟩, ⟨(.bin .add (.t 21) (.c (.str ⟨#[32, 114, 101, 97, 100]⟩))), (some 22), none, [], []⟩, ⟨(.mv (.t 22)), (some 2), none, [], []⟩] [⟨(.faddr 0 (.t 1)), (some 14), none, [16, 20], []⟩, ⟨(.load 1 false (.t 14)), (some 15), none, [16, 20], []⟩, ⟨(.callv (.c (.clo 42 [] [])) [(.t 15)]), (some 16), none, [20], []⟩, ⟨(.bin .add (.t 16) (.c (.str ⟨#[32]⟩))), (some 17), none, [20], []⟩, ⟨(.faddr 1 (.t 1)), (some 18), none, [16, 20], []⟩, ⟨(.load 1 false (.t 18)), (some 19), none, [16, 20], []⟩, ⟨(.callv (.c (.clo 42 [] [])) [(.t 19)]), (some 20), none, [], []⟩] (σ.kills [16, 20]) K := rfl
theorem fn_r46Hold {args : List AV} {r : AV} (ha : args.length.ble Tryd.f35.ntmps = true) (h : run (AFn Tryd.prog) ir_r46Hold (endQ res_r46Hold r) (initSt args)) : AFn Tryd.prog 35 args r :=
  AFn.of_code (hint := fun _ => []) (c := Tryd.f35.body.getD .skip) (by kernel_rfl) (by kernel_rfl) Tryd.func35 (by kernel_rfl) (by kernel_rfl) (by kernel_rfl) (of_decide_eq_true (by kernel_rfl)) (Nat.le_of_ble_eq_true ha) (Nat.le_of_ble_eq_true (by kernel_rfl)) (run_ok h)

/-! ### percolate/percolateref46.Node -/
def r_r46Node_0 : Reg := ⟨[], [⟨(.box 10 34 (.t 0)), (some 1), none, [], []⟩, ⟨(.mv (.c (.str ⟨#[]⟩))), (some 2), none, [], []⟩], [1], [], false⟩
def r_r46Node_1 : Reg := ⟨[⟨(.faddr 0 (.t 1)), (some 6), none, [8, 13, 18, 23], []⟩, ⟨(.load 1 false (.t 6)), (some 7), none, [8, 13, 18, 23], []⟩, ⟨(.callv (.c (.clo 42 [] [])) [(.t 7)]), (some 8), none, [13, 18, 23], []⟩, ⟨(.bin .add (.c (.str ⟨#[110, 111, 100, 101, 32]⟩)) (.t 8)), (some 9), none, [13, 18, 23], []⟩, ⟨(.bin .add (.t 9) (.c (.str ⟨#[32]⟩))), (some 10), none, [13, 18, 23], []⟩, ⟨(.faddr 1 (.t 1)), (some 11), none, [8, 13, 18, 23], []⟩, ⟨(.load 1 false (.t 11)), (some 12), none, [8, 13, 18, 23], []⟩, ⟨(.callv (.c (.clo 42 [] [])) [(.t 12)]), (some 13), none, [18, 23], []⟩, ⟨(.bin .add (.t 10) (.t 13)), (some 14), none, [18, 23], []⟩, ⟨(.bin .add (.t 14) (.c (.str ⟨#[32]⟩))), (some 15), none, [18, 23], []⟩, ⟨(.faddr 7 (.t 1)), (some 16), none, [8, 13, 18, 23], []⟩, ⟨(.load 1 false (.t 16)), (some 17), none, [8, 13, 18, 23], []⟩, ⟨(.callv (.c (.clo 42 [] [])) [(.t 17)]), (some 18), none, [23], []⟩, ⟨(.bin .add (.t 15) (.t 18)), (some 19), none, [23], []⟩, ⟨(.bin .add (.t 19) (.c (.str ⟨#[32]⟩))), (some 20), none, [23], []⟩, ⟨(.faddr 6 (.t 1)), (some 21), none, [8, 13, 18, 23], []⟩, ⟨(.load 1 false (.t 21)), (some 22), none, [8, 13, 18, 23], []⟩, ⟨(.callv (.c (.clo 42 [] [])) [(.t 22)]), (some 23), none, [], []⟩], [⟨(.bin .add (.t 20) (.t 23)), (some 24), none, [], []⟩, ⟨(.bin .add (.t 24) (.c (.str ⟨#[32]⟩))), (some 25), none, [], []⟩, ⟨(.mv (.t 25)), (some 3), none, [], []⟩], [8, 13, 18, 23], [], true⟩
def r_r46Node_2 : Reg := ⟨[], [⟨(.faddr 5 (.t 1)), (some 26), none, [], []⟩, ⟨(.load 1 false (.t 26)), (some 27), none, [], []⟩], [], [], false⟩
def r_r46Node_3 : Reg := ⟨[], [⟨(.mv (.t 3)), (some 28), none, [], []⟩, ⟨(.bin .add (.t 28) (.c (.str ⟨#[42, 32, 58, 32]⟩))), (some 29), none, [], []⟩, ⟨(.mv (.t 29)), (some 3), none, [], []⟩], [], [], false⟩
def r_r46Node_4 : Reg := ⟨[], [⟨(.mv (.t 3)), (some 30), none, [33], []⟩, ⟨(.faddr 4 (.t 1)), (some 31), none, [33], []⟩, ⟨(.load 1 false (.t 31)), (some 32), none, [33], []⟩, ⟨(.callv (.c (.clo 43 [] [])) [(.t 32)]), (some 33), none, [], []⟩, ⟨(.bin .add (.t 33) (.c (.str ⟨#[32, 58, 32]⟩))), (some 34), none, [], []⟩, ⟨(.bin .add (.t 30) (.t 34)), (some 35), none, [], []⟩, ⟨(.mv (.t 35)), (some 3), none, [], []⟩], [33], [], false⟩
def r_r46Node_5 : Reg := ⟨[], [⟨(.faddr 1 (.t 1)), (some 36), none, [], []⟩, ⟨(.load 1 false (.t 36)), (some 37), none, [], []⟩, ⟨(.bin .eql (.t 37) (.c (.int .i64 0))), (some 38), none, [], []⟩], [], [], false⟩
def r_r46Node_6 : Reg := ⟨[], [⟨(.mv (.t 3)), (some 39), none, [42], []⟩, ⟨(.faddr 9 (.t 1)), (some 40), none, [42], []⟩, ⟨(.load 1 false (.t 40)), (some 41), none, [42], []⟩, ⟨(.callv (.c (.clo 39 [] [])) [(.t 41)]), (some 42), none, [], []⟩, ⟨(.bin .add (.c (.str ⟨#[114, 111, 119, 115, 32]⟩)) (.t 42)), (some 43), none, [], []⟩, ⟨(.bin .add (.t 39) (.t 43)), (some 44), none, [], []⟩, ⟨(.mv (.t 44)), (some 3), none, [], []⟩], [42], [], false⟩
def r_r46Node_7 : Reg := ⟨[], [⟨(.mv (.t 3)), (some 45), none, [], []⟩, ⟨(.bin .add (.t 45) (.c (.str ⟨#[107, 105, 100, 115]⟩))), (some 46), none, [], []⟩, ⟨(.mv (.t 46)), (some 3), none, [], []⟩], [], [], false⟩
def r_r46Node_8 : Reg := ⟨[], [⟨(.mv (.c (.int .i64 0))), (some 4), none, [], []⟩], [], [], false⟩
def r_r46Node_9 : Reg := ⟨[], [⟨(.mv (.t 4)), (some 47), none, [], []⟩, ⟨(.faddr 3 (.t 1)), (some 48), none, [], []⟩, ⟨(.load 1 false (.t 48)), (some 49), none, [], []⟩, ⟨(.len false (.t 49)), (some 50), none, [], []⟩, ⟨(.bin .lss (.t 47) (.t 50)), (some 51), none, [], []⟩], [], [], false⟩
def r_r46Node_10 : Reg := ⟨[], [⟨(.mv (.t 4)), (some 54), none, [], []⟩, ⟨(.bin .gtr (.t 54) (.c (.int .i64 0))), (some 55), none, [], []⟩, ⟨(.mv (.t 55)), (some 56), none, [], []⟩, ⟨(.mv (.t 4)), (some 57), (some (56, true)), [], []⟩, ⟨(.bin .sub (.t 57) (.c (.int .i64 1))), (some 58), (some (56, true)), [], []⟩, ⟨(.faddr 2 (.t 1)), (some 59), (some (56, true)), [], []⟩, ⟨(.load 1 false (.t 59)), (some 60), (some (56, true)), [], []⟩, ⟨(.len false (.t 60)), (some 61), (some (56, true)), [], []⟩, ⟨(.bin .lss (.t 58) (.t 61)), (some 62), (some (56, true)), [], []⟩, ⟨(.pick (.t 56) (.t 62) (.c (.bool false))), (some 63), none, [], []⟩], [], [], false⟩
def r_r46Node_11 : Reg := ⟨[], [⟨(.mv (.t 3)), (some 64), none, [71], []⟩, ⟨(.faddr 2 (.t 1)), (some 65), none, [71], []⟩, ⟨(.load 1 false (.t 65)), (some 66), none, [71], []⟩, ⟨(.mv (.t 4)), (some 67), none, [71], []⟩, ⟨(.bin .sub (.t 67) (.c (.int .i64 1))), (some 68), none, [71], []⟩, ⟨(.iaddr 1 (.t 66) (.t 68)), (some 69), none, [71], []⟩, ⟨(.load 1 false (.t 69)), (some 70), none, [71], []⟩, ⟨(.callv (.c (.clo 43 [] [])) [(.t 70)]), (some 71), none, [], []⟩, ⟨(.bin .add (.c (.str ⟨#[32]⟩)) (.t 71)), (some 72), none, [], []⟩, ⟨(.bin .add (.t 64) (.t 72)), (some 73), none, [], []⟩, ⟨(.mv (.t 73)), (some 3), none, [], []⟩], [71], [], false⟩
def r_r46Node_12 : Reg := ⟨[], [⟨(.mv (.t 3)), (some 74), none, [80], []⟩, ⟨(.faddr 3 (.t 1)), (some 75), none, [80], []⟩, ⟨(.load 1 false (.t 75)), (some 76), none, [80], []⟩, ⟨(.mv (.t 4)), (some 77), none, [80], []⟩, ⟨(.iaddr 1 (.t 76) (.t 77)), (some 78), none, [80], []⟩, ⟨(.load 1 false (.t 78)), (some 79), none, [80], []⟩, ⟨(.callv (.c (.clo 42 [] [])) [(.t 79)]), (some 80), none, [], []⟩, ⟨(.bin .add (.c (.str ⟨#[32]⟩)) (.t 80)), (some 81), none, [], []⟩, ⟨(.bin .add (.t 74) (.t 81)), (some 82), none, [], []⟩, ⟨(.mv (.t 82)), (some 3), none, [], []⟩], [80], [], false⟩
def r_r46Node_13 : Reg := ⟨[], [⟨(.mv (.t 4)), (some 52), none, [], []⟩, ⟨(.bin .add (.t 52) (.c (.int .i64 1))), (some 53), none, [], []⟩, ⟨(.mv (.t 53)), (some 4), none, [], []⟩], [], [], false⟩
def r_r46Node_l14 : IR := (.seq (.seq (.reg r_r46Node_9)
  (.cond (.t 51) .skip
  (.exit 0)))
  (.seq (.block 1 (.seq (.seq (.reg r_r46Node_10)
  (.cond (.t 63) (.reg r_r46Node_11)
  .skip))
  (.reg r_r46Node_12)))
  (.reg r_r46Node_13)))
def r_r46Node_15 : Reg := ⟨[], [⟨(.mv (.t 3)), (some 83), none, [87], []⟩, ⟨(.faddr 8 (.t 1)), (some 84), none, [87], []⟩, ⟨(.load 1 false (.t 84)), (some 85), none, [87], []⟩, ⟨(.len false (.t 85)), (some 86), none, [87], []⟩, ⟨(.callv (.c (.clo 42 [] [])) [(.t 86)]), (some 87), none, [], []⟩, ⟨(.bin .add (.c (.str ⟨#[32, 58, 32, 109, 115, 103, 115, 32]⟩)) (.t 87)), (some 88), none, [], []⟩, ⟨(.bin .add (.t 83) (.t 88)), (some 89), none, [], []⟩, ⟨(.mv (.t 89)), (some 3), none, [], []⟩], [87], [], false⟩
def r_r46Node_16 : Reg := ⟨[], [⟨(.mv (.c (.int .i64 0))), (some 5), none, [], []⟩], [], [], false⟩
def r_r46Node_17 : Reg := ⟨[], [⟨(.mv (.t 5)), (some 90), none, [], []⟩, ⟨(.faddr 8 (.t 1)), (some 91), none, [], []⟩, ⟨(.load 1 false (.t 91)), (some 92), none, [], []⟩, ⟨(.len false (.t 92)), (some 93), none, [], []⟩, ⟨(.bin .lss (.t 90) (.t 93)), (some 94), none, [], []⟩], [], [], false⟩
def r_r46Node_18 : Reg := ⟨[], [⟨(.mv (.t 3)), (some 97), none, [103], []⟩, ⟨(.faddr 8 (.t 1)), (some 98), none, [103], []⟩, ⟨(.load 1 false (.t 98)), (some 99), none, [103], []⟩, ⟨(.mv (.t 5)), (some 100), none, [103], []⟩, ⟨(.iaddr 6 (.t 99) (.t 100)), (some 101), none, [103], []⟩, ⟨(.load 6 true (.t 101)), (some 102), none, [103], []⟩, ⟨(.callv (.c (.clo 37 [] [])) [(.t 102)]), (some 103), none, [], []⟩, ⟨(.bin .add (.c (.str ⟨#[32, 44, 32]⟩)) (.t 103)), (some 104), none, [], []⟩, ⟨(.bin .add (.t 97) (.t 104)), (some 105), none, [], []⟩, ⟨(.mv (.t 105)), (some 3), none, [], []⟩], [103], [], false⟩
def r_r46Node_19 : Reg := ⟨[], [⟨(.mv (.t 5)), (some 95), none, [], []⟩, ⟨(.bin .add (.t 95) (.c (.int .i64 1))), (some 96), none, [], []⟩, ⟨(.mv (.t 96)), (some 5), none, [], []⟩], [], [], false⟩
def r_r46Node_l20 : IR := (.seq (.seq (.reg r_r46Node_17)
  (.cond (.t 94) .skip
  (.exit 2)))
  (.seq (.block 3 (.reg r_r46Node_18))
  (.reg r_r46Node_19)))
def r_r46Node_21 : Reg := ⟨[], [⟨(.mv (.t 3)), (some 106), none, [], []⟩, ⟨(.mv (.t 106)), (some 2), none, [], []⟩], [], [], false⟩
def ir_r46Node : IR := (.seq (.reg r_r46Node_0)
  (.seq (.reg r_r46Node_1)
  (.seq (.seq (.reg r_r46Node_2)
  (.cond (.t 27) (.reg r_r46Node_3)
  (.reg r_r46Node_4)))
  (.seq (.seq (.reg r_r46Node_5)
  (.cond (.t 38) (.reg r_r46Node_6)
  (.seq (.reg r_r46Node_7)
  (.seq (.reg r_r46Node_8)
  (.block 0 (.loop r_r46Node_l14))))))
  (.seq (.reg r_r46Node_15)
  (.seq (.seq (.reg r_r46Node_16)
  (.block 2 (.loop r_r46Node_l20)))
  (.seq (.reg r_r46Node_21)
  .ret)))))))
def res_r46Node : List RDesc := [(.tmp 2)]
theorem e_r46Node_0 (C : FuncId → List AV → AV → Prop) (σ : St) (K : St → Prop) : runReg C r_r46Node_0 σ K = runOps C [⟨(.box 10 34 (.t 0)), (some 1), none, [], []⟩, ⟨(.mv (.c (.str ⟨#[]⟩))), (some 2), none, [], []⟩] (σ.kills [1]) K := rfl
theorem e_r46Node_1 (C : FuncId → List AV → AV → Prop) (σ : St) (K : St → Prop) : runReg C r_r46Node_1 σ K = runHead C [] [⟨(.bin .add (.t 20) (.t 23)), (some 24), none, [], []⟩, ⟨(.bin .add (.t 24) (.c (.str ⟨#[32]⟩))), (some 25), none, [], []⟩, ⟨(.mv (.t 25)), (some 3), none, [], []⟩] [⟨(.faddr 0 (.t 1)), (some 6), none, [8, 13, 18, 23], []⟩, ⟨(.load 1 false (.t 6)), (some 7), none, [8, 13, 18, 23], []⟩, ⟨(.callv (.c (.clo 42 [] [])) [(.t 7)]), (some 8), none, [13, 18, 23], []⟩, ⟨(.bin .add (.c (.str ⟨#[110, 111, 100, 101, 32]⟩)) (.t 8)), (some 9), none, [13, 18, 23], []⟩, ⟨(.bin .add (.t 9) (.c (.str ⟨#[32]⟩))), (some 10), none, [13, 18, 23], []⟩, ⟨(.faddr 1 (.t 1)), (some 11), none, [8, 13, 18, 23], []⟩, ⟨(.load 1 false (.t 11)), (some 12), none, [8, 13, 18, 23], []⟩, ⟨(.callv (.c (.clo 42 [] [])) [(.t 12)]), (some 13), none, [18, 23], []⟩, ⟨(.bin .add (.t 10) (.t 13)), (some 14), none, [18, 23], []⟩, ⟨(.bin .add (.t 14) (.c (.str ⟨#[32]⟩))), (some 15), none, [18, 23], []⟩, ⟨(.faddr 7 (.t 1)), (some 16), none, [8, 13, 18, 23], []⟩, ⟨(.load 1 false (.t 16)), (some 17), none, [8, 13, 18, 23], []⟩, ⟨(.callv (.c (.clo 42 [] [])) [(.t 17)]), (some 18), none, [23], []⟩, ⟨(.bin .add (.t 15) (.t 18)), (some 19), none, [23], []⟩, ⟨(.bin .add (.t 19) (.c (.str ⟨#[32]⟩))), (some 20), none, [23], []⟩, ⟨(.faddr 6 (.t 1)), (some 21), none, [8, 13, 18, 23], []⟩, ⟨(.load 1 false (.t 21)), (some 22), none, [8, 13, 18, 23], []⟩, ⟨(.callv (.c (.clo 42 [] [])) [(.t 22)]), (some 23), none, [], []⟩] (σ.kills [8, 13, 18, 23]) K := rfl
theorem e_r46Node_2 (C : FuncId → List AV → AV → Prop) (σ : St) (K : St → Prop) : runReg C r_r46Node_2 σ K = runOps C [⟨(.faddr 5 (.t 1)), (some 26), none, [], []⟩, ⟨(.load 1 false (.t 26)), (some 27), none, [], []⟩] (σ.kills []) K := rfl
theorem e_r46Node_3 (C : FuncId → List AV → AV → Prop) (σ : St) (K : St → Prop) : runReg C r_r46Node_3 σ K = runOps C [⟨(.mv (.t 3)), (some 28), none, [], []⟩, ⟨(.bin .add (.t 28) (.c (.str ⟨#[42, 32, 58, 32]⟩))), (some 29), none, [], []⟩, ⟨(.mv (.t 29)), (some 3), none, [], []⟩] (σ.kills []) K := rfl
theorem e_r46Node_4 (C : FuncId → List AV → AV → Prop) (σ : St) (K : St → Prop) : runReg C r_r46Node_4 σ K = runOps C [⟨(.mv (.t 3)), (some 30), none, [33], []⟩, ⟨(.faddr 4 (.t 1)), (some 31), none, [33], []⟩, ⟨(.load 1 false (.t 31)), (some 32), none, [33], []⟩, ⟨(.callv (.c (.clo 43 [] [])) [(.t 32)]), (some 33), none, [], []⟩, ⟨(.bin .add (.t 33) (.c (.str ⟨#[32, 58, 32]⟩))), (some 34), none, [], []⟩, ⟨(.bin .add (.t 30) (.t 34)), (some 35), none, [], []⟩, ⟨(.mv (.t 35)), (some 3), none, [], []⟩] (σ.kills [33]) K := rfl
theorem e_r46Node_5 (C : FuncId → List AV → AV → Prop) (σ : St) (K : St → Prop) : runReg C r_r46Node_5 σ K = runOps C [⟨(.faddr 1 (.t 1)), (some 36), none, [], []⟩, ⟨(.load 1 false (.t 36)), (some 37), none, [], []⟩, ⟨(.bin .eql (.t 37) (.c (.int .i64 0))), (some 38), none, [], []⟩] (σ.kills []) K := rfl
theorem e_r46Node_6 (C : FuncId → List AV → AV → Prop) (σ : St) (K : St → Prop) : runReg C r_r46Node_6 σ K = runOps C [⟨(.mv (.t 3)), (some 39), none, [42], []⟩, ⟨(.faddr 9 (.t 1)), (some 40), none, [42], []⟩, ⟨(.load 1 false (.t 40)), (some 41), none, [42], []⟩, ⟨(.callv (.c (.clo 39 [] [])) [(.t 41)]), (some 42), none, [], []⟩, ⟨(.bin .add (.c (.str ⟨#[114, 111, 119, 115, 32]⟩)) (.t 42)), (some 43), none, [], []⟩, ⟨(.bin .add (.t 39) (.t 43)), (some 44), none, [], []⟩, ⟨(.mv (.t 44)), (some 3), none, [], []⟩] (σ.kills [42]) K := rfl
theorem e_r46Node_7 (C : FuncId → List AV → AV → Prop) (σ : St) (K : St → Prop) : runReg C r_r46Node_7 σ K = runOps C [⟨(.mv (.t 3)), (some 45), none, [], []⟩, ⟨(.bin .add (.t 45) (.c (.str ⟨#[107, 105, 100, 115]⟩))), (some 46), none, [], []⟩, ⟨(.mv (.t 46)), (some 3), none, [], []⟩] (σ.kills []) K := rfl
theorem e_r46Node_8 (C : FuncId → List AV → AV → Prop) (σ : St) (K : St → Prop) : runReg C r_r46Node_8 σ K = runOps C [⟨(.mv (.c (.int .i64 0))), (some 4), none, [], []⟩] (σ.kills []) K := rfl
theorem e_r46Node_9 (C : FuncId → List AV → AV → Prop) (σ : St) (K : St → Prop) : runReg C r_r46Node_9 σ K = runOps C [⟨(.mv (.t 4)), (some 47), none, [], []⟩, ⟨(.faddr 3 (.t 1)), (some 48), none, [], []⟩, ⟨(.load 1 false (.t 48)), (some 49), none, [], []⟩, ⟨(.len false (.t 49)), (some 50), none, [], []⟩, ⟨(.bin .lss (.t 47) (.t 50)), (some 51), none, [], []⟩] (σ.kills []) K := rfl
theorem e_r46Node_10 (C : FuncId → List AV → AV → Prop) (σ : St) (K : St → Prop) : runReg C r_r46Node_10 σ K = runOps C [⟨(.mv (.t 4)), (some 54), none, [], []⟩, ⟨(.bin .gtr (.t 54) (.c (.int .i64 0))), (some 55), none, [], []⟩, ⟨(.mv (.t 55)), (some 56), none, [], []⟩, ⟨(.mv (.t 4)), (some 57), (some (56, true)), [], []⟩, ⟨(.bin .sub (.t 57) (.c (.int .i64 1))), (some 58), (some (56, true)), [], []⟩, ⟨(.faddr 2 (.t 1)), (some 59), (some (56, true)), [], []⟩, ⟨(.load 1 false (.t 59)), (some 60), (some (56, true)), [], []⟩, ⟨(.len false (.t 60)), (some 61), (some (56, true)), [], []⟩, ⟨(.bin .lss (.t 58) (.t 61)), (some 62), (some (56, true)), [], []⟩, ⟨(.pick (.t 56) (.t 62) (.c (.bool false))), (some 63), none, [], []⟩] (σ.kills []) K := rfl
theorem e_r46Node_11 (C : FuncId → List AV → AV → Prop) (σ : St) (K : St → Prop) : runReg C r_r46Node_11 σ K = runOps C [⟨(.mv (.t 3)), (some 64), none, [71], []⟩, ⟨(.faddr 2 (.t 1)), (some 65), none, [71], []⟩, ⟨(.load 1 false (.t 65)), (some 66), none, [71], []⟩, ⟨(.mv (.t 4)), (some 67), none, [71], []⟩, ⟨(.bin .sub (.t 67) (.c (.int .i64 1))), (some 68), none, [71], []⟩, ⟨(.iaddr 1 (.t 66) (.t 68)), (some 69), none, [71], []⟩, ⟨(.load 1 false (.t 69)), (some 70), none, [71], []⟩, ⟨(.callv (.c (.clo 43 [] [])) [(.t 70)]), (some 71), none, [], []⟩, ⟨(.bin .add (.c (.str ⟨#[32]⟩)) (.t 71)), (some 72), none, [], []⟩, ⟨(.bin .add (.t 64) (.t 72)), (some 73), none, [], []⟩, ⟨(.mv (.t 73)), (some 3), none, [], []⟩] (σ.kills [71]) K := rfl
theorem e_r46Node_12 (C : FuncId → List AV → AV → Prop) (σ : St) (K : St → Prop) : runReg C r_r46Node_12 σ K = runOps C [⟨(.mv (.t 3)), (some 74), none, [80], []⟩, ⟨(.faddr 3 (.t 1)), (some 75), none, [80], []⟩, ⟨(.load 1 false (.t 75)), (some 76), none, [80], []⟩, ⟨(.mv (.t 4)), (some 77), none, [80], []⟩, ⟨(.iaddr 1 (.t 76) (.t 77)), (some 78), none, [80], []⟩, ⟨(.load 1 false (.t 78)), (some 79), none, [80], []⟩, ⟨(.callv (.c (.clo 42 [] [])) [(.t 79)]), (some 80), none, [], []⟩, ⟨(.bin .add (.c (.str ⟨#[32]⟩)) (.t 80)), (some 81), none, [], []⟩, ⟨(.bin .add (.t 74) (.t 81)), (some 82), none, [], []⟩, ⟨(.mv (.t 82)), (some 3), none, [], []⟩] (σ.kills [80]) K := rfl
theorem e_r46Node_13 (C : FuncId → List AV → AV → Prop) (σ : St) (K : St → Prop) : runReg C r_r46Node_13 σ K = runOps C [⟨(.mv (.t 4)), (some 52), none, [], []⟩, ⟨(.bin .add (.t 52) (.c (.int .i64 1))), (some 53), none, [], []⟩, ⟨(.mv (.t 53)), (some 4), none, [], []⟩] (σ.kills []) K := rfl
theorem e_r46Node_15 (C : FuncId → List AV → AV → Prop) (σ : St) (K : St → Prop) : runReg C r_r46Node_15 σ K = runOps C [⟨(.mv (.t 3)), (some 83), none, [87], []⟩, ⟨(.faddr 8 (.t 1)), (some 84), none, [87], []⟩, ⟨(.load 1 false (.t 84)), (some 85), none, [87], []⟩, ⟨(.len false (.t 85)), (some 86), none, [87], []⟩, ⟨(.callv (.c (.clo 42 [] [])) [(.t 86)]), (some 87), none, [], []⟩, ⟨(.bin .add (.c (.str ⟨#[32, 58, 32, 109, 115, 103, 115, 32]⟩)) (.t 87)), (some 88), none, [], []⟩, ⟨(.bin .add (.t 83) (.t 88)), (some 89), none, [], []⟩, ⟨(.mv (.t 89)), (some 3), none, [], []⟩] (σ.kills [87]) K := rfl
theorem e_r46Node_16 (C : FuncId → List AV → AV → Prop) (σ : St) (K : St → Prop) : runReg C r_r46Node_16 σ K = runOps C [⟨(.mv (.c (.int .i64 0))), (some 5), none, [], []⟩] (σ.kills []) K := rfl
theorem e_r46Node_17 (C : FuncId → List AV → AV → Prop) (σ : St) (K : St → Prop) : runReg C r_r46Node_17 σ K = runOps C [⟨(.mv (.t 5)), (some 90), none, [], []⟩, ⟨(.faddr 8 (.t 1)), (some 91), none, [], []⟩, ⟨(.load 1 false (.t 91)), (some 92), none, [], []⟩, ⟨(.len false (.t 92)), (some 93), none, [], []⟩, ⟨(.bin .lss (.t 90) (.t 93)), (some 94), none, [], []⟩] (σ.kills []) K := rfl
theorem e_r46Node_18 (C : FuncId → List AV → AV → Prop) (σ : St) (K : St → Prop) : runReg C r_r46Node_18 σ K = runOps C [⟨(.mv (.t 3)), (some 97), none, [103], []⟩, ⟨(.faddr 8 (.t 1)), (some 98), none, [103], []⟩, ⟨(.load 1 false (.t 98)), (some 99), none, [103], []⟩, ⟨(.mv (.t 5)), (some 100), none, [103], []⟩, ⟨(.iaddr 6 (.t 99) (.t 100)), (some 101), none, [103], []⟩, ⟨(.load 6 true (.t 101)), (some 102), none, [103], []⟩, ⟨(.callv (.c (.clo 37 [] [])) [(.t 102)]), (some 103), none, [], []⟩, ⟨(.bin .add (.c (.str ⟨#[32, 44, 32]⟩)) (.t 103)), (some 104), none, [], []⟩, ⟨(.bin .add (.t 97) (.t 104)), (some 105), none, [], []⟩, ⟨(.mv (.t 105)), (some 3), none, [], []⟩] (σ.kills [103]) K := rfl
theorem e_r46Node_19 (C : FuncId → List AV → AV → Prop) (σ : St) (K : St → Prop) : runReg C r_r46Node_19 σ K = runOps C [⟨(.mv (.t 5)), (some 95), none, [], []⟩, ⟨(.bin .add (.t 95) (.c (.int .i64 1))), (some 96), none, [], []⟩, ⟨(.mv (.t 96)), (some 5), none, [], []⟩] (σ.kills []) K := rfl
theorem e_r46Node_21 (C : FuncId → List AV → AV → Prop) (σ : St) (K : St → Prop) : runReg C r_r46Node_21 σ K = runOps C [⟨(.mv (.t 3)), (some 106), none, [], []⟩, ⟨(.mv (.t 106)), (some 2), none, [], []⟩] (σ.kills []) K := rfl
theorem fn_r46Node {args : List AV} {r : AV} (ha : args.length.ble Tryd.f33.ntmps = true) (h : run (AFn Tryd.prog) ir_r46Node (endQ res_r46Node r) (initSt args)) : AFn Tryd.prog 33 args r :=
  AFn.of_code (hint := fun _ => []) (c := Tryd.f33.body.getD .skip) (by kernel_rfl) (by kernel_rfl) Tryd.func33 (by kernel_rfl) (by kernel_rfl) (by kernel_rfl) (of_decide_eq_true (by kernel_rfl)) (Nat.le_of_ble_eq_true ha) (Nat.le_of_ble_eq_true (by kernel_rfl)) (run_ok h)

attribute [local go_sem ↓] ir_r46Pairs
attribute [local go_sem] res_r46Pairs e_r46Pairs_0 e_r46Pairs_1 e_r46Pairs_2 e_r46Pairs_3 e_r46Pairs_4 e_r46Pairs_5 e_r46Pairs_7
attribute [local go_sem ↓] ir_r46Msg
attribute [local go_sem] res_r46Msg e_r46Msg_0 e_r46Msg_1 e_r46Msg_2 e_r46Msg_3 e_r46Msg_4 e_r46Msg_5 e_r46Msg_6 e_r46Msg_7 e_r46Msg_8 e_r46Msg_9 e_r46Msg_10 e_r46Msg_11 e_r46Msg_12 e_r46Msg_13
attribute [local go_sem ↓] ir_r46Hold
attribute [local go_sem] res_r46Hold e_r46Hold_0 e_r46Hold_1 e_r46Hold_2 e_r46Hold_3
attribute [local go_sem ↓] ir_r46Node
attribute [local go_sem] res_r46Node e_r46Node_0 e_r46Node_1 e_r46Node_2 e_r46Node_3 e_r46Node_4 e_r46Node_5 e_r46Node_6 e_r46Node_7 e_r46Node_8 e_r46Node_9 e_r46Node_10 e_r46Node_11 e_r46Node_12 e_r46Node_13 e_r46Node_15 e_r46Node_16 e_r46Node_17 e_r46Node_18 e_r46Node_19 e_r46Node_21

theorem zz1 (a : UInt8) : (#[a] : Array UInt8).size = 1 := rfl
def rpInv (l : List Par) (k : Nat) (σ : St) : Prop :=
  ∃ j : Nat, j ≤ l.length ∧ k = l.length - j ∧ σ.T 0 = .sl (l.map Par.a) ∧ σ.T 4 = .int .i64 j ∧ σ.T 3 = .str (decS l.length ++ catF (fun p => (⟨#[32]⟩ : ByteArray) ++ p.w) (l.take j))
theorem r46Pairs_ok (l : List Par) (hl : l.length ≤ 2000) (hs : ∀ p, p ∈ l → p.key.size ≤ 2000 ∧ p.val.size ≤ 2000) : AFn Tryd.prog 39 [.sl (l.map Par.a)] (.str (pairsF l)) := by
  refine fn_r46Pairs rfl ?_
  have d1 := decS_small l.length (by omega) (by omega)
  have c1 := rDec_ok l.length ⟨by omega, by omega⟩
  (repeat (first | simp (maxSteps := 4000000) only [go_sem, ↓reduceIte, reduceCtorEq, Nat.reduceEqDiff, Nat.reduceBEq, Nat.reduceAdd, Nat.reduceSub, Nat.reduceMul, Nat.reduceLT, Nat.reduceLeDiff, Nat.reduceBNe, Int.reduceBEq, Int.reduceBNe, Int.reduceLT, Int.reduceLE, Msg.a, Par.a, Hld.a, Nd.a, List.length_map] | refine calling (c1) ?_ | refine callingH (c1) ?_ | refine And.intro (by omega) ?_ | refine And.intro (fun d hd => by (repeat (rcases hd with rfl | hd; · exact ⟨rfl, rfl⟩)); cases hd) ?_))
  refine run_loop (rpInv l) (k := l.length) ⟨0, by omega, rfl, ?_, ?_, ?_⟩ ?_
  · simp (maxSteps := 4000000) only [go_sem, ↓reduceIte, reduceCtorEq, Nat.reduceEqDiff, Nat.reduceBEq, Nat.reduceAdd, Nat.reduceSub, Nat.reduceMul, Nat.reduceLT, Nat.reduceLeDiff, Nat.reduceBNe, Int.reduceBEq, Int.reduceBNe, Int.reduceLT, Int.reduceLE, Msg.a, Par.a, Hld.a, Nd.a]
  · simp (maxSteps := 4000000) only [go_sem, ↓reduceIte, reduceCtorEq, Nat.reduceEqDiff, Nat.reduceBEq, Nat.reduceAdd, Nat.reduceSub, Nat.reduceMul, Nat.reduceLT, Nat.reduceLeDiff, Nat.reduceBNe, Int.reduceBEq, Int.reduceBNe, Int.reduceLT, Int.reduceLE, Msg.a, Par.a, Hld.a, Nd.a]
    rfl
  · simp (maxSteps := 4000000) only [go_sem, ↓reduceIte, reduceCtorEq, Nat.reduceEqDiff, Nat.reduceBEq, Nat.reduceAdd, Nat.reduceSub, Nat.reduceMul, Nat.reduceLT, Nat.reduceLeDiff, Nat.reduceBNe, Int.reduceBEq, Int.reduceBNe, Int.reduceLT, Int.reduceLE, Msg.a, Par.a, Hld.a, Nd.a, List.take_zero, catF, ba_nil]
  rintro k σ ⟨j, hj, rfl, t0, t4, t3⟩
  simp only [r_r46Pairs_l6]
  have hcs := catF_take_size (fun p : Par => (⟨#[32]⟩ : ByteArray) ++ p.w) 12011 l j (fun p hp => by
    have := parW_size (hs p hp).1 (hs p hp).2
    have e : (⟨#[32]⟩ : ByteArray).size = 1 := rfl
    show (_ ++ _ : ByteArray).size ≤ _
    rw [ByteArray.size_append, e]; omega)
  have h2 : l.length * 12011 ≤ 2000 * 12011 := Nat.mul_le_mul_right _ hl
  by_cases hlt : j < l.length
  · have hlt' : (j : Int) < (l.length : Int) := by omega
    obtain ⟨x, hx⟩ := get_lt hlt
    have hgj := at_map (f := Par.a) hx
    simp only [Par.a] at hgj
    have hw := wrapS (j := j) (by omega)
    obtain ⟨s1, s2⟩ := hs x (List.mem_of_getElem? hx)
    have q1 := quoteF_size x.key
    have q2 := quoteF_size x.val
    have c2 := rQuote_ok x.key (by omega)
    have c3 := rQuote_ok x.val (by omega)
    have hn : decS l.length ++ catF (fun p => (⟨#[32]⟩ : ByteArray) ++ p.w) (l.take j) ++ ((⟨#[32]⟩ : ByteArray) ++ quoteF x.key ++ (⟨#[61]⟩ : ByteArray) ++ quoteF x.val) = decS l.length ++ catF (fun p => (⟨#[32]⟩ : ByteArray) ++ p.w) (l.take (j + 1)) := by
      rw [take_at hx, catF_snoc]
      unfold Par.w
      simp only [ba_assoc]
    (repeat (first | simp (maxSteps := 4000000) only [go_sem, ↓reduceIte, reduceCtorEq, Nat.reduceEqDiff, Nat.reduceBEq, Nat.reduceAdd, Nat.reduceSub, Nat.reduceMul, Nat.reduceLT, Nat.reduceLeDiff, Nat.reduceBNe, Int.reduceBEq, Int.reduceBNe, Int.reduceLT, Int.reduceLE, Msg.a, Par.a, Hld.a, Nd.a, t0, t4, t3, hlt', hgj, List.length_map, Int.toNat_natCast, zz1, ByteArray.size_append] | refine calling (c2) ?_ | refine callingH (c2) ?_ | refine calling (c3) ?_ | refine callingH (c3) ?_ | refine And.intro (by omega) ?_ | refine And.intro (fun d hd => by (repeat (rcases hd with rfl | hd; · exact ⟨rfl, rfl⟩)); cases hd) ?_))
    refine ⟨l.length - (j + 1), by omega, j + 1, by omega, rfl, ?_, ?_, ?_⟩ <;>
      (simp (maxSteps := 4000000) only [go_sem, ↓reduceIte, reduceCtorEq, Nat.reduceEqDiff, Nat.reduceBEq, Nat.reduceAdd, Nat.reduceSub, Nat.reduceMul, Nat.reduceLT, Nat.reduceLeDiff, Nat.reduceBNe, Int.reduceBEq, Int.reduceBNe, Int.reduceLT, Int.reduceLE, Msg.a, Par.a, Hld.a, Nd.a, t0, t4, t3, hw, hn])
  · have hlt' : ¬ (j : Int) < (l.length : Int) := by omega
    obtain rfl : j = l.length := by omega
    unfold pairsF
    simp (maxSteps := 4000000) only [go_sem, ↓reduceIte, reduceCtorEq, Nat.reduceEqDiff, Nat.reduceBEq, Nat.reduceAdd, Nat.reduceSub, Nat.reduceMul, Nat.reduceLT, Nat.reduceLeDiff, Nat.reduceBNe, Int.reduceBEq, Int.reduceBNe, Int.reduceLT, Int.reduceLE, Msg.a, Par.a, Hld.a, Nd.a, t0, t4, t3, hlt', List.take_length, List.length_map]
theorem r46Hold_ok (h : Hld) (ok : h.ok) : AFn Tryd.prog 35 [h.a] (.str h.line) := by
  refine fn_r46Hold rfl ?_
  have d1 := decS_small h.thread ok.thread.1 ok.thread.2
  have d2 := decS_small h.slot ok.slot.1 ok.slot.2
  have c1 := rDec_ok h.thread ok.thread
  have c2 := rDec_ok h.slot ok.slot
  obtain ⟨th, sl, wr⟩ := h
  unfold Hld.line
  simp only at d1 d2 c1 c2 ⊢
  have z6 : ∀ a b c d e f : UInt8, (#[a, b, c, d, e, f] : Array UInt8).size = 6 := fun _ _ _ _ _ _ => rfl
  have z5 : ∀ a b c d e : UInt8, (#[a, b, c, d, e] : Array UInt8).size = 5 := fun _ _ _ _ _ => rfl
  cases wr with
  | true =>
    have e : joinB [decS th, decS sl, (⟨#[119, 114, 105, 116, 101]⟩ : ByteArray)] (⟨#[32]⟩ : ByteArray) = decS th ++ (⟨#[32]⟩ : ByteArray) ++ decS sl ++ (⟨#[32, 119, 114, 105, 116, 101]⟩ : ByteArray) := by
      rw [joinB3]; rfl
    simp only [if_true]
    rw [e]
    (repeat (first | simp (maxSteps := 4000000) only [go_sem, ↓reduceIte, reduceCtorEq, Nat.reduceEqDiff, Nat.reduceBEq, Nat.reduceAdd, Nat.reduceSub, Nat.reduceMul, Nat.reduceLT, Nat.reduceLeDiff, Nat.reduceBNe, Int.reduceBEq, Int.reduceBNe, Int.reduceLT, Int.reduceLE, Msg.a, Par.a, Hld.a, Nd.a, zz1, z6, z5, ByteArray.size_append] | refine calling (c1) ?_ | refine callingH (c1) ?_ | refine calling (c2) ?_ | refine callingH (c2) ?_ | refine And.intro (by omega) ?_ | refine And.intro (fun d hd => by (repeat (rcases hd with rfl | hd; · exact ⟨rfl, rfl⟩)); cases hd) ?_))
    all_goals omega
  | false =>
    have e : joinB [decS th, decS sl, (⟨#[114, 101, 97, 100]⟩ : ByteArray)] (⟨#[32]⟩ : ByteArray) = decS th ++ (⟨#[32]⟩ : ByteArray) ++ decS sl ++ (⟨#[32, 114, 101, 97, 100]⟩ : ByteArray) := by
      rw [joinB3]; rfl
    simp only [Bool.false_eq_true, if_false]
    rw [e]
    (repeat (first | simp (maxSteps := 4000000) only [go_sem, ↓reduceIte, reduceCtorEq, Nat.reduceEqDiff, Nat.reduceBEq, Nat.reduceAdd, Nat.reduceSub, Nat.reduceMul, Nat.reduceLT, Nat.reduceLeDiff, Nat.reduceBNe, Int.reduceBEq, Int.reduceBNe, Int.reduceLT, Int.reduceLE, Msg.a, Par.a, Hld.a, Nd.a, zz1, z6, z5, ByteArray.size_append] | refine calling (c1) ?_ | refine callingH (c1) ?_ | refine calling (c2) ?_ | refine callingH (c2) ?_ | refine And.intro (by omega) ?_ | refine And.intro (fun d hd => by (repeat (rcases hd with rfl | hd; · exact ⟨rfl, rfl⟩)); cases hd) ?_))
    all_goals omega
set_option maxHeartbeats 2000000 in
theorem r46Msg_ok (m : Msg) (hs : -9223372036854775808 ≤ m.stamp ∧ m.stamp ≤ 9223372036854775807) (h1 : m.key.size ≤ 2000) (h2 : m.hi.size ≤ 2000) (h3 : m.val.size ≤ 2000) : AFn Tryd.prog 37 [m.a] (.str m.line) := by
  refine fn_r46Msg rfl ?_
  have d1 := decS_small m.stamp hs.1 hs.2
  have q1 := quoteF_size m.key
  have q2 := quoteF_size m.hi
  have q3 := quoteF_size m.val
  have c1 := rDec_ok m.stamp hs
  have c2 := rQuote_ok m.key (by omega)
  have c3 := rQuote_ok m.hi (by omega)
  have c4 := rQuote_ok m.val (by omega)
  obtain ⟨stamp, kind, key, hi, op, val⟩ := m
  have z6 : ∀ a b c d e f : UInt8, (#[a, b, c, d, e, f] : Array UInt8).size = 6 := fun _ _ _ _ _ _ => rfl
  have z5 : ∀ a b c d e : UInt8, (#[a, b, c, d, e] : Array UInt8).size = 5 := fun _ _ _ _ _ => rfl
  have z2 : ∀ a b : UInt8, (#[a, b] : Array UInt8).size = 2 := fun _ _ => rfl
  unfold Msg.line Msg.word Msg.rest
  simp only at d1 q1 q2 q3 c1 c2 c3 c4 h1 h2 h3 ⊢
  by_cases hk : kind = 1 ∨ kind = 2 ∨ kind = 3 ∨ kind = 4
  case neg =>
    have e1 : kind ≠ 1 := fun e => hk (by omega)
    have e2 : kind ≠ 2 := fun e => hk (by omega)
    have e3 : kind ≠ 3 := fun e => hk (by omega)
    have e4 : kind ≠ 4 := fun e => hk (by omega)
    have b1 : (kind == 1) = false := by simp [e1]
    have b2 : (kind == 2) = false := by simp [e2]
    have b3 : (kind == 3) = false := by simp [e3]
    have b4 : (kind == 4) = false := by simp [e4]
    simp only [e1, e2, e3, e4, if_false, or_self, List.cons_append, List.nil_append]
    have e : joinB [decS stamp, (⟨#[107, 105, 110, 100]⟩ : ByteArray), quoteF key] (⟨#[32]⟩ : ByteArray) = decS stamp ++ (⟨#[32, 107, 105, 110, 100, 32]⟩ : ByteArray) ++ quoteF key := by
      rw [joinB3, show (⟨#[32, 107, 105, 110, 100, 32]⟩ : ByteArray) = (⟨#[32]⟩ : ByteArray) ++ (⟨#[107, 105, 110, 100]⟩ : ByteArray) ++ (⟨#[32]⟩ : ByteArray) by decide +kernel]; simp only [ba_assoc]
    rw [e]
    (repeat (first | simp (maxSteps := 4000000) only [go_sem, ↓reduceIte, reduceCtorEq, Nat.reduceEqDiff, Nat.reduceBEq, Nat.reduceAdd, Nat.reduceSub, Nat.reduceMul, Nat.reduceLT, Nat.reduceLeDiff, Nat.reduceBNe, Int.reduceBEq, Int.reduceBNe, Int.reduceLT, Int.reduceLE, Msg.a, Par.a, Hld.a, Nd.a, b1, b2, b3, b4, zz1, z2, z5, z6, ByteArray.size_append] | refine calling (c1) ?_ | refine callingH (c1) ?_ | refine calling (c2) ?_ | refine callingH (c2) ?_ | refine calling (c3) ?_ | refine callingH (c3) ?_ | refine calling (c4) ?_ | refine callingH (c4) ?_ | refine And.intro (by omega) ?_ | refine And.intro (fun d hd => by (repeat (rcases hd with rfl | hd; · exact ⟨rfl, rfl⟩)); cases hd) ?_))
    all_goals omega
  rcases hk with rfl | rfl | rfl | rfl
  · have e : joinB ([decS stamp, (⟨#[112, 117, 116]⟩ : ByteArray), quoteF key] ++ [quoteF val]) (⟨#[32]⟩ : ByteArray) = decS stamp ++ (⟨#[32, 112, 117, 116, 32]⟩ : ByteArray) ++ quoteF key ++ (⟨#[32]⟩ : ByteArray) ++ quoteF val := by
      show joinB [decS stamp, (⟨#[112, 117, 116]⟩ : ByteArray), quoteF key, quoteF val] (⟨#[32]⟩ : ByteArray) = _
      rw [joinB4, show (⟨#[32, 112, 117, 116, 32]⟩ : ByteArray) = (⟨#[32]⟩ : ByteArray) ++ (⟨#[112, 117, 116]⟩ : ByteArray) ++ (⟨#[32]⟩ : ByteArray) by decide +kernel]; simp only [ba_assoc]
    show run _ _ (endQ _ (AV.str (joinB ([decS stamp, (⟨#[112, 117, 116]⟩ : ByteArray), quoteF key] ++ [quoteF val]) (⟨#[32]⟩ : ByteArray)))) _
    rw [e]
    (repeat (first | simp (maxSteps := 4000000) only [go_sem, ↓reduceIte, reduceCtorEq, Nat.reduceEqDiff, Nat.reduceBEq, Nat.reduceAdd, Nat.reduceSub, Nat.reduceMul, Nat.reduceLT, Nat.reduceLeDiff, Nat.reduceBNe, Int.reduceBEq, Int.reduceBNe, Int.reduceLT, Int.reduceLE, Msg.a, Par.a, Hld.a, Nd.a, zz1, z2, z5, z6, ByteArray.size_append] | refine calling (c1) ?_ | refine callingH (c1) ?_ | refine calling (c2) ?_ | refine callingH (c2) ?_ | refine calling (c3) ?_ | refine callingH (c3) ?_ | refine calling (c4) ?_ | refine callingH (c4) ?_ | refine And.intro (by omega) ?_ | refine And.intro (fun d hd => by (repeat (rcases hd with rfl | hd; · exact ⟨rfl, rfl⟩)); cases hd) ?_))
    all_goals omega
  · have e : joinB ([decS stamp, (⟨#[97, 100, 100]⟩ : ByteArray), quoteF key] ++ [quoteF val]) (⟨#[32]⟩ : ByteArray) = decS stamp ++ (⟨#[32, 97, 100, 100, 32]⟩ : ByteArray) ++ quoteF key ++ (⟨#[32]⟩ : ByteArray) ++ quoteF val := by
      show joinB [decS stamp, (⟨#[97, 100, 100]⟩ : ByteArray), quoteF key, quoteF val] (⟨#[32]⟩ : ByteArray) = _
      rw [joinB4, show (⟨#[32, 97, 100, 100, 32]⟩ : ByteArray) = (⟨#[32]⟩ : ByteArray) ++ (⟨#[97, 100, 100]⟩ : ByteArray) ++ (⟨#[32]⟩ : ByteArray) by decide +kernel]; simp only [ba_assoc]
    show run _ _ (endQ _ (AV.str (joinB ([decS stamp, (⟨#[97, 100, 100]⟩ : ByteArray), quoteF key] ++ [quoteF val]) (⟨#[32]⟩ : ByteArray)))) _
    rw [e]
    (repeat (first | simp (maxSteps := 4000000) only [go_sem, ↓reduceIte, reduceCtorEq, Nat.reduceEqDiff, Nat.reduceBEq, Nat.reduceAdd, Nat.reduceSub, Nat.reduceMul, Nat.reduceLT, Nat.reduceLeDiff, Nat.reduceBNe, Int.reduceBEq, Int.reduceBNe, Int.reduceLT, Int.reduceLE, Msg.a, Par.a, Hld.a, Nd.a, zz1, z2, z5, z6, ByteArray.size_append] | refine calling (c1) ?_ | refine callingH (c1) ?_ | refine calling (c2) ?_ | refine callingH (c2) ?_ | refine calling (c3) ?_ | refine callingH (c3) ?_ | refine calling (c4) ?_ | refine callingH (c4) ?_ | refine And.intro (by omega) ?_ | refine And.intro (fun d hd => by (repeat (rcases hd with rfl | hd; · exact ⟨rfl, rfl⟩)); cases hd) ?_))
    all_goals omega
  · have e : joinB [decS stamp, (⟨#[100, 101, 108]⟩ : ByteArray), quoteF key] (⟨#[32]⟩ : ByteArray) = decS stamp ++ (⟨#[32, 100, 101, 108, 32]⟩ : ByteArray) ++ quoteF key := by
      rw [joinB3, show (⟨#[32, 100, 101, 108, 32]⟩ : ByteArray) = (⟨#[32]⟩ : ByteArray) ++ (⟨#[100, 101, 108]⟩ : ByteArray) ++ (⟨#[32]⟩ : ByteArray) by decide +kernel]; simp only [ba_assoc]
    show run _ _ (endQ _ (AV.str (joinB [decS stamp, (⟨#[100, 101, 108]⟩ : ByteArray), quoteF key] (⟨#[32]⟩ : ByteArray)))) _
    rw [e]
    (repeat (first | simp (maxSteps := 4000000) only [go_sem, ↓reduceIte, reduceCtorEq, Nat.reduceEqDiff, Nat.reduceBEq, Nat.reduceAdd, Nat.reduceSub, Nat.reduceMul, Nat.reduceLT, Nat.reduceLeDiff, Nat.reduceBNe, Int.reduceBEq, Int.reduceBNe, Int.reduceLT, Int.reduceLE, Msg.a, Par.a, Hld.a, Nd.a, zz1, z2, z5, z6, ByteArray.size_append] | refine calling (c1) ?_ | refine callingH (c1) ?_ | refine calling (c2) ?_ | refine callingH (c2) ?_ | refine calling (c3) ?_ | refine callingH (c3) ?_ | refine calling (c4) ?_ | refine callingH (c4) ?_ | refine And.intro (by omega) ?_ | refine And.intro (fun d hd => by (repeat (rcases hd with rfl | hd; · exact ⟨rfl, rfl⟩)); cases hd) ?_))
    all_goals omega
  · cases op with
    | true =>
      have e : joinB [decS stamp, (⟨#[119, 105, 112, 101]⟩ : ByteArray), quoteF key, (⟨#[42]⟩ : ByteArray)] (⟨#[32]⟩ : ByteArray) = decS stamp ++ (⟨#[32, 119, 105, 112, 101, 32]⟩ : ByteArray) ++ quoteF key ++ (⟨#[32, 42]⟩ : ByteArray) := by
        rw [joinB4, show (⟨#[32, 119, 105, 112, 101, 32]⟩ : ByteArray) = (⟨#[32]⟩ : ByteArray) ++ (⟨#[119, 105, 112, 101]⟩ : ByteArray) ++ (⟨#[32]⟩ : ByteArray) by decide +kernel, show (⟨#[32, 42]⟩ : ByteArray) = (⟨#[32]⟩ : ByteArray) ++ (⟨#[42]⟩ : ByteArray) by decide +kernel]; simp only [ba_assoc]
      show run _ _ (endQ _ (AV.str (joinB [decS stamp, (⟨#[119, 105, 112, 101]⟩ : ByteArray), quoteF key, (⟨#[42]⟩ : ByteArray)] (⟨#[32]⟩ : ByteArray)))) _
      rw [e]
      (repeat (first | simp (maxSteps := 4000000) only [go_sem, ↓reduceIte, reduceCtorEq, Nat.reduceEqDiff, Nat.reduceBEq, Nat.reduceAdd, Nat.reduceSub, Nat.reduceMul, Nat.reduceLT, Nat.reduceLeDiff, Nat.reduceBNe, Int.reduceBEq, Int.reduceBNe, Int.reduceLT, Int.reduceLE, Msg.a, Par.a, Hld.a, Nd.a, zz1, z2, z5, z6, ByteArray.size_append] | refine calling (c1) ?_ | refine callingH (c1) ?_ | refine calling (c2) ?_ | refine callingH (c2) ?_ | refine calling (c3) ?_ | refine callingH (c3) ?_ | refine calling (c4) ?_ | refine callingH (c4) ?_ | refine And.intro (by omega) ?_ | refine And.intro (fun d hd => by (repeat (rcases hd with rfl | hd; · exact ⟨rfl, rfl⟩)); cases hd) ?_))
      all_goals omega
    | false =>
      have e : joinB [decS stamp, (⟨#[119, 105, 112, 101]⟩ : ByteArray), quoteF key, quoteF hi] (⟨#[32]⟩ : ByteArray) = decS stamp ++ (⟨#[32, 119, 105, 112, 101, 32]⟩ : ByteArray) ++ quoteF key ++ (⟨#[32]⟩ : ByteArray) ++ quoteF hi := by
        rw [joinB4, show (⟨#[32, 119, 105, 112, 101, 32]⟩ : ByteArray) = (⟨#[32]⟩ : ByteArray) ++ (⟨#[119, 105, 112, 101]⟩ : ByteArray) ++ (⟨#[32]⟩ : ByteArray) by decide +kernel]; simp only [ba_assoc]
      show run _ _ (endQ _ (AV.str (joinB [decS stamp, (⟨#[119, 105, 112, 101]⟩ : ByteArray), quoteF key, quoteF hi] (⟨#[32]⟩ : ByteArray)))) _
      rw [e]
      (repeat (first | simp (maxSteps := 4000000) only [go_sem, ↓reduceIte, reduceCtorEq, Nat.reduceEqDiff, Nat.reduceBEq, Nat.reduceAdd, Nat.reduceSub, Nat.reduceMul, Nat.reduceLT, Nat.reduceLeDiff, Nat.reduceBNe, Int.reduceBEq, Int.reduceBNe, Int.reduceLT, Int.reduceLE, Msg.a, Par.a, Hld.a, Nd.a, zz1, z2, z5, z6, ByteArray.size_append] | refine calling (c1) ?_ | refine callingH (c1) ?_ | refine calling (c2) ?_ | refine callingH (c2) ?_ | refine calling (c3) ?_ | refine callingH (c3) ?_ | refine calling (c4) ?_ | refine callingH (c4) ?_ | refine And.intro (by omega) ?_ | refine And.intro (fun d hd => by (repeat (rcases hd with rfl | hd; · exact ⟨rfl, rfl⟩)); cases hd) ?_))
      all_goals omega
end Go.Proofs.YtkdbphhekpdmhaaDoor
