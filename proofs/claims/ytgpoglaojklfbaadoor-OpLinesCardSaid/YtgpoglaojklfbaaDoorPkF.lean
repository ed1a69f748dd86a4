/-
  The chapter's examples of layer 6, and the law PackTexts.
-/
import Derived.Test.YtgpoglaojklfbaaDoorPkE
namespace Go.Proofs.YtgpoglaojklfbaaDoor
open Go.RowKit
set_option linter.unusedVariables false
set_option linter.unusedSimpArgs false
set_option maxRecDepth 100000
attribute [local go_sem ↓] runOp headOp
attribute [local go_sem] ev0 ev1 ev2 ev3 ev4 evA stHOk.eq_1 stHOk.eq_2 stHSt.eq_1 stHSt.eq_2 okV valV fzV okF valF okBld valBld mxOk.eq_1 mxOk.eq_2 mxVal.eq_1 mxVal.eq_2 cellFit.eq_1 cellFit.eq_2 cellFit.eq_3 cellEq.eq_1 cellEq.eq_2 cellEq.eq_3 upd_at AV.flatB AV.flatBs binIok binIV binSok binSV cellsOk.eq_1 cellsOk.eq_2 cellsVal.eq_1 cellsVal.eq_2 objCells.eq_1 objCells.eq_2 objZ.eq_1 objZ.eq_2 objProt.eq_1 objProt.eq_2 oneObj ptrOk.eq_1 ptrOk.eq_2 ptrOk.eq_3 ptrCells.eq_1 ptrCells.eq_2 ptrCells.eq_3 lenOk.eq_1 lenOk.eq_2 lenOk.eq_3 lenOk.eq_4 lenVal.eq_1 lenVal.eq_2 lenVal.eq_3 lenVal.eq_4 faOk.eq_1 faOk.eq_2 faOk.eq_3 faVal.eq_1 faVal.eq_2 faVal.eq_3 iaOk.eq_1 iaOk.eq_2 iaOk.eq_3 iaVal.eq_1 iaVal.eq_2 iaVal.eq_3 slcLen.eq_1 slcLen.eq_2 slcLen.eq_3 slcLen.eq_4 bdOk.eq_1 bdOk.eq_2 bdVal.eq_1 bdVal.eq_2 slcOk.eq_1 slcOk.eq_2 slcOk.eq_3 slcOk.eq_4 slcVal.eq_1 slcVal.eq_2 slcVal.eq_3 slcVal.eq_4 slcFz.eq_1 slcFz.eq_2 byOk.eq_1 byOk.eq_2 byOk.eq_3 byOk.eq_4 byOk.eq_5 byOk.eq_6 byVal.eq_1 byVal.eq_2 byVal.eq_3 byFz.eq_1 byFz.eq_2 byFz.eq_3 byOks byVals byFzs allOne resSt.eq_1 resSt.eq_2 resName.eq_1 resName.eq_2 stOk.eq_1 stOk.eq_2 stArr.eq_1 stArr.eq_2 stSt.eq_1 stSt.eq_2 AV.patch nameOk_none gB.eq_1 gB.eq_2 gB.eq_3 gIs.eq_1 gIs.eq_2 gIs.eq_3 retV resV resVs evalV cellsV St.byval List.getD_cons_zero List.getD_cons_succ List.getD_nil List.map_cons List.map_nil List.length_cons List.length_nil List.take_succ_cons List.take_zero List.drop_succ_cons List.drop_zero List.headD_cons List.set_cons_zero List.append_nil List.nil_append List.cons_append List.contains_cons List.contains_nil List.elem_cons List.elem_nil List.all_cons List.all_nil List.getElem?_cons_zero List.getElem?_cons_succ List.filterMap_cons List.filterMap_nil Option.isSome_some Option.isSome_none Option.map_some Option.map_none Option.some.injEq AV.int.injEq AV.bool.injEq AV.str.injEq AV.tup.injEq AV.agg.injEq AV.sl.injEq List.cons.injEq Bool.false_eq_true Bool.true_eq_false Bool.not_true Bool.not_false Bool.and_true Bool.true_and Bool.or_false Bool.or_true Bool.false_or Bool.true_or Bool.or_self Bool.and_self Bool.not_eq_true' Bool.not_eq_false' Bool.not_not beq_self_eq_true true_and and_true false_and and_false and_self not_true_eq_false not_false_eq_true forall_const true_implies false_implies implies_true imp_self Nat.lt_add_one Nat.le_refl Nat.zero_le Nat.add_zero Nat.zero_add decide_true decide_false decide_eq_true_eq decide_eq_false_iff_not exists_eq_left exists_eq_left' ge_iff_le gt_iff_lt ite_branch ite_branch' nilOk.eq_1 nilOk.eq_2 nilMay.eq_1 nilMay.eq_2 AV.isSl.eq_1 objTy'.eq_1 objTy'.eq_2 apSt.eq_1 apArr.eq_1 apArr.eq_2 slOf.eq_1 fitsV List.mem_cons List.not_mem_nil Bool.false_and Bool.and_false primOk.eq_1 primOk.eq_2 primOk.eq_3 primOk.eq_4 primOk.eq_5 primVal.eq_1 primVal.eq_2 primVal.eq_3 primVal.eq_4 primVal.eq_5 mOk.eq_1 mOk.eq_2 mVal.eq_1 mVal.eq_2 mFz.eq_1 mFz.eq_2 mOks mVals mFzs mCalOk.eq_1 mCalOk.eq_2 mFn.eq_1 mFn.eq_2 mArgs.eq_1 mArgs.eq_2 ckOk.eq_1 ckOk.eq_2 cloOk.eq_1 ptrAt.eq_1 sh.eq_1 sh.eq_2 sh.eq_3 sh.eq_4 retM shH_small
/-! ### percolate/percolatelaw06.awake -/
def r_aw_0 : Reg := ⟨[], [⟨(.mv (.c (.bool false))), (some 0), none, [], []⟩], [], [], false⟩
def r_aw_1 : Reg := ⟨[], [⟨(.callv (.c (.clo 12 [] [])) [(.c (.str ⟨#[97, 37, 50]⟩))]), (some 6), none, [], []⟩, ⟨(.mv (.t 6)), (some 5), none, [], []⟩, ⟨(.ext 0 (.t 5)), (some 7), none, [], []⟩, ⟨(.ext 1 (.t 5)), (some 8), none, [], []⟩, ⟨(.mv (.t 7)), (some 1), none, [], []⟩, ⟨(.mv (.t 8)), (some 2), none, [], []⟩], [6], [], false⟩
def r_aw_2 : Reg := ⟨[], [⟨(.callv (.c (.clo 27 [] [])) [(.c (.str ⟨#[48, 48, 55]⟩))]), (some 10), none, [], []⟩, ⟨(.mv (.t 10)), (some 9), none, [], []⟩, ⟨(.ext 0 (.t 9)), (some 11), none, [], []⟩, ⟨(.ext 1 (.t 9)), (some 12), none, [], []⟩, ⟨(.mv (.t 11)), (some 3), none, [], []⟩, ⟨(.mv (.t 12)), (some 4), none, [], []⟩], [10], [], false⟩
def r_aw_3 : Reg := ⟨[], [⟨(.callv (.c (.clo 11 [] [])) [(.c (.str ⟨#[97, 32, 98]⟩))]), (some 13), none, [24], []⟩, ⟨(.bin .eql (.t 13) (.c (.str ⟨#[97, 37, 50, 48, 98]⟩))), (some 14), none, [24], []⟩, ⟨(.mv (.t 14)), (some 15), none, [24], []⟩, ⟨(.mv (.t 2)), (some 16), (some (15, true)), [24], []⟩, ⟨(.un .not (.t 16)), (some 17), (some (15, true)), [24], []⟩, ⟨(.pick (.t 15) (.t 17) (.c (.bool false))), (some 18), none, [24], []⟩, ⟨(.mv (.t 18)), (some 19), none, [24], []⟩, ⟨(.mv (.t 4)), (some 20), (some (19, true)), [24], []⟩, ⟨(.un .not (.t 20)), (some 21), (some (19, true)), [24], []⟩, ⟨(.pick (.t 19) (.t 21) (.c (.bool false))), (some 22), none, [24], []⟩, ⟨(.mv (.t 22)), (some 23), none, [24], []⟩, ⟨(.callv (.c (.clo 16 [] [])) [(.c (.str ⟨#[97, 32, 32, 98]⟩))]), (some 24), (some (23, true)), [], []⟩, ⟨(.len false (.t 24)), (some 25), (some (23, true)), [], []⟩, ⟨(.bin .eql (.t 25) (.c (.int .i64 3))), (some 26), (some (23, true)), [], []⟩, ⟨(.pick (.t 23) (.t 26) (.c (.bool false))), (some 27), none, [], []⟩, ⟨(.mv (.t 27)), (some 0), none, [], []⟩], [13, 24], [], false⟩
def ir_aw : IR := (.seq (.reg r_aw_0)
  (.seq (.reg r_aw_1)
  (.seq (.reg r_aw_2)
  (.seq (.reg r_aw_3)
  .ret))))
def res_aw : List RDesc := [(.tmp 0)]
theorem e_aw_0 (C : FuncId → List AV → AV → Prop) (σ : St) (K : St → Prop) : runReg C r_aw_0 σ K = runOps C [⟨(.mv (.c (.bool false))), (some 0), none, [], []⟩] (σ.kills []) K := rfl
theorem e_aw_1 (C : FuncId → List AV → AV → Prop) (σ : St) (K : St → Prop) : runReg C r_aw_1 σ K = runOps C [⟨(.callv (.c (.clo 12 [] [])) [(.c (.str ⟨#[97, 37, 50]⟩))]), (some 6), none, [], []⟩, ⟨(.mv (.t 6)), (some 5), none, [], []⟩, ⟨(.ext 0 (.t 5)), (some 7), none, [], []⟩, ⟨(.ext 1 (.t 5)), (some 8), none, [], []⟩, ⟨(.mv (.t 7)), (some 1), none, [], []⟩, ⟨(.mv (.t 8)), (some 2), none, [], []⟩] (σ.kills [6]) K := rfl
theorem e_aw_2 (C : FuncId → List AV → AV → Prop) (σ : St) (K : St → Prop) : runReg C r_aw_2 σ K = runOps C [⟨(.callv (.c (.clo 27 [] [])) [(.c (.str ⟨#[48, 48, 55]⟩))]), (some 10), none, [], []⟩, ⟨(.mv (.t 10)), (some 9), none, [], []⟩, ⟨(.ext 0 (.t 9)), (some 11), none, [], []⟩, ⟨(.ext 1 (.t 9)), (some 12), none, [], []⟩, ⟨(.mv (.t 11)), (some 3), none, [], []⟩, ⟨(.mv (.t 12)), (some 4), none, [], []⟩] (σ.kills [10]) K := rfl
theorem e_aw_3 (C : FuncId → List AV → AV → Prop) (σ : St) (K : St → Prop) : runReg C r_aw_3 σ K = runOps C [⟨(.callv (.c (.clo 11 [] [])) [(.c (.str ⟨#[97, 32, 98]⟩))]), (some 13), none, [24], []⟩, ⟨(.bin .eql (.t 13) (.c (.str ⟨#[97, 37, 50, 48, 98]⟩))), (some 14), none, [24], []⟩, ⟨(.mv (.t 14)), (some 15), none, [24], []⟩, ⟨(.mv (.t 2)), (some 16), (some (15, true)), [24], []⟩, ⟨(.un .not (.t 16)), (some 17), (some (15, true)), [24], []⟩, ⟨(.pick (.t 15) (.t 17) (.c (.bool false))), (some 18), none, [24], []⟩, ⟨(.mv (.t 18)), (some 19), none, [24], []⟩, ⟨(.mv (.t 4)), (some 20), (some (19, true)), [24], []⟩, ⟨(.un .not (.t 20)), (some 21), (some (19, true)), [24], []⟩, ⟨(.pick (.t 19) (.t 21) (.c (.bool false))), (some 22), none, [24], []⟩, ⟨(.mv (.t 22)), (some 23), none, [24], []⟩, ⟨(.callv (.c (.clo 16 [] [])) [(.c (.str ⟨#[97, 32, 32, 98]⟩))]), (some 24), (some (23, true)), [], []⟩, ⟨(.len false (.t 24)), (some 25), (some (23, true)), [], []⟩, ⟨(.bin .eql (.t 25) (.c (.int .i64 3))), (some 26), (some (23, true)), [], []⟩, ⟨(.pick (.t 23) (.t 26) (.c (.bool false))), (some 27), none, [], []⟩, ⟨(.mv (.t 27)), (some 0), none, [], []⟩] (σ.kills [13, 24]) K := rfl
theorem fn_aw {args : List AV} {r : AV} (ha : args.length.ble Tryd.f10.ntmps = true) (h : run (AFn Tryd.prog) ir_aw (endQ res_aw r) (initSt args)) : AFn Tryd.prog 10 args r :=
  AFn.of_code (hint := fun _ => []) (c := Tryd.f10.body.getD .skip) (by kernel_rfl) (by kernel_rfl) Tryd.func10 (by kernel_rfl) (by kernel_rfl) (by kernel_rfl) (of_decide_eq_true (by kernel_rfl)) (Nat.le_of_ble_eq_true ha) (Nat.le_of_ble_eq_true (by kernel_rfl)) (run_ok h)

/-! ### percolate/percolatelaw06.PackTexts -/
def r_texts_0 : Reg := ⟨[], [⟨(.mv (.c (.bool false))), (some 4), none, [], []⟩], [], [], false⟩
def r_texts_1 : Reg := ⟨[], [⟨(.mv (.t 0)), (some 10), none, [], []⟩, ⟨(.len true (.t 10)), (some 11), none, [], []⟩, ⟨(.bin .gtr (.t 11) (.c (.int .i64 2000))), (some 12), none, [], []⟩, ⟨(.mv (.t 12)), (some 13), none, [], []⟩, ⟨(.mv (.t 1)), (some 14), (some (13, false)), [], []⟩, ⟨(.len true (.t 14)), (some 15), (some (13, false)), [], []⟩, ⟨(.bin .gtr (.t 15) (.c (.int .i64 2000))), (some 16), (some (13, false)), [], []⟩, ⟨(.pick (.t 13) (.c (.bool true)) (.t 16)), (some 17), none, [], []⟩], [], [], false⟩
def r_texts_2 : Reg := ⟨[], [⟨(.callv (.c (.clo 10 [] [])) []), (some 18), none, [], []⟩, ⟨(.mv (.t 18)), (some 4), none, [], []⟩], [18], [], false⟩
def r_texts_3 : Reg := ⟨[], [⟨(.mv (.t 0)), (some 20), none, [21], []⟩, ⟨(.callv (.c (.clo 18 [] [])) [(.t 20)]), (some 21), none, [], []⟩, ⟨(.mv (.t 21)), (some 19), none, [], []⟩, ⟨(.ext 0 (.t 19)), (some 22), none, [], []⟩, ⟨(.ext 1 (.t 19)), (some 23), none, [], []⟩, ⟨(.mv (.t 22)), (some 5), none, [], []⟩, ⟨(.mv (.t 23)), (some 6), none, [], []⟩], [21], [], false⟩
def r_texts_4 : Reg := ⟨[], [⟨(.mv (.t 6)), (some 24), none, [34], []⟩, ⟨(.mv (.t 0)), (some 25), none, [34], []⟩, ⟨(.len true (.t 25)), (some 26), none, [34], []⟩, ⟨(.bin .leq (.t 26) (.c (.int .i64 255))), (some 27), none, [34], []⟩, ⟨(.beq true (.t 24) (.t 27)), (some 28), none, [34], []⟩, ⟨(.mv (.t 28)), (some 29), none, [34], []⟩, ⟨(.mv (.t 6)), (some 30), (some (29, false)), [34], []⟩, ⟨(.mv (.t 30)), (some 31), (some (29, false)), [34], []⟩, ⟨(.mv (.t 5)), (some 32), (some (31, true)), [34], []⟩, ⟨(.mv (.t 0)), (some 33), (some (31, true)), [34], []⟩, ⟨(.callv (.c (.clo 19 [] [])) [(.t 33)]), (some 34), (some (31, true)), [], []⟩, ⟨(.bin .neq (.t 32) (.t 34)), (some 35), (some (31, true)), [], []⟩, ⟨(.pick (.t 31) (.t 35) (.c (.bool false))), (some 36), (some (29, false)), [], []⟩, ⟨(.pick (.t 29) (.c (.bool true)) (.t 36)), (some 37), none, [], []⟩, ⟨(.mv (.t 37)), (some 38), none, [], []⟩, ⟨(.mv (.t 6)), (some 39), (some (38, false)), [], []⟩, ⟨(.un .not (.t 39)), (some 40), (some (38, false)), [], []⟩, ⟨(.mv (.t 40)), (some 41), (some (38, false)), [], []⟩, ⟨(.mv (.t 5)), (some 42), (some (41, true)), [], []⟩, ⟨(.bin .neq (.t 42) (.c (.str ⟨#[]⟩))), (some 43), (some (41, true)), [], []⟩, ⟨(.pick (.t 41) (.t 43) (.c (.bool false))), (some 44), (some (38, false)), [], []⟩, ⟨(.pick (.t 38) (.c (.bool true)) (.t 44)), (some 45), none, [], []⟩], [34], [], false⟩
def r_texts_5 : Reg := ⟨[], [⟨(.mv (.c (.bool false))), (some 4), none, [], []⟩], [], [], false⟩
def r_texts_6 : Reg := ⟨[], [⟨(.mv (.t 1)), (some 47), none, [48], []⟩, ⟨(.callv (.c (.clo 20 [] [])) [(.t 47)]), (some 48), none, [], []⟩, ⟨(.mv (.t 48)), (some 46), none, [], []⟩, ⟨(.ext 0 (.t 46)), (some 49), none, [], []⟩, ⟨(.ext 1 (.t 46)), (some 50), none, [], []⟩, ⟨(.ext 2 (.t 46)), (some 51), none, [], []⟩, ⟨(.mv (.t 49)), (some 7), none, [], []⟩, ⟨(.mv (.t 50)), (some 8), none, [], []⟩, ⟨(.mv (.t 51)), (some 9), none, [], []⟩], [48], [], false⟩
def r_texts_7 : Reg := ⟨[], [⟨(.mv (.t 9)), (some 52), none, [], []⟩, ⟨(.un .not (.t 52)), (some 53), none, [], []⟩], [], [], false⟩
def r_texts_8 : Reg := ⟨[], [⟨(.mv (.t 7)), (some 54), none, [73], []⟩, ⟨(.bin .eql (.t 54) (.c (.str ⟨#[]⟩))), (some 55), none, [73], []⟩, ⟨(.mv (.t 55)), (some 56), none, [73], []⟩, ⟨(.mv (.t 8)), (some 57), (some (56, true)), [73], []⟩, ⟨(.bin .eql (.t 57) (.c (.str ⟨#[]⟩))), (some 58), (some (56, true)), [73], []⟩, ⟨(.pick (.t 56) (.t 58) (.c (.bool false))), (some 59), none, [73], []⟩, ⟨(.mv (.t 59)), (some 60), none, [73], []⟩, ⟨(.mv (.t 1)), (some 61), (some (60, true)), [73], []⟩, ⟨(.bin .eql (.t 61) (.c (.str ⟨#[]⟩))), (some 62), (some (60, true)), [73], []⟩, ⟨(.mv (.t 62)), (some 63), (some (60, true)), [73], []⟩, ⟨(.mv (.t 1)), (some 64), (some (63, false)), [73], []⟩, ⟨(.len true (.t 64)), (some 65), (some (63, false)), [73], []⟩, ⟨(.mv (.t 1)), (some 66), (some (63, false)), [73], []⟩, ⟨(.idx (.t 66) (.c (.int .i64 0))), (some 67), (some (63, false)), [73], []⟩, ⟨(.conv .i64 (.t 67)), (some 68), (some (63, false)), [73], []⟩, ⟨(.bin .leq (.t 65) (.t 68)), (some 69), (some (63, false)), [73], []⟩, ⟨(.pick (.t 63) (.c (.bool true)) (.t 69)), (some 70), (some (60, true)), [73], []⟩, ⟨(.pick (.t 60) (.t 70) (.c (.bool false))), (some 71), none, [73], []⟩, ⟨(.mv (.t 71)), (some 72), none, [73], []⟩, ⟨(.callv (.c (.clo 10 [] [])) []), (some 73), (some (72, true)), [], []⟩, ⟨(.pick (.t 72) (.t 73) (.c (.bool false))), (some 74), none, [], []⟩, ⟨(.mv (.t 74)), (some 4), none, [], []⟩], [73], [], false⟩
def r_texts_9 : Reg := ⟨[], [⟨(.mv (.t 1)), (some 75), none, [87, 94], []⟩, ⟨(.bin .neq (.t 75) (.c (.str ⟨#[]⟩))), (some 76), none, [87, 94], []⟩, ⟨(.mv (.t 76)), (some 77), none, [87, 94], []⟩, ⟨(.mv (.t 7)), (some 78), (some (77, true)), [87, 94], []⟩, ⟨(.len true (.t 78)), (some 79), (some (77, true)), [87, 94], []⟩, ⟨(.mv (.t 1)), (some 80), (some (77, true)), [87, 94], []⟩, ⟨(.idx (.t 80) (.c (.int .i64 0))), (some 81), (some (77, true)), [87, 94], []⟩, ⟨(.conv .i64 (.t 81)), (some 82), (some (77, true)), [87, 94], []⟩, ⟨(.bin .eql (.t 79) (.t 82)), (some 83), (some (77, true)), [87, 94], []⟩, ⟨(.pick (.t 77) (.t 83) (.c (.bool false))), (some 84), none, [87, 94], []⟩, ⟨(.mv (.t 84)), (some 85), none, [87, 94], []⟩, ⟨(.mv (.t 7)), (some 86), (some (85, true)), [87, 94], []⟩, ⟨(.callv (.c (.clo 19 [] [])) [(.t 86)]), (some 87), (some (85, true)), [94], []⟩, ⟨(.mv (.t 8)), (some 88), (some (85, true)), [94], []⟩, ⟨(.bin .add (.t 87) (.t 88)), (some 89), (some (85, true)), [94], []⟩, ⟨(.mv (.t 1)), (some 90), (some (85, true)), [94], []⟩, ⟨(.bin .eql (.t 89) (.t 90)), (some 91), (some (85, true)), [94], []⟩, ⟨(.pick (.t 85) (.t 91) (.c (.bool false))), (some 92), none, [94], []⟩, ⟨(.mv (.t 92)), (some 93), none, [94], []⟩, ⟨(.callv (.c (.clo 10 [] [])) []), (some 94), (some (93, true)), [], []⟩, ⟨(.pick (.t 93) (.t 94) (.c (.bool false))), (some 95), none, [], []⟩, ⟨(.mv (.t 95)), (some 4), none, [], []⟩], [87, 94], [], false⟩
def ir_texts : IR := (.seq (.reg r_texts_0)
  (.seq (.seq (.reg r_texts_1)
  (.cond (.t 17) (.seq (.reg r_texts_2)
  .ret)
  .skip))
  (.seq (.reg r_texts_3)
  (.seq (.seq (.reg r_texts_4)
  (.cond (.t 45) (.seq (.reg r_texts_5)
  .ret)
  .skip))
  (.seq (.reg r_texts_6)
  (.seq (.seq (.reg r_texts_7)
  (.cond (.t 53) (.seq (.reg r_texts_8)
  .ret)
  .skip))
  (.seq (.reg r_texts_9)
  .ret)))))))
def res_texts : List RDesc := [(.tmp 4)]
theorem e_texts_0 (C : FuncId → List AV → AV → Prop) (σ : St) (K : St → Prop) : runReg C r_texts_0 σ K = runOps C [⟨(.mv (.c (.bool false))), (some 4), none, [], []⟩] (σ.kills []) K := rfl
theorem e_texts_1 (C : FuncId → List AV → AV → Prop) (σ : St) (K : St → Prop) : runReg C r_texts_1 σ K = runOps C [⟨(.mv (.t 0)), (some 10), none, [], []⟩, ⟨(.len true (.t 10)), (some 11), none, [], []⟩, ⟨(.bin .gtr (.t 11) (.c (.int .i64 2000))), (some 12), none, [], []⟩, ⟨(.mv (.t 12)), (some 13), none, [], []⟩, ⟨(.mv (.t 1)), (some 14), (some (13, false)), [], []⟩, ⟨(.len true (.t 14)), (some 15), (some (13, false)), [], []⟩, ⟨(.bin .gtr (.t 15) (.c (.int .i64 2000))), (some 16), (some (13, false)), [], []⟩, ⟨(.pick (.t 13) (.c (.bool true)) (.t 16)), (some 17), none, [], []⟩] (σ.kills []) K := rfl
theorem e_texts_2 (C : FuncId → List AV → AV → Prop) (σ : St) (K : St → Prop) : runReg C r_texts_2 σ K = runOps C [⟨(.callv (.c (.clo 10 [] [])) []), (some 18), none, [], []⟩, ⟨(.mv (.t 18)), (some 4), none, [], []⟩] (σ.kills [18]) K := rfl
theorem e_texts_3 (C : FuncId → List AV → AV → Prop) (σ : St) (K : St → Prop) : runReg C r_texts_3 σ K = runOps C [⟨(.mv (.t 0)), (some 20), none, [21], []⟩, ⟨(.callv (.c (.clo 18 [] [])) [(.t 20)]), (some 21), none, [], []⟩, ⟨(.mv (.t 21)), (some 19), none, [], []⟩, ⟨(.ext 0 (.t 19)), (some 22), none, [], []⟩, ⟨(.ext 1 (.t 19)), (some 23), none, [], []⟩, ⟨(.mv (.t 22)), (some 5), none, [], []⟩, ⟨(.mv (.t 23)), (some 6), none, [], []⟩] (σ.kills [21]) K := rfl
theorem e_texts_4 (C : FuncId → List AV → AV → Prop) (σ : St) (K : St → Prop) : runReg C r_texts_4 σ K = runOps C [⟨(.mv (.t 6)), (some 24), none, [34], []⟩, ⟨(.mv (.t 0)), (some 25), none, [34], []⟩, ⟨(.len true (.t 25)), (some 26), none, [34], []⟩, ⟨(.bin .leq (.t 26) (.c (.int .i64 255))), (some 27), none, [34], []⟩, ⟨(.beq true (.t 24) (.t 27)), (some 28), none, [34], []⟩, ⟨(.mv (.t 28)), (some 29), none, [34], []⟩, ⟨(.mv (.t 6)), (some 30), (some (29, false)), [34], []⟩, ⟨(.mv (.t 30)), (some 31), (some (29, false)), [34], []⟩, ⟨(.mv (.t 5)), (some 32), (some (31, true)), [34], []⟩, ⟨(.mv (.t 0)), (some 33), (some (31, true)), [34], []⟩, ⟨(.callv (.c (.clo 19 [] [])) [(.t 33)]), (some 34), (some (31, true)), [], []⟩, ⟨(.bin .neq (.t 32) (.t 34)), (some 35), (some (31, true)), [], []⟩, ⟨(.pick (.t 31) (.t 35) (.c (.bool false))), (some 36), (some (29, false)), [], []⟩, ⟨(.pick (.t 29) (.c (.bool true)) (.t 36)), (some 37), none, [], []⟩, ⟨(.mv (.t 37)), (some 38), none, [], []⟩, ⟨(.mv (.t 6)), (some 39), (some (38, false)), [], []⟩, ⟨(.un .not (.t 39)), (some 40), (some (38, false)), [], []⟩, ⟨(.mv (.t 40)), (some 41), (some (38, false)), [], []⟩, ⟨(.mv (.t 5)), (some 42), (some (41, true)), [], []⟩, ⟨(.bin .neq (.t 42) (.c (.str ⟨#[]⟩))), (some 43), (some (41, true)), [], []⟩, ⟨(.pick (.t 41) (.t 43) (.c (.bool false))), (some 44), (some (38, false)), [], []⟩, ⟨(.pick (.t 38) (.c (.bool true)) (.t 44)), (some 45), none, [], []⟩] (σ.kills [34]) K := rfl
theorem e_texts_5 (C : FuncId → List AV → AV → Prop) (σ : St) (K : St → Prop) : runReg C r_texts_5 σ K = runOps C [⟨(.mv (.c (.bool false))), (some 4), none, [], []⟩] (σ.kills []) K := rfl
theorem e_texts_6 (C : FuncId → List AV → AV → Prop) (σ : St) (K : St → Prop) : runReg C r_texts_6 σ K = runOps C [⟨(.mv (.t 1)), (some 47), none, [48], []⟩, ⟨(.callv (.c (.clo 20 [] [])) [(.t 47)]), (some 48), none, [], []⟩, ⟨(.mv (.t 48)), (some 46), none, [], []⟩, ⟨(.ext 0 (.t 46)), (some 49), none, [], []⟩, ⟨(.ext 1 (.t 46)), (some 50), none, [], []⟩, ⟨(.ext 2 (.t 46)), (some 51), none, [], []⟩, ⟨(.mv (.t 49)), (some 7), none, [], []⟩, ⟨(.mv (.t 50)), (some 8), none, [], []⟩, ⟨(.mv (.t 51)), (some 9), none, [], []⟩] (σ.kills [48]) K := rfl
theorem e_texts_7 (C : FuncId → List AV → AV → Prop) (σ : St) (K : St → Prop) : runReg C r_texts_7 σ K = runOps C [⟨(.mv (.t 9)), (some 52), none, [], []⟩, ⟨(.un .not (.t 52)), (some 53), none, [], []⟩] (σ.kills []) K := rfl
theorem e_texts_8 (C : FuncId → List AV → AV → Prop) (σ : St) (K : St → Prop) : runReg C r_texts_8 σ K = runOps C [⟨(.mv (.t 7)), (some 54), none, [73], []⟩, ⟨(.bin .eql (.t 54) (.c (.str ⟨#[]⟩))), (some 55), none, [73], []⟩, ⟨(.mv (.t 55)), (some 56), none, [73], []⟩, ⟨(.mv (.t 8)), (some 57), (some (56, true)), [73], []⟩, ⟨(.bin .eql (.t 57) (.c (.str ⟨#[]⟩))), (some 58), (some (56, true)), [73], []⟩, ⟨(.pick (.t 56) (.t 58) (.c (.bool false))), (some 59), none, [73], []⟩, ⟨(.mv (.t 59)), (some 60), none, [73], []⟩, ⟨(.mv (.t 1)), (some 61), (some (60, true)), [73], []⟩, ⟨(.bin .eql (.t 61) (.c (.str ⟨#[]⟩))), (some 62), (some (60, true)), [73], []⟩, ⟨(.mv (.t 62)), (some 63), (some (60, true)), [73], []⟩, ⟨(.mv (.t 1)), (some 64), (some (63, false)), [73], []⟩, ⟨(.len true (.t 64)), (some 65), (some (63, false)), [73], []⟩, ⟨(.mv (.t 1)), (some 66), (some (63, false)), [73], []⟩, ⟨(.idx (.t 66) (.c (.int .i64 0))), (some 67), (some (63, false)), [73], []⟩, ⟨(.conv .i64 (.t 67)), (some 68), (some (63, false)), [73], []⟩, ⟨(.bin .leq (.t 65) (.t 68)), (some 69), (some (63, false)), [73], []⟩, ⟨(.pick (.t 63) (.c (.bool true)) (.t 69)), (some 70), (some (60, true)), [73], []⟩, ⟨(.pick (.t 60) (.t 70) (.c (.bool false))), (some 71), none, [73], []⟩, ⟨(.mv (.t 71)), (some 72), none, [73], []⟩, ⟨(.callv (.c (.clo 10 [] [])) []), (some 73), (some (72, true)), [], []⟩, ⟨(.pick (.t 72) (.t 73) (.c (.bool false))), (some 74), none, [], []⟩, ⟨(.mv (.t 74)), (some 4), none, [], []⟩] (σ.kills [73]) K := rfl
theorem e_texts_9 (C : FuncId → List AV → AV → Prop) (σ : St) (K : St → Prop) : runReg C r_texts_9 σ K = runOps C [⟨(.mv (.t 1)), (some 75), none, [87, 94], []⟩, ⟨(.bin .neq (.t 75) (.c (.str ⟨#[]⟩))), (some 76), none, [87, 94], []⟩, ⟨(.mv (.t 76)), (some 77), none, [87, 94], []⟩, ⟨(.mv (.t 7)), (some 78), (some (77, true)), [87, 94], []⟩, ⟨(.len true (.t 78)), (some 79), (some (77, true)), [87, 94], []⟩, ⟨(.mv (.t 1)), (some 80), (some (77, true)), [87, 94], []⟩, ⟨(.idx (.t 80) (.c (.int .i64 0))), (some 81), (some (77, true)), [87, 94], []⟩, ⟨(.conv .i64 (.t 81)), (some 82), (some (77, true)), [87, 94], []⟩, ⟨(.bin .eql (.t 79) (.t 82)), (some 83), (some (77, true)), [87, 94], []⟩, ⟨(.pick (.t 77) (.t 83) (.c (.bool false))), (some 84), none, [87, 94], []⟩, ⟨(.mv (.t 84)), (some 85), none, [87, 94], []⟩, ⟨(.mv (.t 7)), (some 86), (some (85, true)), [87, 94], []⟩, ⟨(.callv (.c (.clo 19 [] [])) [(.t 86)]), (some 87), (some (85, true)), [94], []⟩, ⟨(.mv (.t 8)), (some 88), (some (85, true)), [94], []⟩, ⟨(.bin .add (.t 87) (.t 88)), (some 89), (some (85, true)), [94], []⟩, ⟨(.mv (.t 1)), (some 90), (some (85, true)), [94], []⟩, ⟨(.bin .eql (.t 89) (.t 90)), (some 91), (some (85, true)), [94], []⟩, ⟨(.pick (.t 85) (.t 91) (.c (.bool false))), (some 92), none, [94], []⟩, ⟨(.mv (.t 92)), (some 93), none, [94], []⟩, ⟨(.callv (.c (.clo 10 [] [])) []), (some 94), (some (93, true)), [], []⟩, ⟨(.pick (.t 93) (.t 94) (.c (.bool false))), (some 95), none, [], []⟩, ⟨(.mv (.t 95)), (some 4), none, [], []⟩] (σ.kills [87, 94]) K := rfl
theorem fn_texts {args : List AV} {r : AV} (ha : args.length.ble Tryd.f5.ntmps = true) (h : run (AFn Tryd.prog) ir_texts (endQ res_texts r) (initSt args)) : AFn Tryd.prog 5 args r :=
  AFn.of_code (hint := fun _ => []) (c := Tryd.f5.body.getD .skip) (by kernel_rfl) (by kernel_rfl) Tryd.func5 (by kernel_rfl) (by kernel_rfl) (by kernel_rfl) (of_decide_eq_true (by kernel_rfl)) (Nat.le_of_ble_eq_true ha) (Nat.le_of_ble_eq_true (by kernel_rfl)) (run_ok h)

attribute [local go_sem ↓] ir_aw
attribute [local go_sem] res_aw e_aw_0 e_aw_1 e_aw_2 e_aw_3
attribute [local go_sem ↓] ir_texts
attribute [local go_sem] res_texts e_texts_0 e_texts_1 e_texts_2 e_texts_3 e_texts_4 e_texts_5 e_texts_6 e_texts_7 e_texts_8 e_texts_9

theorem aw_unq : uqF ⟨#[97, 37, 50]⟩ = .tup [.str ⟨#[]⟩, .bool false] := by
  unfold uqF
  rw [if_neg (by decide +kernel), show uqGo (⟨#[97, 37, 50]⟩ : ByteArray).data.toList (⟨#[97, 37, 50]⟩ : ByteArray).size 0 [] = none by decide +kernel]
  rfl
theorem aw_und : udF ⟨#[48, 48, 55]⟩ = .tup [.int .i64 0, .bool false] := by
  unfold udF
  rw [if_pos (by decide +kernel)]
theorem aw_quo : quoteF ⟨#[97, 32, 98]⟩ = ⟨#[97, 37, 50, 48, 98]⟩ := by decide +kernel
theorem aw_wrd : (splitL ⟨#[97, 32, 32, 98]⟩ ⟨#[32]⟩).length = 3 := by
  unfold splitL
  rw [split_len (by decide) _ _ rfl]
  decide +kernel
theorem awake_ok : AFn Tryd.prog 10 [] (.bool true) := by
  refine fn_aw rfl ?_
  simp (maxSteps := 4000000) only [go_sem, ↓reduceIte, reduceCtorEq, Nat.reduceEqDiff, Nat.reduceBEq, Nat.reduceAdd, Nat.reduceSub, Nat.reduceMul, Nat.reduceLT, Nat.reduceLeDiff, Nat.reduceBNe, Int.reduceBEq, Int.reduceBNe, Int.reduceLT, Int.reduceLE]
  (first | refine calling (unq_ok ⟨#[97, 37, 50]⟩ (by decide)) ?_ | refine callingH (unq_ok ⟨#[97, 37, 50]⟩ (by decide)) ?_)
  rw [aw_unq]
  simp (maxSteps := 4000000) only [go_sem, ↓reduceIte, reduceCtorEq, Nat.reduceEqDiff, Nat.reduceBEq, Nat.reduceAdd, Nat.reduceSub, Nat.reduceMul, Nat.reduceLT, Nat.reduceLeDiff, Nat.reduceBNe, Int.reduceBEq, Int.reduceBNe, Int.reduceLT, Int.reduceLE]
  (first | refine calling (undec_ok ⟨#[48, 48, 55]⟩ (by decide)) ?_ | refine callingH (undec_ok ⟨#[48, 48, 55]⟩ (by decide)) ?_)
  rw [aw_und]
  simp (maxSteps := 4000000) only [go_sem, ↓reduceIte, reduceCtorEq, Nat.reduceEqDiff, Nat.reduceBEq, Nat.reduceAdd, Nat.reduceSub, Nat.reduceMul, Nat.reduceLT, Nat.reduceLeDiff, Nat.reduceBNe, Int.reduceBEq, Int.reduceBNe, Int.reduceLT, Int.reduceLE]
  (first | refine calling (quote_ok ⟨#[97, 32, 98]⟩ (by decide)) ?_ | refine callingH (quote_ok ⟨#[97, 32, 98]⟩ (by decide)) ?_)
  rw [aw_quo]
  simp (maxSteps := 4000000) only [go_sem, ↓reduceIte, reduceCtorEq, Nat.reduceEqDiff, Nat.reduceBEq, Nat.reduceAdd, Nat.reduceSub, Nat.reduceMul, Nat.reduceLT, Nat.reduceLeDiff, Nat.reduceBNe, Int.reduceBEq, Int.reduceBNe, Int.reduceLT, Int.reduceLE, beq_self_eq_true]
  (first | refine calling (words_ok ⟨#[97, 32, 32, 98]⟩ (by decide) (by rw [aw_wrd]; decide)) ?_ | refine callingH (words_ok ⟨#[97, 32, 32, 98]⟩ (by decide) (by rw [aw_wrd]; decide)) ?_)
  have z3 : ((3 : Nat) : Int) = 3 := rfl
  simp (maxSteps := 4000000) only [go_sem, ↓reduceIte, reduceCtorEq, Nat.reduceEqDiff, Nat.reduceBEq, Nat.reduceAdd, Nat.reduceSub, Nat.reduceMul, Nat.reduceLT, Nat.reduceLeDiff, Nat.reduceBNe, Int.reduceBEq, Int.reduceBNe, Int.reduceLT, Int.reduceLE, List.length_map, aw_wrd, z3]

theorem bext {a b : ByteArray} (h : a.data.toList = b.data.toList) : a = b := by
  cases a; cases b; congr 1; exact Array.ext' h
theorem ext_list (s : ByteArray) (i j : Nat) : (s.extract i j).data.toList = (s.data.toList.take j).drop i := by
  rw [ByteArray.data_extract, Array.toList_extract, List.extract_eq_take_drop, List.drop_take]
theorem text_back {b : ByteArray} (h : (b0 b).toNat < b.size) : textF (b.extract 1 (1 + (b0 b).toNat)) ++ b.extract (1 + (b0 b).toNat) b.size = b := by
  have hz : (b.extract 1 (1 + (b0 b).toNat)).size = (b0 b).toNat := by rw [ByteArray.size_extract]; omega
  have hL : b.data.toList.length = b.size := by rw [Array.length_toList]; rfl
  apply bext
  unfold textF
  rw [hz, ByteArray.data_append, Array.toList_append, ByteArray.data_append, Array.toList_append, ext_list, ext_list]
  have h0 : b.data.toList = b0 b :: b.data.toList.drop 1 := by
    unfold b0
    cases hq : b.data.toList with
    | nil => rw [hq] at hL; simp at hL; omega
    | cons c l => rfl
  rw [List.take_of_length_le (show b.data.toList.length ≤ b.size by omega)]
  rw [show UInt8.ofNat (b0 b).toNat = b0 b by simp]
  conv => rhs; rw [h0]
  generalize (b0 b).toNat = n
  show [b0 b] ++ (List.drop 1 (b.data.toList.take (1 + n))) ++ b.data.toList.drop (1 + n) = _
  rw [List.append_assoc]
  show b0 b :: _ = _
  congr 1
  generalize b.data.toList = l
  rw [List.drop_take, Nat.add_sub_cancel_left, ← List.drop_drop]
  exact List.take_append_drop _ _
theorem texts_law (s b : ByteArray) (hs : s.size ≤ 281474976710656) (hb : b.size ≤ 281474976710656) : AFn Tryd.prog 5 [.str s, .str b] (.bool true) := by
  refine fn_texts rfl ?_
  have hz : Int.toNat 0 = 0 := rfl
  by_cases h1 : (2000 : Int) < s.size
  · simp (maxSteps := 4000000) only [go_sem, ↓reduceIte, reduceCtorEq, Nat.reduceEqDiff, Nat.reduceBEq, Nat.reduceAdd, Nat.reduceSub, Nat.reduceMul, Nat.reduceLT, Nat.reduceLeDiff, Nat.reduceBNe, Int.reduceBEq, Int.reduceBNe, Int.reduceLT, Int.reduceLE, h1]
    (first | refine calling awake_ok ?_ | refine callingH awake_ok ?_)
    simp (maxSteps := 4000000) only [go_sem, ↓reduceIte, reduceCtorEq, Nat.reduceEqDiff, Nat.reduceBEq, Nat.reduceAdd, Nat.reduceSub, Nat.reduceMul, Nat.reduceLT, Nat.reduceLeDiff, Nat.reduceBNe, Int.reduceBEq, Int.reduceBNe, Int.reduceLT, Int.reduceLE, h1]
  by_cases h2 : (2000 : Int) < b.size
  · simp (maxSteps := 4000000) only [go_sem, ↓reduceIte, reduceCtorEq, Nat.reduceEqDiff, Nat.reduceBEq, Nat.reduceAdd, Nat.reduceSub, Nat.reduceMul, Nat.reduceLT, Nat.reduceLeDiff, Nat.reduceBNe, Int.reduceBEq, Int.reduceBNe, Int.reduceLT, Int.reduceLE, h1, h2]
    (first | refine calling awake_ok ?_ | refine callingH awake_ok ?_)
    simp (maxSteps := 4000000) only [go_sem, ↓reduceIte, reduceCtorEq, Nat.reduceEqDiff, Nat.reduceBEq, Nat.reduceAdd, Nat.reduceSub, Nat.reduceMul, Nat.reduceLT, Nat.reduceLeDiff, Nat.reduceBNe, Int.reduceBEq, Int.reduceBNe, Int.reduceLT, Int.reduceLE, h1, h2]
  have hbl := (b0 b).toNat_lt
  have hw2 : IntKind.i64.wrap ((b0 b).toNat : Int) = ((b0 b).toNat : Int) := IntWalk.i64_in _ (by omega)
  have hg : b.data.toList.getD 0 0 = b0 b := rfl
  have hsz : ¬ (b.size = 0 ∨ b.size ≤ (b0 b).toNat) → (b.extract 1 (1 + (b0 b).toNat)).size = (b0 b).toNat ∧ (b.extract (1 + (b0 b).toNat) b.size).size ≤ b.size := by
    intro h
    have h5 : (b0 b).toNat < b.size := by omega
    rw [ByteArray.size_extract, ByteArray.size_extract]
    clear hw2
    omega
  have hts : ∀ x : ByteArray, (textF x).size = 1 + x.size := fun x => by unfold textF; rw [ByteArray.size_append]; rfl
  by_cases h3 : s.size ≤ 255
  · have h3' : (s.size : Int) ≤ 255 := by omega
    simp (maxSteps := 4000000) only [go_sem, ↓reduceIte, reduceCtorEq, Nat.reduceEqDiff, Nat.reduceBEq, Nat.reduceAdd, Nat.reduceSub, Nat.reduceMul, Nat.reduceLT, Nat.reduceLeDiff, Nat.reduceBNe, Int.reduceBEq, Int.reduceBNe, Int.reduceLT, Int.reduceLE, h1, h2]
    (first | refine calling (text_ok s) ?_ | refine callingH (text_ok s) ?_)
    simp (maxSteps := 4000000) only [go_sem, ↓reduceIte, reduceCtorEq, Nat.reduceEqDiff, Nat.reduceBEq, Nat.reduceAdd, Nat.reduceSub, Nat.reduceMul, Nat.reduceLT, Nat.reduceLeDiff, Nat.reduceBNe, Int.reduceBEq, Int.reduceBNe, Int.reduceLT, Int.reduceLE, h3, h3', beq_self_eq_true, bne_self_eq_false]
    (first | refine calling (rText_ok s (by omega)) ?_ | refine callingH (rText_ok s (by omega)) ?_)
    simp (maxSteps := 4000000) only [go_sem, ↓reduceIte, reduceCtorEq, Nat.reduceEqDiff, Nat.reduceBEq, Nat.reduceAdd, Nat.reduceSub, Nat.reduceMul, Nat.reduceLT, Nat.reduceLeDiff, Nat.reduceBNe, Int.reduceBEq, Int.reduceBNe, Int.reduceLT, Int.reduceLE, h3, h3', beq_self_eq_true, bne_self_eq_false]
    by_cases hn : b.size = 0 ∨ b.size ≤ (b0 b).toNat
    · (first | refine calling (take_no b (by omega) hn) ?_ | refine callingH (take_no b (by omega) hn) ?_)
      by_cases h0 : b.size = 0
      · have he : (b.toList == (ByteArray.mk #[]).toList) = true := by rw [bytes_nil]; exact decide_eq_true h0
        simp (maxSteps := 4000000) only [go_sem, ↓reduceIte, reduceCtorEq, Nat.reduceEqDiff, Nat.reduceBEq, Nat.reduceAdd, Nat.reduceSub, Nat.reduceMul, Nat.reduceLT, Nat.reduceLeDiff, Nat.reduceBNe, Int.reduceBEq, Int.reduceBNe, Int.reduceLT, Int.reduceLE, he, beq_self_eq_true]
        (first | refine calling awake_ok ?_ | refine callingH awake_ok ?_)
        simp (maxSteps := 4000000) only [go_sem, ↓reduceIte, reduceCtorEq, Nat.reduceEqDiff, Nat.reduceBEq, Nat.reduceAdd, Nat.reduceSub, Nat.reduceMul, Nat.reduceLT, Nat.reduceLeDiff, Nat.reduceBNe, Int.reduceBEq, Int.reduceBNe, Int.reduceLT, Int.reduceLE]
      · have he : (b.toList == (ByteArray.mk #[]).toList) = false := by rw [bytes_nil]; exact decide_eq_false h0
        have hle : (b.size : Int) ≤ ((b0 b).toNat : Int) := by clear hw2; omega
        simp (maxSteps := 4000000) only [go_sem, ↓reduceIte, reduceCtorEq, Nat.reduceEqDiff, Nat.reduceBEq, Nat.reduceAdd, Nat.reduceSub, Nat.reduceMul, Nat.reduceLT, Nat.reduceLeDiff, Nat.reduceBNe, Int.reduceBEq, Int.reduceBNe, Int.reduceLT, Int.reduceLE, he, beq_self_eq_true, hz, hg, hw2, hle]
        (repeat refine And.intro (by omega) ?_)
        (first | refine calling awake_ok ?_ | refine callingH awake_ok ?_)
        simp (maxSteps := 4000000) only [go_sem, ↓reduceIte, reduceCtorEq, Nat.reduceEqDiff, Nat.reduceBEq, Nat.reduceAdd, Nat.reduceSub, Nat.reduceMul, Nat.reduceLT, Nat.reduceLeDiff, Nat.reduceBNe, Int.reduceBEq, Int.reduceBNe, Int.reduceLT, Int.reduceLE]
    · have he : (b.toList == (ByteArray.mk #[]).toList) = false := by rw [bytes_nil]; exact decide_eq_false (fun e => hn (.inl e))
      obtain ⟨hx, hx2⟩ := hsz hn
      have h5 : (b0 b).toNat < b.size := by clear hw2; omega
      (first | refine calling (take_yes b (by omega) h5) ?_ | refine callingH (take_yes b (by omega) h5) ?_)
      simp (maxSteps := 4000000) only [go_sem, ↓reduceIte, reduceCtorEq, Nat.reduceEqDiff, Nat.reduceBEq, Nat.reduceAdd, Nat.reduceSub, Nat.reduceMul, Nat.reduceLT, Nat.reduceLeDiff, Nat.reduceBNe, Int.reduceBEq, Int.reduceBNe, Int.reduceLT, Int.reduceLE, he, hx, hz, hg, hw2, beq_self_eq_true]
      (repeat refine And.intro (by omega) ?_)
      (first | refine calling (rText_ok (b.extract 1 (1 + (b0 b).toNat)) (by rw [hx]; clear hw2; omega)) ?_ | refine callingH (rText_ok (b.extract 1 (1 + (b0 b).toNat)) (by rw [hx]; clear hw2; omega)) ?_)
      have htb := text_back h5
      simp (maxSteps := 4000000) only [go_sem, ↓reduceIte, reduceCtorEq, Nat.reduceEqDiff, Nat.reduceBEq, Nat.reduceAdd, Nat.reduceSub, Nat.reduceMul, Nat.reduceLT, Nat.reduceLeDiff, Nat.reduceBNe, Int.reduceBEq, Int.reduceBNe, Int.reduceLT, Int.reduceLE, htb, beq_self_eq_true]
      refine ⟨?_, ?_⟩
      · rw [hts, hx]; clear hw2; omega
      · (first | refine calling awake_ok ?_ | refine callingH awake_ok ?_)
        simp (maxSteps := 4000000) only [go_sem, ↓reduceIte, reduceCtorEq, Nat.reduceEqDiff, Nat.reduceBEq, Nat.reduceAdd, Nat.reduceSub, Nat.reduceMul, Nat.reduceLT, Nat.reduceLeDiff, Nat.reduceBNe, Int.reduceBEq, Int.reduceBNe, Int.reduceLT, Int.reduceLE]
  · have h3' : ¬ (s.size : Int) ≤ 255 := by omega
    simp (maxSteps := 4000000) only [go_sem, ↓reduceIte, reduceCtorEq, Nat.reduceEqDiff, Nat.reduceBEq, Nat.reduceAdd, Nat.reduceSub, Nat.reduceMul, Nat.reduceLT, Nat.reduceLeDiff, Nat.reduceBNe, Int.reduceBEq, Int.reduceBNe, Int.reduceLT, Int.reduceLE, h1, h2]
    (first | refine calling (text_ok s) ?_ | refine callingH (text_ok s) ?_)
    simp (maxSteps := 4000000) only [go_sem, ↓reduceIte, reduceCtorEq, Nat.reduceEqDiff, Nat.reduceBEq, Nat.reduceAdd, Nat.reduceSub, Nat.reduceMul, Nat.reduceLT, Nat.reduceLeDiff, Nat.reduceBNe, Int.reduceBEq, Int.reduceBNe, Int.reduceLT, Int.reduceLE, h3, h3', beq_self_eq_true, bne_self_eq_false]
    by_cases hn : b.size = 0 ∨ b.size ≤ (b0 b).toNat
    · (first | refine calling (take_no b (by omega) hn) ?_ | refine callingH (take_no b (by omega) hn) ?_)
      by_cases h0 : b.size = 0
      · have he : (b.toList == (ByteArray.mk #[]).toList) = true := by rw [bytes_nil]; exact decide_eq_true h0
        simp (maxSteps := 4000000) only [go_sem, ↓reduceIte, reduceCtorEq, Nat.reduceEqDiff, Nat.reduceBEq, Nat.reduceAdd, Nat.reduceSub, Nat.reduceMul, Nat.reduceLT, Nat.reduceLeDiff, Nat.reduceBNe, Int.reduceBEq, Int.reduceBNe, Int.reduceLT, Int.reduceLE, he, beq_self_eq_true]
        (first | refine calling awake_ok ?_ | refine callingH awake_ok ?_)
        simp (maxSteps := 4000000) only [go_sem, ↓reduceIte, reduceCtorEq, Nat.reduceEqDiff, Nat.reduceBEq, Nat.reduceAdd, Nat.reduceSub, Nat.reduceMul, Nat.reduceLT, Nat.reduceLeDiff, Nat.reduceBNe, Int.reduceBEq, Int.reduceBNe, Int.reduceLT, Int.reduceLE]
      · have he : (b.toList == (ByteArray.mk #[]).toList) = false := by rw [bytes_nil]; exact decide_eq_false h0
        have hle : (b.size : Int) ≤ ((b0 b).toNat : Int) := by clear hw2; omega
        simp (maxSteps := 4000000) only [go_sem, ↓reduceIte, reduceCtorEq, Nat.reduceEqDiff, Nat.reduceBEq, Nat.reduceAdd, Nat.reduceSub, Nat.reduceMul, Nat.reduceLT, Nat.reduceLeDiff, Nat.reduceBNe, Int.reduceBEq, Int.reduceBNe, Int.reduceLT, Int.reduceLE, he, beq_self_eq_true, hz, hg, hw2, hle]
        (repeat refine And.intro (by omega) ?_)
        (first | refine calling awake_ok ?_ | refine callingH awake_ok ?_)
        simp (maxSteps := 4000000) only [go_sem, ↓reduceIte, reduceCtorEq, Nat.reduceEqDiff, Nat.reduceBEq, Nat.reduceAdd, Nat.reduceSub, Nat.reduceMul, Nat.reduceLT, Nat.reduceLeDiff, Nat.reduceBNe, Int.reduceBEq, Int.reduceBNe, Int.reduceLT, Int.reduceLE]
    · have he : (b.toList == (ByteArray.mk #[]).toList) = false := by rw [bytes_nil]; exact decide_eq_false (fun e => hn (.inl e))
      obtain ⟨hx, hx2⟩ := hsz hn
      have h5 : (b0 b).toNat < b.size := by clear hw2; omega
      (first | refine calling (take_yes b (by omega) h5) ?_ | refine callingH (take_yes b (by omega) h5) ?_)
      simp (maxSteps := 4000000) only [go_sem, ↓reduceIte, reduceCtorEq, Nat.reduceEqDiff, Nat.reduceBEq, Nat.reduceAdd, Nat.reduceSub, Nat.reduceMul, Nat.reduceLT, Nat.reduceLeDiff, Nat.reduceBNe, Int.reduceBEq, Int.reduceBNe, Int.reduceLT, Int.reduceLE, he, hx, hz, hg, hw2, beq_self_eq_true]
      (repeat refine And.intro (by omega) ?_)
      (first | refine calling (rText_ok (b.extract 1 (1 + (b0 b).toNat)) (by rw [hx]; clear hw2; omega)) ?_ | refine callingH (rText_ok (b.extract 1 (1 + (b0 b).toNat)) (by rw [hx]; clear hw2; omega)) ?_)
      have htb := text_back h5
      simp (maxSteps := 4000000) only [go_sem, ↓reduceIte, reduceCtorEq, Nat.reduceEqDiff, Nat.reduceBEq, Nat.reduceAdd, Nat.reduceSub, Nat.reduceMul, Nat.reduceLT, Nat.reduceLeDiff, Nat.reduceBNe, Int.reduceBEq, Int.reduceBNe, Int.reduceLT, Int.reduceLE, htb, beq_self_eq_true]
      refine ⟨?_, ?_⟩
      · rw [hts, hx]; clear hw2; omega
      · (first | refine calling awake_ok ?_ | refine callingH awake_ok ?_)
        simp (maxSteps := 4000000) only [go_sem, ↓reduceIte, reduceCtorEq, Nat.reduceEqDiff, Nat.reduceBEq, Nat.reduceAdd, Nat.reduceSub, Nat.reduceMul, Nat.reduceLT, Nat.reduceLeDiff, Nat.reduceBNe, Int.reduceBEq, Int.reduceBNe, Int.reduceLT, Int.reduceLE]
theorem run_args {f : FuncId} {w : World} {ds : List AV} {vs : List Value} (hG : Glob w) (hl : ds.length = vs.length) (h : ∀ (j : Nat) (d : AV) (u : Value), ds[j]? = some d → vs[j]? = some u → VR (fun b _ => b < w.heap.size) w d u) (hA : AFn Tryd.prog f ds (.bool true)) :
    Calls Tryd.prog f ⟨vs⟩ w fun e w' => e = .returned (.bool true) ∧ Below w.heap.size w w' := by
  have := hA.calls w (fun b _ => b < w.heap.size) vs hG (fun b o hb => hb) hl h
  refine this.mono fun e w' ⟨u, he, hb, hr⟩ => ?_
  have hr' : VR (fun b o => (fun b _ => b < w.heap.size) b o ∨ w.heap.size ≤ b) w' (.bool true) u := hr
  cases hr'
  exact ⟨he, hb⟩
theorem vr_strs {w : World} : ∀ (l : List ByteArray) (j : Nat) (d : AV) (u : Value), (l.map AV.str)[j]? = some d → (l.map Value.string)[j]? = some u → VR (fun b _ => b < w.heap.size) w d u := by
  intro l j d u hj hu
  rw [List.getElem?_map, Option.map_eq_some_iff] at hj hu
  obtain ⟨x, hx, rfl⟩ := hj
  obtain ⟨y, hy, rfl⟩ := hu
  rw [hx] at hy; cases hy
  exact .str _
theorem texts_walk (a b : ByteArray) (w : World) (hG : Glob w) (h1 : a.size ≤ 281474976710656) (h2 : b.size ≤ 281474976710656) : Calls Tryd.prog 5 #[.string a, .string b] w fun e w' => e = .returned (.bool true) ∧ Below w.heap.size w w' :=
  run_args (vs := [.string a, .string b]) hG rfl (vr_strs [a, b]) (texts_law a b h1 h2)
end Go.Proofs.YtgpoglaojklfbaaDoor
