/-
  The document's messages on the plain machine: may they be, are they few.
-/
import Derived.Test.YtdjkefndigijjaaSqE
namespace Go.Proofs.Ytdjkefndigijjaa
open Go.RowKit
set_option linter.unusedVariables false
set_option linter.unusedSimpArgs false
set_option maxRecDepth 100000
attribute [local go_sem ↓] runOp headOp
attribute [local go_sem] ev0 ev1 ev2 ev3 evA stHOk.eq_1 stHOk.eq_2 stHSt.eq_1 stHSt.eq_2 okV valV fzV okF valF okBld valBld mxOk.eq_1 mxOk.eq_2 mxVal.eq_1 mxVal.eq_2 cellFit.eq_1 cellFit.eq_2 cellFit.eq_3 cellEq.eq_1 cellEq.eq_2 cellEq.eq_3 upd_at AV.flatB AV.flatBs binIok binIV binSok binSV cellsOk.eq_1 cellsOk.eq_2 cellsVal.eq_1 cellsVal.eq_2 objCells.eq_1 objCells.eq_2 objZ.eq_1 objZ.eq_2 objProt.eq_1 objProt.eq_2 oneObj ptrOk.eq_1 ptrOk.eq_2 ptrOk.eq_3 ptrCells.eq_1 ptrCells.eq_2 ptrCells.eq_3 lenOk.eq_1 lenOk.eq_2 lenOk.eq_3 lenOk.eq_4 lenVal.eq_1 lenVal.eq_2 lenVal.eq_3 lenVal.eq_4 faOk.eq_1 faOk.eq_2 faOk.eq_3 faVal.eq_1 faVal.eq_2 faVal.eq_3 iaOk.eq_1 iaOk.eq_2 iaOk.eq_3 iaVal.eq_1 iaVal.eq_2 iaVal.eq_3 slcLen.eq_1 slcLen.eq_2 slcLen.eq_3 slcLen.eq_4 bdOk.eq_1 bdOk.eq_2 bdVal.eq_1 bdVal.eq_2 slcOk.eq_1 slcOk.eq_2 slcOk.eq_3 slcOk.eq_4 slcVal.eq_1 slcVal.eq_2 slcVal.eq_3 slcVal.eq_4 slcFz.eq_1 slcFz.eq_2 byOk.eq_1 byOk.eq_2 byOk.eq_3 byOk.eq_4 byOk.eq_5 byVal.eq_1 byVal.eq_2 byVal.eq_3 byFz.eq_1 byFz.eq_2 byFz.eq_3 byOks byVals byFzs allOne resSt.eq_1 resSt.eq_2 resName.eq_1 resName.eq_2 stOk.eq_1 stOk.eq_2 stArr.eq_1 stArr.eq_2 stSt.eq_1 stSt.eq_2 AV.patch nameOk_none gB.eq_1 gB.eq_2 gB.eq_3 gIs.eq_1 gIs.eq_2 gIs.eq_3 retV resV resVs evalV cellsV St.byval List.getD_cons_zero List.getD_cons_succ List.getD_nil List.map_cons List.map_nil List.length_cons List.length_nil List.take_succ_cons List.take_zero List.drop_succ_cons List.drop_zero List.headD_cons List.set_cons_zero List.append_nil List.nil_append List.cons_append List.contains_cons List.contains_nil List.elem_cons List.elem_nil List.all_cons List.all_nil List.getElem?_cons_zero List.getElem?_cons_succ List.filterMap_cons List.filterMap_nil Option.isSome_some Option.isSome_none Option.map_some Option.map_none Option.some.injEq AV.int.injEq AV.bool.injEq AV.str.injEq AV.tup.injEq AV.agg.injEq AV.sl.injEq List.cons.injEq Bool.false_eq_true Bool.true_eq_false Bool.not_true Bool.not_false Bool.and_true Bool.true_and Bool.or_false Bool.or_true Bool.false_or Bool.true_or Bool.or_self Bool.and_self Bool.not_eq_true' Bool.not_eq_false' Bool.not_not beq_self_eq_true true_and and_true false_and and_false and_self not_true_eq_false not_false_eq_true forall_const true_implies false_implies implies_true imp_self Nat.lt_add_one Nat.le_refl Nat.zero_le Nat.add_zero Nat.zero_add decide_true decide_false decide_eq_true_eq decide_eq_false_iff_not exists_eq_left exists_eq_left' ge_iff_le gt_iff_lt ite_branch ite_branch' nilOk.eq_1 nilOk.eq_2 nilMay.eq_1 nilMay.eq_2 AV.isSl.eq_1 objTy'.eq_1 objTy'.eq_2 apSt.eq_1 apArr.eq_1 apArr.eq_2 slOf.eq_1 fitsV List.mem_cons List.not_mem_nil Bool.false_and Bool.and_false

abbrev nilS (s : ByteArray) : Bool := s.toList == (ByteArray.mk #[]).toList
def Msg.right (m : Msg) : Bool := decide (1 ≤ m.stamp) && decide (m.key.size ≤ 16) && decide (m.val.size ≤ 16) && decide (m.hi.size ≤ 16) &&
  (if m.kind = 4 then nilS m.val && (!m.op || nilS m.hi) && !m.span.empty
   else nilS m.hi && !m.op && ((m.kind == 1) || (m.kind == 2) || ((m.kind == 3) && nilS m.val)))
theorem span_ok {m : Msg} {n : Nat} (h1 : m.key.size + 1 ≤ 9223372036854775807) (h2 : m.hi.size ≤ 9223372036854775807) : SOk m.span := by
  unfold Msg.span SOk pointS
  split
  · exact ⟨by show m.key.size ≤ _; omega, h2⟩
  · refine ⟨by show m.key.size ≤ _; omega, ?_⟩
    show (m.key ++ ⟨#[0]⟩).size ≤ _
    rw [ByteArray.size_append]
    exact h1
/-! ### percolate/percolateref05.Right -/
def r_rRight_0 : Reg := ⟨[], [⟨(.box 6 55 (.t 0)), (some 1), none, [], []⟩, ⟨(.mv (.c (.bool false))), (some 2), none, [], []⟩], [1], [], false⟩
def r_rRight_1 : Reg := ⟨[], [⟨(.faddr 0 (.t 1)), (some 3), none, [], []⟩, ⟨(.load 1 false (.t 3)), (some 4), none, [], []⟩, ⟨(.bin .lss (.t 4) (.c (.int .i64 1))), (some 5), none, [], []⟩, ⟨(.mv (.t 5)), (some 6), none, [], []⟩, ⟨(.faddr 2 (.t 1)), (some 7), (some (6, false)), [], []⟩, ⟨(.load 1 false (.t 7)), (some 8), (some (6, false)), [], []⟩, ⟨(.len true (.t 8)), (some 9), (some (6, false)), [], []⟩, ⟨(.bin .gtr (.t 9) (.c (.int .i64 16))), (some 10), (some (6, false)), [], []⟩, ⟨(.pick (.t 6) (.c (.bool true)) (.t 10)), (some 11), none, [], []⟩, ⟨(.mv (.t 11)), (some 12), none, [], []⟩, ⟨(.faddr 5 (.t 1)), (some 13), (some (12, false)), [], []⟩, ⟨(.load 1 false (.t 13)), (some 14), (some (12, false)), [], []⟩, ⟨(.len true (.t 14)), (some 15), (some (12, false)), [], []⟩, ⟨(.bin .gtr (.t 15) (.c (.int .i64 16))), (some 16), (some (12, false)), [], []⟩, ⟨(.pick (.t 12) (.c (.bool true)) (.t 16)), (some 17), none, [], []⟩, ⟨(.mv (.t 17)), (some 18), none, [], []⟩, ⟨(.faddr 3 (.t 1)), (some 19), (some (18, false)), [], []⟩, ⟨(.load 1 false (.t 19)), (some 20), (some (18, false)), [], []⟩, ⟨(.len true (.t 20)), (some 21), (some (18, false)), [], []⟩, ⟨(.bin .gtr (.t 21) (.c (.int .i64 16))), (some 22), (some (18, false)), [], []⟩, ⟨(.pick (.t 18) (.c (.bool true)) (.t 22)), (some 23), none, [], []⟩], [], [], false⟩
def r_rRight_2 : Reg := ⟨[], [⟨(.mv (.c (.bool false))), (some 2), none, [], []⟩], [], [], false⟩
def r_rRight_3 : Reg := ⟨[], [⟨(.faddr 1 (.t 1)), (some 24), none, [], []⟩, ⟨(.load 1 false (.t 24)), (some 25), none, [], []⟩, ⟨(.bin .eql (.t 25) (.c (.int .i64 4))), (some 26), none, [], []⟩], [], [], false⟩
def r_rRight_4 : Reg := ⟨[], [⟨(.faddr 5 (.t 1)), (some 27), none, [42, 43], []⟩, ⟨(.load 1 false (.t 27)), (some 28), none, [42, 43], []⟩, ⟨(.bin .eql (.t 28) (.c (.str ⟨#[]⟩))), (some 29), none, [42, 43], []⟩, ⟨(.mv (.t 29)), (some 30), none, [42, 43], []⟩, ⟨(.faddr 4 (.t 1)), (some 31), (some (30, true)), [42, 43], []⟩, ⟨(.load 1 false (.t 31)), (some 32), (some (30, true)), [42, 43], []⟩, ⟨(.un .not (.t 32)), (some 33), (some (30, true)), [42, 43], []⟩, ⟨(.mv (.t 33)), (some 34), (some (30, true)), [42, 43], []⟩, ⟨(.faddr 3 (.t 1)), (some 35), (some (34, false)), [42, 43], []⟩, ⟨(.load 1 false (.t 35)), (some 36), (some (34, false)), [42, 43], []⟩, ⟨(.bin .eql (.t 36) (.c (.str ⟨#[]⟩))), (some 37), (some (34, false)), [42, 43], []⟩, ⟨(.pick (.t 34) (.c (.bool true)) (.t 37)), (some 38), (some (30, true)), [42, 43], []⟩, ⟨(.pick (.t 30) (.t 38) (.c (.bool false))), (some 39), none, [42, 43], []⟩, ⟨(.mv (.t 39)), (some 40), none, [42, 43], []⟩, ⟨(.load 6 true (.t 1)), (some 41), (some (40, true)), [42, 43], []⟩, ⟨(.callv (.c (.clo 32 [] [])) [(.t 41)]), (some 42), (some (40, true)), [43], []⟩, ⟨(.callv (.c (.clo 30 [] [])) [(.t 42)]), (some 43), (some (40, true)), [], []⟩, ⟨(.un .not (.t 43)), (some 44), (some (40, true)), [], []⟩, ⟨(.pick (.t 40) (.t 44) (.c (.bool false))), (some 45), none, [], []⟩, ⟨(.mv (.t 45)), (some 2), none, [], []⟩], [42, 43], [], false⟩
def r_rRight_5 : Reg := ⟨[], [⟨(.faddr 3 (.t 1)), (some 46), none, [], []⟩, ⟨(.load 1 false (.t 46)), (some 47), none, [], []⟩, ⟨(.bin .eql (.t 47) (.c (.str ⟨#[]⟩))), (some 48), none, [], []⟩, ⟨(.mv (.t 48)), (some 49), none, [], []⟩, ⟨(.faddr 4 (.t 1)), (some 50), (some (49, true)), [], []⟩, ⟨(.load 1 false (.t 50)), (some 51), (some (49, true)), [], []⟩, ⟨(.un .not (.t 51)), (some 52), (some (49, true)), [], []⟩, ⟨(.pick (.t 49) (.t 52) (.c (.bool false))), (some 53), none, [], []⟩, ⟨(.mv (.t 53)), (some 54), none, [], []⟩, ⟨(.faddr 1 (.t 1)), (some 55), (some (54, true)), [], []⟩, ⟨(.load 1 false (.t 55)), (some 56), (some (54, true)), [], []⟩, ⟨(.bin .eql (.t 56) (.c (.int .i64 1))), (some 57), (some (54, true)), [], []⟩, ⟨(.mv (.t 57)), (some 58), (some (54, true)), [], []⟩, ⟨(.faddr 1 (.t 1)), (some 59), (some (58, false)), [], []⟩, ⟨(.load 1 false (.t 59)), (some 60), (some (58, false)), [], []⟩, ⟨(.bin .eql (.t 60) (.c (.int .i64 2))), (some 61), (some (58, false)), [], []⟩, ⟨(.pick (.t 58) (.c (.bool true)) (.t 61)), (some 62), (some (54, true)), [], []⟩, ⟨(.mv (.t 62)), (some 63), (some (54, true)), [], []⟩, ⟨(.faddr 1 (.t 1)), (some 64), (some (63, false)), [], []⟩, ⟨(.load 1 false (.t 64)), (some 65), (some (63, false)), [], []⟩, ⟨(.bin .eql (.t 65) (.c (.int .i64 3))), (some 66), (some (63, false)), [], []⟩, ⟨(.mv (.t 66)), (some 67), (some (63, false)), [], []⟩, ⟨(.faddr 5 (.t 1)), (some 68), (some (67, true)), [], []⟩, ⟨(.load 1 false (.t 68)), (some 69), (some (67, true)), [], []⟩, ⟨(.bin .eql (.t 69) (.c (.str ⟨#[]⟩))), (some 70), (some (67, true)), [], []⟩, ⟨(.pick (.t 67) (.t 70) (.c (.bool false))), (some 71), (some (63, false)), [], []⟩, ⟨(.pick (.t 63) (.c (.bool true)) (.t 71)), (some 72), (some (54, true)), [], []⟩, ⟨(.pick (.t 54) (.t 72) (.c (.bool false))), (some 73), none, [], []⟩, ⟨(.mv (.t 73)), (some 2), none, [], []⟩], [], [], false⟩
def ir_rRight : IR := (.seq (.reg r_rRight_0)
  (.seq (.seq (.reg r_rRight_1)
  (.cond (.t 23) (.seq (.reg r_rRight_2)
  .ret)
  .skip))
  (.seq (.seq (.reg r_rRight_3)
  (.cond (.t 26) (.seq (.reg r_rRight_4)
  .ret)
  .skip))
  (.seq (.reg r_rRight_5)
  .ret))))
def res_rRight : List RDesc := [(.tmp 2)]
theorem e_rRight_0 (C : FuncId → List AV → AV → Prop) (σ : St) (K : St → Prop) : runReg C r_rRight_0 σ K = runOps C [⟨(.box 6 55 (.t 0)), (some 1), none, [], []⟩, ⟨(.mv (.c (.bool false))), (some 2), none, [], []⟩] (σ.kills [1]) K := rfl
theorem e_rRight_1 (C : FuncId → List AV → AV → Prop) (σ : St) (K : St → Prop) : runReg C r_rRight_1 σ K = runOps C [⟨(.faddr 0 (.t 1)), (some 3), none, [], []⟩, ⟨(.load 1 false (.t 3)), (some 4), none, [], []⟩, ⟨(.bin .lss (.t 4) (.c (.int .i64 1))), (some 5), none, [], []⟩, ⟨(.mv (.t 5)), (some 6), none, [], []⟩, ⟨(.faddr 2 (.t 1)), (some 7), (some (6, false)), [], []⟩, ⟨(.load 1 false (.t 7)), (some 8), (some (6, false)), [], []⟩, ⟨(.len true (.t 8)), (some 9), (some (6, false)), [], []⟩, ⟨(.bin .gtr (.t 9) (.c (.int .i64 16))), (some 10), (some (6, false)), [], []⟩, ⟨(.pick (.t 6) (.c (.bool true)) (.t 10)), (some 11), none, [], []⟩, ⟨(.mv (.t 11)), (some 12), none, [], []⟩, ⟨(.faddr 5 (.t 1)), (some 13), (some (12, false)), [], []⟩, ⟨(.load 1 false (.t 13)), (some 14), (some (12, false)), [], []⟩, ⟨(.len true (.t 14)), (some 15), (some (12, false)), [], []⟩, ⟨(.bin .gtr (.t 15) (.c (.int .i64 16))), (some 16), (some (12, false)), [], []⟩, ⟨(.pick (.t 12) (.c (.bool true)) (.t 16)), (some 17), none, [], []⟩, ⟨(.mv (.t 17)), (some 18), none, [], []⟩, ⟨(.faddr 3 (.t 1)), (some 19), (some (18, false)), [], []⟩, ⟨(.load 1 false (.t 19)), (some 20), (some (18, false)), [], []⟩, ⟨(.len true (.t 20)), (some 21), (some (18, false)), [], []⟩, ⟨(.bin .gtr (.t 21) (.c (.int .i64 16))), (some 22), (some (18, false)), [], []⟩, ⟨(.pick (.t 18) (.c (.bool true)) (.t 22)), (some 23), none, [], []⟩] (σ.kills []) K := rfl
theorem e_rRight_2 (C : FuncId → List AV → AV → Prop) (σ : St) (K : St → Prop) : runReg C r_rRight_2 σ K = runOps C [⟨(.mv (.c (.bool false))), (some 2), none, [], []⟩] (σ.kills []) K := rfl
theorem e_rRight_3 (C : FuncId → List AV → AV → Prop) (σ : St) (K : St → Prop) : runReg C r_rRight_3 σ K = runOps C [⟨(.faddr 1 (.t 1)), (some 24), none, [], []⟩, ⟨(.load 1 false (.t 24)), (some 25), none, [], []⟩, ⟨(.bin .eql (.t 25) (.c (.int .i64 4))), (some 26), none, [], []⟩] (σ.kills []) K := rfl
theorem e_rRight_4 (C : FuncId → List AV → AV → Prop) (σ : St) (K : St → Prop) : runReg C r_rRight_4 σ K = runOps C [⟨(.faddr 5 (.t 1)), (some 27), none, [42, 43], []⟩, ⟨(.load 1 false (.t 27)), (some 28), none, [42, 43], []⟩, ⟨(.bin .eql (.t 28) (.c (.str ⟨#[]⟩))), (some 29), none, [42, 43], []⟩, ⟨(.mv (.t 29)), (some 30), none, [42, 43], []⟩, ⟨(.faddr 4 (.t 1)), (some 31), (some (30, true)), [42, 43], []⟩, ⟨(.load 1 false (.t 31)), (some 32), (some (30, true)), [42, 43], []⟩, ⟨(.un .not (.t 32)), (some 33), (some (30, true)), [42, 43], []⟩, ⟨(.mv (.t 33)), (some 34), (some (30, true)), [42, 43], []⟩, ⟨(.faddr 3 (.t 1)), (some 35), (some (34, false)), [42, 43], []⟩, ⟨(.load 1 false (.t 35)), (some 36), (some (34, false)), [42, 43], []⟩, ⟨(.bin .eql (.t 36) (.c (.str ⟨#[]⟩))), (some 37), (some (34, false)), [42, 43], []⟩, ⟨(.pick (.t 34) (.c (.bool true)) (.t 37)), (some 38), (some (30, true)), [42, 43], []⟩, ⟨(.pick (.t 30) (.t 38) (.c (.bool false))), (some 39), none, [42, 43], []⟩, ⟨(.mv (.t 39)), (some 40), none, [42, 43], []⟩, ⟨(.load 6 true (.t 1)), (some 41), (some (40, true)), [42, 43], []⟩, ⟨(.callv (.c (.clo 32 [] [])) [(.t 41)]), (some 42), (some (40, true)), [43], []⟩, ⟨(.callv (.c (.clo 30 [] [])) [(.t 42)]), (some 43), (some (40, true)), [], []⟩, ⟨(.un .not (.t 43)), (some 44), (some (40, true)), [], []⟩, ⟨(.pick (.t 40) (.t 44) (.c (.bool false))), (some 45), none, [], []⟩, ⟨(.mv (.t 45)), (some 2), none, [], []⟩] (σ.kills [42, 43]) K := rfl
theorem e_rRight_5 (C : FuncId → List AV → AV → Prop) (σ : St) (K : St → Prop) : runReg C r_rRight_5 σ K = runOps C [⟨(.faddr 3 (.t 1)), (some 46), none, [], []⟩, ⟨(.load 1 false (.t 46)), (some 47), none, [], []⟩, ⟨(.bin .eql (.t 47) (.c (.str ⟨#[]⟩))), (some 48), none, [], []⟩, ⟨(.mv (.t 48)), (some 49), none, [], []⟩, ⟨(.faddr 4 (.t 1)), (some 50), (some (49, true)), [], []⟩, ⟨(.load 1 false (.t 50)), (some 51), (some (49, true)), [], []⟩, ⟨(.un .not (.t 51)), (some 52), (some (49, true)), [], []⟩, ⟨(.pick (.t 49) (.t 52) (.c (.bool false))), (some 53), none, [], []⟩, ⟨(.mv (.t 53)), (some 54), none, [], []⟩, ⟨(.faddr 1 (.t 1)), (some 55), (some (54, true)), [], []⟩, ⟨(.load 1 false (.t 55)), (some 56), (some (54, true)), [], []⟩, ⟨(.bin .eql (.t 56) (.c (.int .i64 1))), (some 57), (some (54, true)), [], []⟩, ⟨(.mv (.t 57)), (some 58), (some (54, true)), [], []⟩, ⟨(.faddr 1 (.t 1)), (some 59), (some (58, false)), [], []⟩, ⟨(.load 1 false (.t 59)), (some 60), (some (58, false)), [], []⟩, ⟨(.bin .eql (.t 60) (.c (.int .i64 2))), (some 61), (some (58, false)), [], []⟩, ⟨(.pick (.t 58) (.c (.bool true)) (.t 61)), (some 62), (some (54, true)), [], []⟩, ⟨(.mv (.t 62)), (some 63), (some (54, true)), [], []⟩, ⟨(.faddr 1 (.t 1)), (some 64), (some (63, false)), [], []⟩, ⟨(.load 1 false (.t 64)), (some 65), (some (63, false)), [], []⟩, ⟨(.bin .eql (.t 65) (.c (.int .i64 3))), (some 66), (some (63, false)), [], []⟩, ⟨(.mv (.t 66)), (some 67), (some (63, false)), [], []⟩, ⟨(.faddr 5 (.t 1)), (some 68), (some (67, true)), [], []⟩, ⟨(.load 1 false (.t 68)), (some 69), (some (67, true)), [], []⟩, ⟨(.bin .eql (.t 69) (.c (.str ⟨#[]⟩))), (some 70), (some (67, true)), [], []⟩, ⟨(.pick (.t 67) (.t 70) (.c (.bool false))), (some 71), (some (63, false)), [], []⟩, ⟨(.pick (.t 63) (.c (.bool true)) (.t 71)), (some 72), (some (54, true)), [], []⟩, ⟨(.pick (.t 54) (.t 72) (.c (.bool false))), (some 73), none, [], []⟩, ⟨(.mv (.t 73)), (some 2), none, [], []⟩] (σ.kills []) K := rfl
theorem fn_rRight {args : List AV} {r : AV} (ha : args.length.ble Try.f80.ntmps = true) (h : run (AFn Try.prog) ir_rRight (endQ res_rRight r) (initSt args)) : AFn Try.prog 80 args r :=
  AFn.of_code (hint := fun _ => []) (c := Try.f80.body.getD .skip) (by kernel_rfl) (by kernel_rfl) Try.func80 (by kernel_rfl) (by kernel_rfl) (by kernel_rfl) (of_decide_eq_true (by kernel_rfl)) (Nat.le_of_ble_eq_true ha) (run_ok h)

attribute [local go_sem ↓] ir_rRight
attribute [local go_sem] res_rRight e_rRight_0 e_rRight_1 e_rRight_2 e_rRight_3 e_rRight_4 e_rRight_5

theorem refRight (m : Msg) (hm : m.key.size + 1 ≤ 9223372036854775807 ∧ m.hi.size ≤ 9223372036854775807) : AFn Try.prog 80 [m.a] (.bool m.right) := by
  refine fn_rRight rfl ?_
  by_cases h1 : m.stamp < 1
  · have : ¬ 1 ≤ m.stamp := by omega
    simp (maxSteps := 4000000) only [go_sem, ↓reduceIte, reduceCtorEq, Nat.reduceEqDiff, Nat.reduceBEq, Nat.reduceAdd, Nat.reduceSub, Nat.reduceMul, Nat.reduceLT, Nat.reduceLeDiff, Nat.reduceBNe, Int.reduceBEq, Int.reduceBNe, Int.reduceLT, Int.reduceLE, Spn.a, Msg.a, Eff.a, h1]
    simp [Msg.right, this]
  by_cases h2 : (m.key.size : Int) > 16
  · have : ¬ m.key.size ≤ 16 := by omega
    simp (maxSteps := 4000000) only [go_sem, ↓reduceIte, reduceCtorEq, Nat.reduceEqDiff, Nat.reduceBEq, Nat.reduceAdd, Nat.reduceSub, Nat.reduceMul, Nat.reduceLT, Nat.reduceLeDiff, Nat.reduceBNe, Int.reduceBEq, Int.reduceBNe, Int.reduceLT, Int.reduceLE, Spn.a, Msg.a, Eff.a, h1, h2]
    simp [Msg.right, this]
  by_cases h3 : (m.val.size : Int) > 16
  · have : ¬ m.val.size ≤ 16 := by omega
    simp (maxSteps := 4000000) only [go_sem, ↓reduceIte, reduceCtorEq, Nat.reduceEqDiff, Nat.reduceBEq, Nat.reduceAdd, Nat.reduceSub, Nat.reduceMul, Nat.reduceLT, Nat.reduceLeDiff, Nat.reduceBNe, Int.reduceBEq, Int.reduceBNe, Int.reduceLT, Int.reduceLE, Spn.a, Msg.a, Eff.a, h1, h2, h3]
    simp [Msg.right, this]
  by_cases h4 : (m.hi.size : Int) > 16
  · have : ¬ m.hi.size ≤ 16 := by omega
    simp (maxSteps := 4000000) only [go_sem, ↓reduceIte, reduceCtorEq, Nat.reduceEqDiff, Nat.reduceBEq, Nat.reduceAdd, Nat.reduceSub, Nat.reduceMul, Nat.reduceLT, Nat.reduceLeDiff, Nat.reduceBNe, Int.reduceBEq, Int.reduceBNe, Int.reduceLT, Int.reduceLE, Spn.a, Msg.a, Eff.a, h1, h2, h3, h4]
    simp [Msg.right, this]
  have g1 : 1 ≤ m.stamp := by omega
  have g2 : m.key.size ≤ 16 := by omega
  have g3 : m.val.size ≤ 16 := by omega
  have g4 : m.hi.size ≤ 16 := by omega
  have hr : m.right = (if m.kind = 4 then nilS m.val && (!m.op || nilS m.hi) && !m.span.empty
   else nilS m.hi && !m.op && ((m.kind == 1) || (m.kind == 2) || ((m.kind == 3) && nilS m.val))) := by simp [Msg.right, g1, g2, g3, g4]
  rw [hr]
  cases h : (m.kind == 4) with
  | true =>
    have h' : m.kind = 4 := by simpa using h
    rw [if_pos h']
    have fin : ∀ b, m.span.empty = b → AFn Try.prog 30 [m.span.a] (.bool b) := fun b hb => hb ▸ refEmpty m.span (span_ok (n := 0) hm.1 hm.2)
    have call : (m.val.toList == (ByteArray.mk #[]).toList) = true → (m.op = false ∨ (m.hi.toList == (ByteArray.mk #[]).toList) = true) → run (AFn Try.prog) ir_rRight (endQ res_rRight (.bool (!m.span.empty))) (initSt [m.a]) := by
      intro hv ho
      cases hop : m.op with
      | false =>
        simp (maxSteps := 4000000) only [go_sem, ↓reduceIte, reduceCtorEq, Nat.reduceEqDiff, Nat.reduceBEq, Nat.reduceAdd, Nat.reduceSub, Nat.reduceMul, Nat.reduceLT, Nat.reduceLeDiff, Nat.reduceBNe, Int.reduceBEq, Int.reduceBNe, Int.reduceLT, Int.reduceLE, Spn.a, Msg.a, Eff.a, h1, h2, h3, h4, h, hv, hop]
        have hsp := refSpan m (by omega)
        simp only [Msg.a, hop] at hsp
        (first | refine calling hsp ?_ | refine callingH hsp ?_)
        simp (maxSteps := 4000000) only [go_sem, ↓reduceIte, reduceCtorEq, Nat.reduceEqDiff, Nat.reduceBEq, Nat.reduceAdd, Nat.reduceSub, Nat.reduceMul, Nat.reduceLT, Nat.reduceLeDiff, Nat.reduceBNe, Int.reduceBEq, Int.reduceBNe, Int.reduceLT, Int.reduceLE, Spn.a, Msg.a, Eff.a, h1, h2, h3, h4, h, hv, hop]
        (first | refine calling (refEmpty m.span (span_ok (n := 0) hm.1 hm.2)) ?_ | refine callingH (refEmpty m.span (span_ok (n := 0) hm.1 hm.2)) ?_)
        simp (maxSteps := 4000000) only [go_sem, ↓reduceIte, reduceCtorEq, Nat.reduceEqDiff, Nat.reduceBEq, Nat.reduceAdd, Nat.reduceSub, Nat.reduceMul, Nat.reduceLT, Nat.reduceLeDiff, Nat.reduceBNe, Int.reduceBEq, Int.reduceBNe, Int.reduceLT, Int.reduceLE, Spn.a, Msg.a, Eff.a, h1, h2, h3, h4, h, hv, hop]
      | true =>
        have hh : (m.hi.toList == (ByteArray.mk #[]).toList) = true := by
          rcases ho with ho | ho
          · rw [hop] at ho; cases ho
          · exact ho
        simp (maxSteps := 4000000) only [go_sem, ↓reduceIte, reduceCtorEq, Nat.reduceEqDiff, Nat.reduceBEq, Nat.reduceAdd, Nat.reduceSub, Nat.reduceMul, Nat.reduceLT, Nat.reduceLeDiff, Nat.reduceBNe, Int.reduceBEq, Int.reduceBNe, Int.reduceLT, Int.reduceLE, Spn.a, Msg.a, Eff.a, h1, h2, h3, h4, h, hv, hop, hh]
        have hsp := refSpan m (by omega)
        simp only [Msg.a, hop] at hsp
        (first | refine calling hsp ?_ | refine callingH hsp ?_)
        simp (maxSteps := 4000000) only [go_sem, ↓reduceIte, reduceCtorEq, Nat.reduceEqDiff, Nat.reduceBEq, Nat.reduceAdd, Nat.reduceSub, Nat.reduceMul, Nat.reduceLT, Nat.reduceLeDiff, Nat.reduceBNe, Int.reduceBEq, Int.reduceBNe, Int.reduceLT, Int.reduceLE, Spn.a, Msg.a, Eff.a, h1, h2, h3, h4, h, hv, hop, hh]
        (first | refine calling (refEmpty m.span (span_ok (n := 0) hm.1 hm.2)) ?_ | refine callingH (refEmpty m.span (span_ok (n := 0) hm.1 hm.2)) ?_)
        simp (maxSteps := 4000000) only [go_sem, ↓reduceIte, reduceCtorEq, Nat.reduceEqDiff, Nat.reduceBEq, Nat.reduceAdd, Nat.reduceSub, Nat.reduceMul, Nat.reduceLT, Nat.reduceLeDiff, Nat.reduceBNe, Int.reduceBEq, Int.reduceBNe, Int.reduceLT, Int.reduceLE, Spn.a, Msg.a, Eff.a, h1, h2, h3, h4, h, hv, hop, hh]
    cases hv : (m.val.toList == (ByteArray.mk #[]).toList) with
    | false =>
      simp (maxSteps := 4000000) only [go_sem, ↓reduceIte, reduceCtorEq, Nat.reduceEqDiff, Nat.reduceBEq, Nat.reduceAdd, Nat.reduceSub, Nat.reduceMul, Nat.reduceLT, Nat.reduceLeDiff, Nat.reduceBNe, Int.reduceBEq, Int.reduceBNe, Int.reduceLT, Int.reduceLE, Spn.a, Msg.a, Eff.a, h1, h2, h3, h4, h, hv]
    | true =>
      cases hop : m.op with
      | false => simpa [hv, hop] using call hv (.inl hop)
      | true =>
        cases hh : (m.hi.toList == (ByteArray.mk #[]).toList) with
        | false => 
          simp (maxSteps := 4000000) only [go_sem, ↓reduceIte, reduceCtorEq, Nat.reduceEqDiff, Nat.reduceBEq, Nat.reduceAdd, Nat.reduceSub, Nat.reduceMul, Nat.reduceLT, Nat.reduceLeDiff, Nat.reduceBNe, Int.reduceBEq, Int.reduceBNe, Int.reduceLT, Int.reduceLE, Spn.a, Msg.a, Eff.a, h1, h2, h3, h4, h, hv, hop, hh]
        | true => simpa [hv, hop, hh] using call hv (.inr hh)
  | false =>
    have h' : m.kind ≠ 4 := by simpa using h
    rw [if_neg h']
    simp (maxSteps := 4000000) only [go_sem, ↓reduceIte, reduceCtorEq, Nat.reduceEqDiff, Nat.reduceBEq, Nat.reduceAdd, Nat.reduceSub, Nat.reduceMul, Nat.reduceLT, Nat.reduceLeDiff, Nat.reduceBNe, Int.reduceBEq, Int.reduceBNe, Int.reduceLT, Int.reduceLE, Spn.a, Msg.a, Eff.a, h1, h2, h3, h4, h]
    refine ⟨fun a => ⟨fun b => ⟨fun c => ⟨fun d => ⟨fun e => ?_, fun e => ?_⟩, fun d => ?_⟩, fun c => ?_⟩, fun b => ?_⟩, fun a => ?_⟩ <;> simp only [nilS, *, Bool.not_false, Bool.not_true, Bool.and_true, Bool.true_and, Bool.and_false, Bool.false_and, Bool.or_true, Bool.true_or, Bool.or_false, Bool.false_or]

/-! ### Few, All -/
def Msg.bulk (m : Msg) : Nat := 1 + m.key.size + m.hi.size + m.val.size
def bulks : List Msg → Nat
  | [] => 0
  | m :: l => m.bulk + bulks l
def fewInv (l : List Msg) (most : Int) (r : Bool) (k : Nat) (σ : St) : Prop :=
  ∃ (j n : Nat), j ≤ l.length ∧ k = l.length - j ∧ σ.T 0 = .sl (l.map Msg.a) ∧ σ.T 1 = .int .i64 most ∧ σ.T 5 = .int .i64 n ∧ σ.T 6 = .int .i64 j ∧ (0 < j → n ≤ 900000000000000) ∧ n ≤ 900000000000000 ∧ decide (((n + bulks (l.drop j) : Nat) : Int) ≤ most) = r
/-! ### percolate/percolateref05.Few -/
def r_rFew_0 : Reg := ⟨[], [⟨(.mv (.c (.bool false))), (some 4), none, [], []⟩], [], [], false⟩
def r_rFew_1 : Reg := ⟨[], [⟨(.mv (.c (.int .i64 0))), (some 5), none, [], []⟩], [], [], false⟩
def r_rFew_2 : Reg := ⟨[], [⟨(.mv (.c (.int .i64 0))), (some 6), none, [], []⟩], [], [], false⟩
def r_rFew_3 : Reg := ⟨[], [⟨(.mv (.t 6)), (some 7), none, [], []⟩, ⟨(.mv (.t 0)), (some 8), none, [], []⟩, ⟨(.len false (.t 8)), (some 9), none, [], []⟩, ⟨(.bin .lss (.t 7) (.t 9)), (some 10), none, [], []⟩, ⟨(.mv (.t 10)), (some 11), none, [], []⟩, ⟨(.mv (.t 5)), (some 12), (some (11, true)), [], []⟩, ⟨(.mv (.t 1)), (some 13), (some (11, true)), [], []⟩, ⟨(.bin .leq (.t 12) (.t 13)), (some 14), (some (11, true)), [], []⟩, ⟨(.pick (.t 11) (.t 14) (.c (.bool false))), (some 15), none, [], []⟩], [], [], false⟩
def r_rFew_4 : Reg := ⟨[⟨(.mv (.t 5)), (some 18), none, [], []⟩, ⟨(.mv (.t 0)), (some 19), none, [], []⟩, ⟨(.mv (.t 6)), (some 20), none, [], []⟩, ⟨(.iaddr 6 (.t 19) (.t 20)), (some 21), none, [], []⟩, ⟨(.faddr 2 (.t 21)), (some 22), none, [], []⟩, ⟨(.load 1 false (.t 22)), (some 23), none, [], []⟩, ⟨(.len true (.t 23)), (some 24), none, [], []⟩, ⟨(.bin .add (.c (.int .i64 1)) (.t 24)), (some 25), none, [], []⟩, ⟨(.mv (.t 0)), (some 26), none, [], []⟩, ⟨(.mv (.t 6)), (some 27), none, [], []⟩, ⟨(.iaddr 6 (.t 26) (.t 27)), (some 28), none, [], []⟩, ⟨(.faddr 3 (.t 28)), (some 29), none, [], []⟩, ⟨(.load 1 false (.t 29)), (some 30), none, [], []⟩, ⟨(.len true (.t 30)), (some 31), none, [], []⟩, ⟨(.bin .add (.t 25) (.t 31)), (some 32), none, [], []⟩, ⟨(.mv (.t 0)), (some 33), none, [], []⟩, ⟨(.mv (.t 6)), (some 34), none, [], []⟩, ⟨(.iaddr 6 (.t 33) (.t 34)), (some 35), none, [], []⟩, ⟨(.faddr 5 (.t 35)), (some 36), none, [], []⟩, ⟨(.load 1 false (.t 36)), (some 37), none, [], []⟩, ⟨(.len true (.t 37)), (some 38), none, [], []⟩, ⟨(.bin .add (.t 32) (.t 38)), (some 39), none, [], []⟩], [⟨(.bin .add (.t 18) (.t 39)), (some 40), none, [], []⟩, ⟨(.mv (.t 40)), (some 5), none, [], []⟩], [], [], true⟩
def r_rFew_5 : Reg := ⟨[], [⟨(.mv (.t 6)), (some 16), none, [], []⟩, ⟨(.bin .add (.t 16) (.c (.int .i64 1))), (some 17), none, [], []⟩, ⟨(.mv (.t 17)), (some 6), none, [], []⟩], [], [], false⟩
def r_rFew_l6 : IR := (.seq (.seq (.reg r_rFew_3)
  (.cond (.t 15) .skip
  (.exit 0)))
  (.seq (.block 1 (.reg r_rFew_4))
  (.reg r_rFew_5)))
def r_rFew_7 : Reg := ⟨[], [⟨(.mv (.t 5)), (some 41), none, [], []⟩, ⟨(.mv (.t 1)), (some 42), none, [], []⟩, ⟨(.bin .leq (.t 41) (.t 42)), (some 43), none, [], []⟩, ⟨(.mv (.t 43)), (some 4), none, [], []⟩], [], [], false⟩
def ir_rFew : IR := (.seq (.reg r_rFew_0)
  (.seq (.reg r_rFew_1)
  (.seq (.seq (.reg r_rFew_2)
  (.block 0 (.loop r_rFew_l6)))
  (.seq (.reg r_rFew_7)
  .ret))))
def res_rFew : List RDesc := [(.tmp 4)]
theorem e_rFew_0 (C : FuncId → List AV → AV → Prop) (σ : St) (K : St → Prop) : runReg C r_rFew_0 σ K = runOps C [⟨(.mv (.c (.bool false))), (some 4), none, [], []⟩] (σ.kills []) K := rfl
theorem e_rFew_1 (C : FuncId → List AV → AV → Prop) (σ : St) (K : St → Prop) : runReg C r_rFew_1 σ K = runOps C [⟨(.mv (.c (.int .i64 0))), (some 5), none, [], []⟩] (σ.kills []) K := rfl
theorem e_rFew_2 (C : FuncId → List AV → AV → Prop) (σ : St) (K : St → Prop) : runReg C r_rFew_2 σ K = runOps C [⟨(.mv (.c (.int .i64 0))), (some 6), none, [], []⟩] (σ.kills []) K := rfl
theorem e_rFew_3 (C : FuncId → List AV → AV → Prop) (σ : St) (K : St → Prop) : runReg C r_rFew_3 σ K = runOps C [⟨(.mv (.t 6)), (some 7), none, [], []⟩, ⟨(.mv (.t 0)), (some 8), none, [], []⟩, ⟨(.len false (.t 8)), (some 9), none, [], []⟩, ⟨(.bin .lss (.t 7) (.t 9)), (some 10), none, [], []⟩, ⟨(.mv (.t 10)), (some 11), none, [], []⟩, ⟨(.mv (.t 5)), (some 12), (some (11, true)), [], []⟩, ⟨(.mv (.t 1)), (some 13), (some (11, true)), [], []⟩, ⟨(.bin .leq (.t 12) (.t 13)), (some 14), (some (11, true)), [], []⟩, ⟨(.pick (.t 11) (.t 14) (.c (.bool false))), (some 15), none, [], []⟩] (σ.kills []) K := rfl
theorem e_rFew_4 (C : FuncId → List AV → AV → Prop) (σ : St) (K : St → Prop) : runReg C r_rFew_4 σ K = runHead C [] [⟨(.bin .add (.t 18) (.t 39)), (some 40), none, [], []⟩, ⟨(.mv (.t 40)), (some 5), none, [], []⟩] [⟨(.mv (.t 5)), (some 18), none, [], []⟩, ⟨(.mv (.t 0)), (some 19), none, [], []⟩, ⟨(.mv (.t 6)), (some 20), none, [], []⟩, ⟨(.iaddr 6 (.t 19) (.t 20)), (some 21), none, [], []⟩, ⟨(.faddr 2 (.t 21)), (some 22), none, [], []⟩, ⟨(.load 1 false (.t 22)), (some 23), none, [], []⟩, ⟨(.len true (.t 23)), (some 24), none, [], []⟩, ⟨(.bin .add (.c (.int .i64 1)) (.t 24)), (some 25), none, [], []⟩, ⟨(.mv (.t 0)), (some 26), none, [], []⟩, ⟨(.mv (.t 6)), (some 27), none, [], []⟩, ⟨(.iaddr 6 (.t 26) (.t 27)), (some 28), none, [], []⟩, ⟨(.faddr 3 (.t 28)), (some 29), none, [], []⟩, ⟨(.load 1 false (.t 29)), (some 30), none, [], []⟩, ⟨(.len true (.t 30)), (some 31), none, [], []⟩, ⟨(.bin .add (.t 25) (.t 31)), (some 32), none, [], []⟩, ⟨(.mv (.t 0)), (some 33), none, [], []⟩, ⟨(.mv (.t 6)), (some 34), none, [], []⟩, ⟨(.iaddr 6 (.t 33) (.t 34)), (some 35), none, [], []⟩, ⟨(.faddr 5 (.t 35)), (some 36), none, [], []⟩, ⟨(.load 1 false (.t 36)), (some 37), none, [], []⟩, ⟨(.len true (.t 37)), (some 38), none, [], []⟩, ⟨(.bin .add (.t 32) (.t 38)), (some 39), none, [], []⟩] (σ.kills []) K := rfl
theorem e_rFew_5 (C : FuncId → List AV → AV → Prop) (σ : St) (K : St → Prop) : runReg C r_rFew_5 σ K = runOps C [⟨(.mv (.t 6)), (some 16), none, [], []⟩, ⟨(.bin .add (.t 16) (.c (.int .i64 1))), (some 17), none, [], []⟩, ⟨(.mv (.t 17)), (some 6), none, [], []⟩] (σ.kills []) K := rfl
theorem e_rFew_7 (C : FuncId → List AV → AV → Prop) (σ : St) (K : St → Prop) : runReg C r_rFew_7 σ K = runOps C [⟨(.mv (.t 5)), (some 41), none, [], []⟩, ⟨(.mv (.t 1)), (some 42), none, [], []⟩, ⟨(.bin .leq (.t 41) (.t 42)), (some 43), none, [], []⟩, ⟨(.mv (.t 43)), (some 4), none, [], []⟩] (σ.kills []) K := rfl
theorem fn_rFew {args : List AV} {r : AV} (ha : args.length.ble Try.f26.ntmps = true) (h : run (AFn Try.prog) ir_rFew (endQ res_rFew r) (initSt args)) : AFn Try.prog 26 args r :=
  AFn.of_code (hint := fun _ => []) (c := Try.f26.body.getD .skip) (by kernel_rfl) (by kernel_rfl) Try.func26 (by kernel_rfl) (by kernel_rfl) (by kernel_rfl) (of_decide_eq_true (by kernel_rfl)) (Nat.le_of_ble_eq_true ha) (run_ok h)

attribute [local go_sem ↓] ir_rFew
attribute [local go_sem] res_rFew e_rFew_0 e_rFew_1 e_rFew_2 e_rFew_3 e_rFew_4 e_rFew_5 e_rFew_7

theorem refFew (l : List Msg) (most : Int) (h1 : 0 ≤ most) (h2 : most ≤ 1000000) (hs : ∀ m, m ∈ l → m.key.size ≤ 281474976710656 ∧ m.hi.size ≤ 281474976710656 ∧ m.val.size ≤ 281474976710656) (hl : l.length ≤ 281474976710656) :
    AFn Try.prog 26 [.sl (l.map Msg.a), .int .i64 most] (.bool (decide ((bulks l : Int) ≤ most))) := by
  refine fn_rFew rfl ?_
  simp (maxSteps := 4000000) only [go_sem, ↓reduceIte, reduceCtorEq, Nat.reduceEqDiff, Nat.reduceBEq, Nat.reduceAdd, Nat.reduceSub, Nat.reduceMul, Nat.reduceLT, Nat.reduceLeDiff, Nat.reduceBNe, Int.reduceBEq, Int.reduceBNe, Int.reduceLT, Int.reduceLE, Spn.a, Msg.a, Eff.a]
  refine run_loop (fewInv l most (decide ((bulks l : Int) ≤ most))) (k := l.length) ⟨0, 0, by omega, rfl, ?_, ?_, ?_, ?_, by omega, by omega, ?_⟩ ?_
  · simp (maxSteps := 4000000) only [go_sem, ↓reduceIte, reduceCtorEq, Nat.reduceEqDiff, Nat.reduceBEq, Nat.reduceAdd, Nat.reduceSub, Nat.reduceMul, Nat.reduceLT, Nat.reduceLeDiff, Nat.reduceBNe, Int.reduceBEq, Int.reduceBNe, Int.reduceLT, Int.reduceLE, Spn.a, Msg.a, Eff.a]
  · simp (maxSteps := 4000000) only [go_sem, ↓reduceIte, reduceCtorEq, Nat.reduceEqDiff, Nat.reduceBEq, Nat.reduceAdd, Nat.reduceSub, Nat.reduceMul, Nat.reduceLT, Nat.reduceLeDiff, Nat.reduceBNe, Int.reduceBEq, Int.reduceBNe, Int.reduceLT, Int.reduceLE, Spn.a, Msg.a, Eff.a]
  · simp (maxSteps := 4000000) only [go_sem, ↓reduceIte, reduceCtorEq, Nat.reduceEqDiff, Nat.reduceBEq, Nat.reduceAdd, Nat.reduceSub, Nat.reduceMul, Nat.reduceLT, Nat.reduceLeDiff, Nat.reduceBNe, Int.reduceBEq, Int.reduceBNe, Int.reduceLT, Int.reduceLE, Spn.a, Msg.a, Eff.a]
    rfl
  · simp (maxSteps := 4000000) only [go_sem, ↓reduceIte, reduceCtorEq, Nat.reduceEqDiff, Nat.reduceBEq, Nat.reduceAdd, Nat.reduceSub, Nat.reduceMul, Nat.reduceLT, Nat.reduceLeDiff, Nat.reduceBNe, Int.reduceBEq, Int.reduceBNe, Int.reduceLT, Int.reduceLE, Spn.a, Msg.a, Eff.a]
    rfl
  · simp
  rintro k σ ⟨j, n, hj, rfl, t0, t1, t5, t6, hn, hn2, hr⟩
  simp only [r_rFew_l6]
  by_cases hlt : j < l.length
  · have hlt' : (j : Int) < (l.length : Int) := by omega
    by_cases hm : (n : Int) ≤ most
    · obtain ⟨x, hx⟩ : ∃ x, l[j]? = some x := ⟨_, List.getElem?_eq_getElem hlt⟩
      have hgj : (l.map Msg.a).getD j .und = .agg [.int .i64 x.stamp, .int .i64 x.kind, .str x.key, .str x.hi, .bool x.op, .str x.val] := by rw [List.getD_eq_getElem?_getD, List.getElem?_map, hx]; rfl
      have hw : IntKind.i64.wrap ((j : Int) + 1) = ((j + 1 : Nat) : Int) := by rw [IntWalk.i64_in _ (by omega)]; rfl
      obtain ⟨s1, s2, s3⟩ := hs x (List.mem_of_getElem? hx)
      have w1 : IntKind.i64.wrap (1 + (x.key.size : Int)) = 1 + (x.key.size : Int) := IntWalk.i64_in _ (by omega)
      have w2 : IntKind.i64.wrap (1 + (x.key.size : Int) + (x.hi.size : Int)) = 1 + (x.key.size : Int) + (x.hi.size : Int) := IntWalk.i64_in _ (by omega)
      have w3 : IntKind.i64.wrap (1 + (x.key.size : Int) + (x.hi.size : Int) + (x.val.size : Int)) = 1 + (x.key.size : Int) + (x.hi.size : Int) + (x.val.size : Int) := IntWalk.i64_in _ (by omega)
      have w4 : IntKind.i64.wrap ((n : Int) + (1 + (x.key.size : Int) + (x.hi.size : Int) + (x.val.size : Int))) = ((n + x.bulk : Nat) : Int) := by
        rw [IntWalk.i64_in _ (by omega)]; unfold Msg.bulk; omega
      have hd : bulks (l.drop j) = x.bulk + bulks (l.drop (j + 1)) := by
        rw [List.drop_eq_getElem_cons hlt]
        have : l[j] = x := by have := List.getElem?_eq_getElem hlt; rw [hx] at this; cases this; rfl
        rw [this]; rfl
      simp (maxSteps := 4000000) only [go_sem, ↓reduceIte, reduceCtorEq, Nat.reduceEqDiff, Nat.reduceBEq, Nat.reduceAdd, Nat.reduceSub, Nat.reduceMul, Nat.reduceLT, Nat.reduceLeDiff, Nat.reduceBNe, Int.reduceBEq, Int.reduceBNe, Int.reduceLT, Int.reduceLE, Spn.a, Msg.a, Eff.a, t0, t1, t5, t6, hlt', hm, hgj, List.length_map, Int.toNat_natCast, w1, w2, w3, w4, hw]
      refine ⟨by omega, by omega, by omega, l.length - (j + 1), by omega, j + 1, n + x.bulk, by omega, rfl, ?_, ?_, ?_, ?_, fun _ => by unfold Msg.bulk; omega, by unfold Msg.bulk; omega, ?_⟩
      · simp (maxSteps := 4000000) only [go_sem, ↓reduceIte, reduceCtorEq, Nat.reduceEqDiff, Nat.reduceBEq, Nat.reduceAdd, Nat.reduceSub, Nat.reduceMul, Nat.reduceLT, Nat.reduceLeDiff, Nat.reduceBNe, Int.reduceBEq, Int.reduceBNe, Int.reduceLT, Int.reduceLE, Spn.a, Msg.a, Eff.a, t0, t1, t5, t6]
      · simp (maxSteps := 4000000) only [go_sem, ↓reduceIte, reduceCtorEq, Nat.reduceEqDiff, Nat.reduceBEq, Nat.reduceAdd, Nat.reduceSub, Nat.reduceMul, Nat.reduceLT, Nat.reduceLeDiff, Nat.reduceBNe, Int.reduceBEq, Int.reduceBNe, Int.reduceLT, Int.reduceLE, Spn.a, Msg.a, Eff.a, t0, t1, t5, t6]
      · simp (maxSteps := 4000000) only [go_sem, ↓reduceIte, reduceCtorEq, Nat.reduceEqDiff, Nat.reduceBEq, Nat.reduceAdd, Nat.reduceSub, Nat.reduceMul, Nat.reduceLT, Nat.reduceLeDiff, Nat.reduceBNe, Int.reduceBEq, Int.reduceBNe, Int.reduceLT, Int.reduceLE, Spn.a, Msg.a, Eff.a, t0, t1, t5, t6]
      · simp (maxSteps := 4000000) only [go_sem, ↓reduceIte, reduceCtorEq, Nat.reduceEqDiff, Nat.reduceBEq, Nat.reduceAdd, Nat.reduceSub, Nat.reduceMul, Nat.reduceLT, Nat.reduceLeDiff, Nat.reduceBNe, Int.reduceBEq, Int.reduceBNe, Int.reduceLT, Int.reduceLE, Spn.a, Msg.a, Eff.a, t0, t1, t5, t6]
      · rw [← hr, hd, Nat.add_assoc]
    · simp (maxSteps := 4000000) only [go_sem, ↓reduceIte, reduceCtorEq, Nat.reduceEqDiff, Nat.reduceBEq, Nat.reduceAdd, Nat.reduceSub, Nat.reduceMul, Nat.reduceLT, Nat.reduceLeDiff, Nat.reduceBNe, Int.reduceBEq, Int.reduceBNe, Int.reduceLT, Int.reduceLE, Spn.a, Msg.a, Eff.a, t0, t1, t5, t6, hlt', hm, List.length_map]
      have : ¬ ((n + bulks (l.drop j) : Nat) : Int) ≤ most := by omega
      rw [decide_eq_false this] at hr
      exact of_decide_eq_false hr.symm
  · have hlt' : ¬ (j : Int) < (l.length : Int) := by omega
    simp (maxSteps := 4000000) only [go_sem, ↓reduceIte, reduceCtorEq, Nat.reduceEqDiff, Nat.reduceBEq, Nat.reduceAdd, Nat.reduceSub, Nat.reduceMul, Nat.reduceLT, Nat.reduceLeDiff, Nat.reduceBNe, Int.reduceBEq, Int.reduceBNe, Int.reduceLT, Int.reduceLE, Spn.a, Msg.a, Eff.a, t0, t1, t5, t6, hlt', List.length_map]
    rw [← hr, List.drop_eq_nil_of_le (by omega)]
    exact decide_eq_decide.2 Iff.rfl
def AllProp : List Msg → Bool
  | [] => true
  | m :: l => m.right && (match l with | [] => true | x :: _ => decide (m.stamp < x.stamp)) && AllProp l
/-! ### percolate/percolateref05.All -/
def r_rAll_0 : Reg := ⟨[], [⟨(.mv (.c (.bool false))), (some 2), none, [], []⟩], [], [], false⟩
def r_rAll_1 : Reg := ⟨[], [⟨(.mv (.c (.int .i64 0))), (some 3), none, [], []⟩], [], [], false⟩
def r_rAll_2 : Reg := ⟨[], [⟨(.mv (.t 3)), (some 4), none, [], []⟩, ⟨(.mv (.t 0)), (some 5), none, [], []⟩, ⟨(.len false (.t 5)), (some 6), none, [], []⟩, ⟨(.bin .lss (.t 4) (.t 6)), (some 7), none, [], []⟩], [], [], false⟩
def r_rAll_3 : Reg := ⟨[⟨(.mv (.t 0)), (some 10), none, [14], []⟩, ⟨(.mv (.t 3)), (some 11), none, [14], []⟩, ⟨(.iaddr 6 (.t 10) (.t 11)), (some 12), none, [14], []⟩, ⟨(.load 6 true (.t 12)), (some 13), none, [14], []⟩, ⟨(.callv (.c (.clo 80 [] [])) [(.t 13)]), (some 14), none, [], []⟩, ⟨(.un .not (.t 14)), (some 15), none, [], []⟩, ⟨(.mv (.t 15)), (some 16), none, [], []⟩, ⟨(.mv (.t 3)), (some 17), (some (16, false)), [], []⟩, ⟨(.bin .gtr (.t 17) (.c (.int .i64 0))), (some 18), (some (16, false)), [], []⟩, ⟨(.mv (.t 18)), (some 19), (some (16, false)), [], []⟩, ⟨(.mv (.t 0)), (some 20), (some (19, true)), [], []⟩, ⟨(.mv (.t 3)), (some 21), (some (19, true)), [], []⟩, ⟨(.iaddr 6 (.t 20) (.t 21)), (some 22), (some (19, true)), [], []⟩, ⟨(.faddr 0 (.t 22)), (some 23), (some (19, true)), [], []⟩, ⟨(.load 1 false (.t 23)), (some 24), (some (19, true)), [], []⟩, ⟨(.mv (.t 0)), (some 25), (some (19, true)), [], []⟩, ⟨(.mv (.t 3)), (some 26), (some (19, true)), [], []⟩, ⟨(.bin .sub (.t 26) (.c (.int .i64 1))), (some 27), (some (19, true)), [], []⟩, ⟨(.iaddr 6 (.t 25) (.t 27)), (some 28), (some (19, true)), [], []⟩, ⟨(.faddr 0 (.t 28)), (some 29), (some (19, true)), [], []⟩, ⟨(.load 1 false (.t 29)), (some 30), (some (19, true)), [], []⟩], [⟨(.bin .leq (.t 24) (.t 30)), (some 31), (some (19, true)), [], []⟩, ⟨(.pick (.t 19) (.t 31) (.c (.bool false))), (some 32), (some (16, false)), [], []⟩, ⟨(.pick (.t 16) (.c (.bool true)) (.t 32)), (some 33), none, [], []⟩], [14], [], true⟩
def r_rAll_4 : Reg := ⟨[], [⟨(.mv (.c (.bool false))), (some 2), none, [], []⟩], [], [], false⟩
def r_rAll_5 : Reg := ⟨[], [⟨(.mv (.t 3)), (some 8), none, [], []⟩, ⟨(.bin .add (.t 8) (.c (.int .i64 1))), (some 9), none, [], []⟩, ⟨(.mv (.t 9)), (some 3), none, [], []⟩], [], [], false⟩
def r_rAll_l6 : IR := (.seq (.seq (.reg r_rAll_2)
  (.cond (.t 7) .skip
  (.exit 0)))
  (.seq (.block 1 (.seq (.reg r_rAll_3)
  (.cond (.t 33) (.seq (.reg r_rAll_4)
  .ret)
  .skip)))
  (.reg r_rAll_5)))
def r_rAll_7 : Reg := ⟨[], [⟨(.mv (.c (.bool true))), (some 2), none, [], []⟩], [], [], false⟩
def ir_rAll : IR := (.seq (.reg r_rAll_0)
  (.seq (.seq (.reg r_rAll_1)
  (.block 0 (.loop r_rAll_l6)))
  (.seq (.reg r_rAll_7)
  .ret)))
def res_rAll : List RDesc := [(.tmp 2)]
theorem e_rAll_0 (C : FuncId → List AV → AV → Prop) (σ : St) (K : St → Prop) : runReg C r_rAll_0 σ K = runOps C [⟨(.mv (.c (.bool false))), (some 2), none, [], []⟩] (σ.kills []) K := rfl
theorem e_rAll_1 (C : FuncId → List AV → AV → Prop) (σ : St) (K : St → Prop) : runReg C r_rAll_1 σ K = runOps C [⟨(.mv (.c (.int .i64 0))), (some 3), none, [], []⟩] (σ.kills []) K := rfl
theorem e_rAll_2 (C : FuncId → List AV → AV → Prop) (σ : St) (K : St → Prop) : runReg C r_rAll_2 σ K = runOps C [⟨(.mv (.t 3)), (some 4), none, [], []⟩, ⟨(.mv (.t 0)), (some 5), none, [], []⟩, ⟨(.len false (.t 5)), (some 6), none, [], []⟩, ⟨(.bin .lss (.t 4) (.t 6)), (some 7), none, [], []⟩] (σ.kills []) K := rfl
theorem e_rAll_3 (C : FuncId → List AV → AV → Prop) (σ : St) (K : St → Prop) : runReg C r_rAll_3 σ K = runHead C [] [⟨(.bin .leq (.t 24) (.t 30)), (some 31), (some (19, true)), [], []⟩, ⟨(.pick (.t 19) (.t 31) (.c (.bool false))), (some 32), (some (16, false)), [], []⟩, ⟨(.pick (.t 16) (.c (.bool true)) (.t 32)), (some 33), none, [], []⟩] [⟨(.mv (.t 0)), (some 10), none, [14], []⟩, ⟨(.mv (.t 3)), (some 11), none, [14], []⟩, ⟨(.iaddr 6 (.t 10) (.t 11)), (some 12), none, [14], []⟩, ⟨(.load 6 true (.t 12)), (some 13), none, [14], []⟩, ⟨(.callv (.c (.clo 80 [] [])) [(.t 13)]), (some 14), none, [], []⟩, ⟨(.un .not (.t 14)), (some 15), none, [], []⟩, ⟨(.mv (.t 15)), (some 16), none, [], []⟩, ⟨(.mv (.t 3)), (some 17), (some (16, false)), [], []⟩, ⟨(.bin .gtr (.t 17) (.c (.int .i64 0))), (some 18), (some (16, false)), [], []⟩, ⟨(.mv (.t 18)), (some 19), (some (16, false)), [], []⟩, ⟨(.mv (.t 0)), (some 20), (some (19, true)), [], []⟩, ⟨(.mv (.t 3)), (some 21), (some (19, true)), [], []⟩, ⟨(.iaddr 6 (.t 20) (.t 21)), (some 22), (some (19, true)), [], []⟩, ⟨(.faddr 0 (.t 22)), (some 23), (some (19, true)), [], []⟩, ⟨(.load 1 false (.t 23)), (some 24), (some (19, true)), [], []⟩, ⟨(.mv (.t 0)), (some 25), (some (19, true)), [], []⟩, ⟨(.mv (.t 3)), (some 26), (some (19, true)), [], []⟩, ⟨(.bin .sub (.t 26) (.c (.int .i64 1))), (some 27), (some (19, true)), [], []⟩, ⟨(.iaddr 6 (.t 25) (.t 27)), (some 28), (some (19, true)), [], []⟩, ⟨(.faddr 0 (.t 28)), (some 29), (some (19, true)), [], []⟩, ⟨(.load 1 false (.t 29)), (some 30), (some (19, true)), [], []⟩] (σ.kills [14]) K := rfl
theorem e_rAll_4 (C : FuncId → List AV → AV → Prop) (σ : St) (K : St → Prop) : runReg C r_rAll_4 σ K = runOps C [⟨(.mv (.c (.bool false))), (some 2), none, [], []⟩] (σ.kills []) K := rfl
theorem e_rAll_5 (C : FuncId → List AV → AV → Prop) (σ : St) (K : St → Prop) : runReg C r_rAll_5 σ K = runOps C [⟨(.mv (.t 3)), (some 8), none, [], []⟩, ⟨(.bin .add (.t 8) (.c (.int .i64 1))), (some 9), none, [], []⟩, ⟨(.mv (.t 9)), (some 3), none, [], []⟩] (σ.kills []) K := rfl
theorem e_rAll_7 (C : FuncId → List AV → AV → Prop) (σ : St) (K : St → Prop) : runReg C r_rAll_7 σ K = runOps C [⟨(.mv (.c (.bool true))), (some 2), none, [], []⟩] (σ.kills []) K := rfl
theorem fn_rAll {args : List AV} {r : AV} (ha : args.length.ble Try.f27.ntmps = true) (h : run (AFn Try.prog) ir_rAll (endQ res_rAll r) (initSt args)) : AFn Try.prog 27 args r :=
  AFn.of_code (hint := fun _ => []) (c := Try.f27.body.getD .skip) (by kernel_rfl) (by kernel_rfl) Try.func27 (by kernel_rfl) (by kernel_rfl) (by kernel_rfl) (of_decide_eq_true (by kernel_rfl)) (Nat.le_of_ble_eq_true ha) (run_ok h)

attribute [local go_sem ↓] ir_rAll
attribute [local go_sem] res_rAll e_rAll_0 e_rAll_1 e_rAll_2 e_rAll_3 e_rAll_4 e_rAll_5 e_rAll_7

def allTail (l : List Msg) (j : Nat) : Bool := AllProp (l.drop j) && (j == 0 || match l[j - 1]?, l[j]? with | some a, some b => decide (a.stamp < b.stamp) | _, _ => true)
def allInv (l : List Msg) (r : Bool) (k : Nat) (σ : St) : Prop :=
  ∃ j : Nat, j ≤ l.length ∧ k = l.length - j ∧ σ.T 0 = .sl (l.map Msg.a) ∧ σ.T 3 = .int .i64 j ∧ allTail l j = r
theorem allTail_step {l : List Msg} {j : Nat} {x : Msg} (hx : l[j]? = some x) : allTail l j = (x.right && (j == 0 || match l[j - 1]? with | some a => decide (a.stamp < x.stamp) | none => true) && allTail l (j + 1)) := by
  have hlt := (List.getElem?_eq_some_iff.1 hx).1
  have e : l[j] = x := (List.getElem?_eq_some_iff.1 hx).2
  unfold allTail
  rw [List.drop_eq_getElem_cons hlt, e]
  have h2 : (match l.drop (j + 1) with | [] => true | y :: _ => decide (x.stamp < y.stamp)) = (match l[j + 1]? with | some b => decide (x.stamp < b.stamp) | none => true) := by
    rcases Nat.lt_or_ge (j + 1) l.length with h | h
    · rw [List.drop_eq_getElem_cons h, List.getElem?_eq_getElem h]
    · rw [List.drop_eq_nil_of_le h, List.getElem?_eq_none h]
  simp only [AllProp, h2, Nat.add_sub_cancel, hx]
  have h3 : (j + 1 == 0) = false := by simp
  rw [h3]
  cases x.right <;> cases (AllProp (l.drop (j + 1))) <;> cases hj : l[j + 1]? <;> cases hj2 : l[j - 1]? <;> simp <;>
    (rename_i a b; cases h : decide (x.stamp < a.stamp) <;> simp_all)
theorem refAll (l : List Msg) (hl : l.length ≤ 1000000) (hs : ∀ m, m ∈ l → m.key.size + 1 ≤ 9223372036854775807 ∧ m.hi.size ≤ 9223372036854775807) : AFn Try.prog 27 [.sl (l.map Msg.a)] (.bool (AllProp l)) := by
  refine fn_rAll rfl ?_
  simp (maxSteps := 4000000) only [go_sem, ↓reduceIte, reduceCtorEq, Nat.reduceEqDiff, Nat.reduceBEq, Nat.reduceAdd, Nat.reduceSub, Nat.reduceMul, Nat.reduceLT, Nat.reduceLeDiff, Nat.reduceBNe, Int.reduceBEq, Int.reduceBNe, Int.reduceLT, Int.reduceLE, Spn.a, Msg.a, Eff.a]
  refine run_loop (allInv l (AllProp l)) (k := l.length) ⟨0, by omega, rfl, ?_, ?_, ?_⟩ ?_
  · simp (maxSteps := 4000000) only [go_sem, ↓reduceIte, reduceCtorEq, Nat.reduceEqDiff, Nat.reduceBEq, Nat.reduceAdd, Nat.reduceSub, Nat.reduceMul, Nat.reduceLT, Nat.reduceLeDiff, Nat.reduceBNe, Int.reduceBEq, Int.reduceBNe, Int.reduceLT, Int.reduceLE, Spn.a, Msg.a, Eff.a]
  · simp (maxSteps := 4000000) only [go_sem, ↓reduceIte, reduceCtorEq, Nat.reduceEqDiff, Nat.reduceBEq, Nat.reduceAdd, Nat.reduceSub, Nat.reduceMul, Nat.reduceLT, Nat.reduceLeDiff, Nat.reduceBNe, Int.reduceBEq, Int.reduceBNe, Int.reduceLT, Int.reduceLE, Spn.a, Msg.a, Eff.a]
    rfl
  · simp [allTail]
  rintro k σ ⟨j, hj, rfl, t0, t3, hr⟩
  simp only [r_rAll_l6]
  by_cases hlt : j < l.length
  · have hlt' : (j : Int) < (l.length : Int) := by omega
    obtain ⟨x, hx⟩ : ∃ x, l[j]? = some x := ⟨_, List.getElem?_eq_getElem hlt⟩
    have hg : ∀ (j : Nat) (x : Msg), l[j]? = some x → (l.map Msg.a).getD j .und = .agg [.int .i64 x.stamp, .int .i64 x.kind, .str x.key, .str x.hi, .bool x.op, .str x.val] := fun j x hx => by rw [List.getD_eq_getElem?_getD, List.getElem?_map, hx]; rfl
    have hgj := hg j x hx
    have hw : IntKind.i64.wrap ((j : Int) + 1) = ((j + 1 : Nat) : Int) := by rw [IntWalk.i64_in _ (by omega)]; rfl
    rw [allTail_step hx] at hr
    simp (maxSteps := 4000000) only [go_sem, ↓reduceIte, reduceCtorEq, Nat.reduceEqDiff, Nat.reduceBEq, Nat.reduceAdd, Nat.reduceSub, Nat.reduceMul, Nat.reduceLT, Nat.reduceLeDiff, Nat.reduceBNe, Int.reduceBEq, Int.reduceBNe, Int.reduceLT, Int.reduceLE, Spn.a, Msg.a, Eff.a, t0, t3, hlt', hgj, List.length_map, Int.toNat_natCast]
    refine ⟨by omega, ?_⟩
    (first | refine calling (refRight x (hs x (List.mem_of_getElem? hx))) ?_ | refine callingH (refRight x (hs x (List.mem_of_getElem? hx))) ?_)
    cases hxr : x.right with
    | false =>
      rw [hxr] at hr
      simp only [Bool.false_and] at hr
      simp (maxSteps := 4000000) only [go_sem, ↓reduceIte, reduceCtorEq, Nat.reduceEqDiff, Nat.reduceBEq, Nat.reduceAdd, Nat.reduceSub, Nat.reduceMul, Nat.reduceLT, Nat.reduceLeDiff, Nat.reduceBNe, Int.reduceBEq, Int.reduceBNe, Int.reduceLT, Int.reduceLE, Spn.a, Msg.a, Eff.a, t0, t3, hlt']
      exact hr.symm
    | true =>
      rw [hxr] at hr
      simp only [Bool.true_and] at hr
      cases j with
      | zero =>
        simp only [beq_self_eq_true, Bool.true_or, Bool.true_and] at hr
        have hz : ¬ ((0 : Nat) : Int) > 0 := by omega
        simp (maxSteps := 4000000) only [go_sem, ↓reduceIte, reduceCtorEq, Nat.reduceEqDiff, Nat.reduceBEq, Nat.reduceAdd, Nat.reduceSub, Nat.reduceMul, Nat.reduceLT, Nat.reduceLeDiff, Nat.reduceBNe, Int.reduceBEq, Int.reduceBNe, Int.reduceLT, Int.reduceLE, Spn.a, Msg.a, Eff.a, t0, t3, hz, hw]
        refine ⟨l.length - (0 + 1), by omega, 0 + 1, by omega, rfl, ?_, ?_, hr⟩ <;>
          (simp (maxSteps := 4000000) only [go_sem, ↓reduceIte, reduceCtorEq, Nat.reduceEqDiff, Nat.reduceBEq, Nat.reduceAdd, Nat.reduceSub, Nat.reduceMul, Nat.reduceLT, Nat.reduceLeDiff, Nat.reduceBNe, Int.reduceBEq, Int.reduceBNe, Int.reduceLT, Int.reduceLE, Spn.a, Msg.a, Eff.a, t0, t3, hw])
      | succ i =>
        obtain ⟨y, hy⟩ : ∃ y, l[i]? = some y := ⟨_, List.getElem?_eq_getElem (by omega)⟩
        have hgi := hg i y hy
        have hz : ((i + 1 : Nat) : Int) > 0 := by omega
        have hw1 : IntKind.i64.wrap (((i + 1 : Nat) : Int) - 1) = (i : Int) := by rw [IntWalk.i64_in _ (by omega)]; omega
        have hli : (i : Int) < (l.length : Int) := by omega
        have hz2 : (i + 1 == 0) = false := by simp
        rw [hz2, Bool.false_or, Nat.add_sub_cancel, hy] at hr
        simp only at hr
        by_cases hst : x.stamp ≤ y.stamp
        · have : ¬ y.stamp < x.stamp := by omega
          simp only [this, decide_false, Bool.false_and] at hr
          simp (maxSteps := 4000000) only [go_sem, ↓reduceIte, reduceCtorEq, Nat.reduceEqDiff, Nat.reduceBEq, Nat.reduceAdd, Nat.reduceSub, Nat.reduceMul, Nat.reduceLT, Nat.reduceLeDiff, Nat.reduceBNe, Int.reduceBEq, Int.reduceBNe, Int.reduceLT, Int.reduceLE, Spn.a, Msg.a, Eff.a, t0, t3, hz, hw, hw1, hli, hgi, hgj, hlt', hst, List.length_map, Int.toNat_natCast]
          exact ⟨by omega, by omega, hr.symm⟩
        · have : y.stamp < x.stamp := by omega
          simp only [this, decide_true, Bool.true_and] at hr
          simp (maxSteps := 4000000) only [go_sem, ↓reduceIte, reduceCtorEq, Nat.reduceEqDiff, Nat.reduceBEq, Nat.reduceAdd, Nat.reduceSub, Nat.reduceMul, Nat.reduceLT, Nat.reduceLeDiff, Nat.reduceBNe, Int.reduceBEq, Int.reduceBNe, Int.reduceLT, Int.reduceLE, Spn.a, Msg.a, Eff.a, t0, t3, hz, hw, hw1, hli, hgi, hgj, hlt', hst, List.length_map, Int.toNat_natCast]
          refine ⟨by omega, by omega, l.length - (i + 1 + 1), by omega, i + 1 + 1, by omega, rfl, ?_, ?_, hr⟩ <;>
            (simp (maxSteps := 4000000) only [go_sem, ↓reduceIte, reduceCtorEq, Nat.reduceEqDiff, Nat.reduceBEq, Nat.reduceAdd, Nat.reduceSub, Nat.reduceMul, Nat.reduceLT, Nat.reduceLeDiff, Nat.reduceBNe, Int.reduceBEq, Int.reduceBNe, Int.reduceLT, Int.reduceLE, Spn.a, Msg.a, Eff.a, t0, t3, hw])
  · have hlt' : ¬ (j : Int) < (l.length : Int) := by omega
    simp (maxSteps := 4000000) only [go_sem, ↓reduceIte, reduceCtorEq, Nat.reduceEqDiff, Nat.reduceBEq, Nat.reduceAdd, Nat.reduceSub, Nat.reduceMul, Nat.reduceLT, Nat.reduceLeDiff, Nat.reduceBNe, Int.reduceBEq, Int.reduceBNe, Int.reduceLT, Int.reduceLE, Spn.a, Msg.a, Eff.a, t0, t3, hlt', List.length_map]
    rw [← hr]
    unfold allTail
    rw [List.drop_eq_nil_of_le (by omega), List.getElem?_eq_none (by omega : l.length ≤ j)]
    cases l[j - 1]? <;> simp [AllProp]
end Go.Proofs.Ytdjkefndigijjaa
