/-
  The document's effects and messages, sizes, and lists that are one, on the plain machine.
-/
import Derived.Test.YtdjkefndigijjaaSqJ
namespace Go.Proofs.Ytdjkefndigijjaa
open Go.RowKit
set_option linter.unusedVariables false
set_option linter.unusedSimpArgs false
set_option maxRecDepth 100000
attribute [local go_sem ↓] runOp headOp
attribute [local go_sem] ev0 ev1 ev2 ev3 evA stHOk.eq_1 stHOk.eq_2 stHSt.eq_1 stHSt.eq_2 okV valV fzV okF valF okBld valBld mxOk.eq_1 mxOk.eq_2 mxVal.eq_1 mxVal.eq_2 cellFit.eq_1 cellFit.eq_2 cellFit.eq_3 cellEq.eq_1 cellEq.eq_2 cellEq.eq_3 upd_at AV.flatB AV.flatBs binIok binIV binSok binSV cellsOk.eq_1 cellsOk.eq_2 cellsVal.eq_1 cellsVal.eq_2 objCells.eq_1 objCells.eq_2 objZ.eq_1 objZ.eq_2 objProt.eq_1 objProt.eq_2 oneObj ptrOk.eq_1 ptrOk.eq_2 ptrOk.eq_3 ptrCells.eq_1 ptrCells.eq_2 ptrCells.eq_3 lenOk.eq_1 lenOk.eq_2 lenOk.eq_3 lenOk.eq_4 lenVal.eq_1 lenVal.eq_2 lenVal.eq_3 lenVal.eq_4 faOk.eq_1 faOk.eq_2 faOk.eq_3 faVal.eq_1 faVal.eq_2 faVal.eq_3 iaOk.eq_1 iaOk.eq_2 iaOk.eq_3 iaVal.eq_1 iaVal.eq_2 iaVal.eq_3 slcLen.eq_1 slcLen.eq_2 slcLen.eq_3 slcLen.eq_4 bdOk.eq_1 bdOk.eq_2 bdVal.eq_1 bdVal.eq_2 slcOk.eq_1 slcOk.eq_2 slcOk.eq_3 slcOk.eq_4 slcVal.eq_1 slcVal.eq_2 slcVal.eq_3 slcVal.eq_4 slcFz.eq_1 slcFz.eq_2 byOk.eq_1 byOk.eq_2 byOk.eq_3 byOk.eq_4 byOk.eq_5 byVal.eq_1 byVal.eq_2 byVal.eq_3 byFz.eq_1 byFz.eq_2 byFz.eq_3 byOks byVals byFzs allOne resSt.eq_1 resSt.eq_2 resName.eq_1 resName.eq_2 stOk.eq_1 stOk.eq_2 stArr.eq_1 stArr.eq_2 stSt.eq_1 stSt.eq_2 AV.patch nameOk_none gB.eq_1 gB.eq_2 gB.eq_3 gIs.eq_1 gIs.eq_2 gIs.eq_3 retV resV resVs evalV cellsV St.byval List.getD_cons_zero List.getD_cons_succ List.getD_nil List.map_cons List.map_nil List.length_cons List.length_nil List.take_succ_cons List.take_zero List.drop_succ_cons List.drop_zero List.headD_cons List.set_cons_zero List.append_nil List.nil_append List.cons_append List.contains_cons List.contains_nil List.elem_cons List.elem_nil List.all_cons List.all_nil List.getElem?_cons_zero List.getElem?_cons_succ List.filterMap_cons List.filterMap_nil Option.isSome_some Option.isSome_none Option.map_some Option.map_none Option.some.injEq AV.int.injEq AV.bool.injEq AV.str.injEq AV.tup.injEq AV.agg.injEq AV.sl.injEq List.cons.injEq Bool.false_eq_true Bool.true_eq_false Bool.not_true Bool.not_false Bool.and_true Bool.true_and Bool.or_false Bool.or_true Bool.false_or Bool.true_or Bool.or_self Bool.and_self Bool.not_eq_true' Bool.not_eq_false' Bool.not_not beq_self_eq_true true_and and_true false_and and_false and_self not_true_eq_false not_false_eq_true forall_const true_implies false_implies implies_true imp_self Nat.lt_add_one Nat.le_refl Nat.zero_le Nat.add_zero Nat.zero_add decide_true decide_false decide_eq_true_eq decide_eq_false_iff_not exists_eq_left exists_eq_left' ge_iff_le gt_iff_lt ite_branch ite_branch' nilOk.eq_1 nilOk.eq_2 nilMay.eq_1 nilMay.eq_2 AV.isSl.eq_1 objTy'.eq_1 objTy'.eq_2 apSt.eq_1 apArr.eq_1 apArr.eq_2 slOf.eq_1 fitsV List.mem_cons List.not_mem_nil Bool.false_and Bool.and_false

theorem gM {l : List Msg} {j : Nat} {x : Msg} (hx : l[j]? = some x) : (l.map Msg.a).getD j .und = .agg [.int .i64 x.stamp, .int .i64 x.kind, .str x.key, .str x.hi, .bool x.op, .str x.val] := by
  rw [List.getD_eq_getElem?_getD, List.getElem?_map, hx]; rfl
theorem wS {j : Nat} (h : j ≤ 1000000000000) : IntKind.i64.wrap ((j : Int) + 1) = ((j + 1 : Nat) : Int) := by rw [IntWalk.i64_in _ (by omega)]; rfl
theorem getM {l : List Msg} {j : Nat} (h : j < l.length) : ∃ x, l[j]? = some x := ⟨_, List.getElem?_eq_getElem h⟩

/-! ### percolate/percolateref03.Tail -/
def r_rTail_0 : Reg := ⟨[], [⟨(.mv (.c (.str ⟨#[]⟩))), (some 2), none, [], []⟩], [], [], false⟩
def r_rTail_1 : Reg := ⟨[], [⟨(.mv (.c (.str ⟨#[]⟩))), (some 3), none, [], []⟩], [], [], false⟩
def r_rTail_2 : Reg := ⟨[], [⟨(.mv (.t 0)), (some 5), none, [], []⟩, ⟨(.len true (.t 5)), (some 6), none, [], []⟩, ⟨(.bin .sub (.t 6) (.c (.int .i64 1))), (some 7), none, [], []⟩, ⟨(.mv (.t 7)), (some 4), none, [], []⟩], [], [], false⟩
def r_rTail_3 : Reg := ⟨[], [⟨(.mv (.t 4)), (some 8), none, [], []⟩, ⟨(.bin .geq (.t 8) (.c (.int .i64 0))), (some 9), none, [], []⟩, ⟨(.mv (.t 9)), (some 10), none, [], []⟩, ⟨(.mv (.t 3)), (some 11), (some (10, true)), [], []⟩, ⟨(.len true (.t 11)), (some 12), (some (10, true)), [], []⟩, ⟨(.bin .lss (.t 12) (.c (.int .i64 16))), (some 13), (some (10, true)), [], []⟩, ⟨(.pick (.t 10) (.t 13) (.c (.bool false))), (some 14), none, [], []⟩], [], [], false⟩
def r_rTail_4 : Reg := ⟨[], [⟨(.mv (.t 0)), (some 17), none, [], []⟩, ⟨(.mv (.t 4)), (some 18), none, [], []⟩, ⟨(.mv (.t 4)), (some 19), none, [], []⟩, ⟨(.bin .add (.t 19) (.c (.int .i64 1))), (some 20), none, [], []⟩, ⟨(.slc true 0 (.t 17) (some (.t 18)) (some (.t 20))), (some 21), none, [], []⟩, ⟨(.mv (.t 3)), (some 22), none, [], []⟩, ⟨(.bin .add (.t 21) (.t 22)), (some 23), none, [], []⟩, ⟨(.mv (.t 23)), (some 3), none, [], []⟩], [], [], false⟩
def r_rTail_5 : Reg := ⟨[], [⟨(.mv (.t 4)), (some 15), none, [], []⟩, ⟨(.bin .sub (.t 15) (.c (.int .i64 1))), (some 16), none, [], []⟩, ⟨(.mv (.t 16)), (some 4), none, [], []⟩], [], [], false⟩
def r_rTail_l6 : IR := (.seq (.seq (.reg r_rTail_3)
  (.cond (.t 14) .skip
  (.exit 0)))
  (.seq (.block 1 (.reg r_rTail_4))
  (.reg r_rTail_5)))
def r_rTail_7 : Reg := ⟨[], [⟨(.mv (.t 3)), (some 24), none, [], []⟩, ⟨(.mv (.t 24)), (some 2), none, [], []⟩], [], [], false⟩
def ir_rTail : IR := (.seq (.reg r_rTail_0)
  (.seq (.reg r_rTail_1)
  (.seq (.seq (.reg r_rTail_2)
  (.block 0 (.loop r_rTail_l6)))
  (.seq (.reg r_rTail_7)
  .ret))))
def res_rTail : List RDesc := [(.tmp 2)]
theorem e_rTail_0 (C : FuncId → List AV → AV → Prop) (σ : St) (K : St → Prop) : runReg C r_rTail_0 σ K = runOps C [⟨(.mv (.c (.str ⟨#[]⟩))), (some 2), none, [], []⟩] (σ.kills []) K := rfl
theorem e_rTail_1 (C : FuncId → List AV → AV → Prop) (σ : St) (K : St → Prop) : runReg C r_rTail_1 σ K = runOps C [⟨(.mv (.c (.str ⟨#[]⟩))), (some 3), none, [], []⟩] (σ.kills []) K := rfl
theorem e_rTail_2 (C : FuncId → List AV → AV → Prop) (σ : St) (K : St → Prop) : runReg C r_rTail_2 σ K = runOps C [⟨(.mv (.t 0)), (some 5), none, [], []⟩, ⟨(.len true (.t 5)), (some 6), none, [], []⟩, ⟨(.bin .sub (.t 6) (.c (.int .i64 1))), (some 7), none, [], []⟩, ⟨(.mv (.t 7)), (some 4), none, [], []⟩] (σ.kills []) K := rfl
theorem e_rTail_3 (C : FuncId → List AV → AV → Prop) (σ : St) (K : St → Prop) : runReg C r_rTail_3 σ K = runOps C [⟨(.mv (.t 4)), (some 8), none, [], []⟩, ⟨(.bin .geq (.t 8) (.c (.int .i64 0))), (some 9), none, [], []⟩, ⟨(.mv (.t 9)), (some 10), none, [], []⟩, ⟨(.mv (.t 3)), (some 11), (some (10, true)), [], []⟩, ⟨(.len true (.t 11)), (some 12), (some (10, true)), [], []⟩, ⟨(.bin .lss (.t 12) (.c (.int .i64 16))), (some 13), (some (10, true)), [], []⟩, ⟨(.pick (.t 10) (.t 13) (.c (.bool false))), (some 14), none, [], []⟩] (σ.kills []) K := rfl
theorem e_rTail_4 (C : FuncId → List AV → AV → Prop) (σ : St) (K : St → Prop) : runReg C r_rTail_4 σ K = runOps C [⟨(.mv (.t 0)), (some 17), none, [], []⟩, ⟨(.mv (.t 4)), (some 18), none, [], []⟩, ⟨(.mv (.t 4)), (some 19), none, [], []⟩, ⟨(.bin .add (.t 19) (.c (.int .i64 1))), (some 20), none, [], []⟩, ⟨(.slc true 0 (.t 17) (some (.t 18)) (some (.t 20))), (some 21), none, [], []⟩, ⟨(.mv (.t 3)), (some 22), none, [], []⟩, ⟨(.bin .add (.t 21) (.t 22)), (some 23), none, [], []⟩, ⟨(.mv (.t 23)), (some 3), none, [], []⟩] (σ.kills []) K := rfl
theorem e_rTail_5 (C : FuncId → List AV → AV → Prop) (σ : St) (K : St → Prop) : runReg C r_rTail_5 σ K = runOps C [⟨(.mv (.t 4)), (some 15), none, [], []⟩, ⟨(.bin .sub (.t 15) (.c (.int .i64 1))), (some 16), none, [], []⟩, ⟨(.mv (.t 16)), (some 4), none, [], []⟩] (σ.kills []) K := rfl
theorem e_rTail_7 (C : FuncId → List AV → AV → Prop) (σ : St) (K : St → Prop) : runReg C r_rTail_7 σ K = runOps C [⟨(.mv (.t 3)), (some 24), none, [], []⟩, ⟨(.mv (.t 24)), (some 2), none, [], []⟩] (σ.kills []) K := rfl
theorem fn_rTail {args : List AV} {r : AV} (ha : args.length.ble Try.f119.ntmps = true) (h : run (AFn Try.prog) ir_rTail (endQ res_rTail r) (initSt args)) : AFn Try.prog 119 args r :=
  AFn.of_code (hint := fun _ => []) (c := Try.f119.body.getD .skip) (by kernel_rfl) (by kernel_rfl) Try.func119 (by kernel_rfl) (by kernel_rfl) (by kernel_rfl) (of_decide_eq_true (by kernel_rfl)) (Nat.le_of_ble_eq_true ha) (run_ok h)

/-! ### percolate/percolateref04.Then -/
def r_rThen_0 : Reg := ⟨[], [⟨(.box 2 63 (.t 0)), (some 2), none, [3, 4], []⟩, ⟨(.box 2 63 (.t 1)), (some 3), none, [4], []⟩, ⟨(.alloc 2 63 (.agg [(.int .i64 0), (.str ⟨#[]⟩)])), (some 4), none, [], []⟩], [2, 3, 4], [], false⟩
def r_rThen_1 : Reg := ⟨[], [⟨(.faddr 0 (.t 3)), (some 6), none, [], []⟩, ⟨(.load 1 false (.t 6)), (some 7), none, [], []⟩, ⟨(.bin .eql (.t 7) (.c (.int .i64 0))), (some 8), none, [], []⟩], [], [], false⟩
def r_rThen_2 : Reg := ⟨[], [⟨(.load 2 true (.t 2)), (some 9), none, [], []⟩, ⟨(.store 2 (.t 4) (.t 9)), none, none, [], []⟩], [], [], false⟩
def r_rThen_3 : Reg := ⟨[], [⟨(.faddr 0 (.t 3)), (some 10), none, [], []⟩, ⟨(.load 1 false (.t 10)), (some 11), none, [], []⟩, ⟨(.bin .neq (.t 11) (.c (.int .i64 2))), (some 12), none, [], []⟩, ⟨(.mv (.t 12)), (some 13), none, [], []⟩, ⟨(.faddr 0 (.t 2)), (some 14), (some (13, false)), [], []⟩, ⟨(.load 1 false (.t 14)), (some 15), (some (13, false)), [], []⟩, ⟨(.bin .eql (.t 15) (.c (.int .i64 0))), (some 16), (some (13, false)), [], []⟩, ⟨(.pick (.t 13) (.c (.bool true)) (.t 16)), (some 17), none, [], []⟩], [], [], false⟩
def r_rThen_4 : Reg := ⟨[], [⟨(.load 2 true (.t 3)), (some 18), none, [], []⟩, ⟨(.store 2 (.t 4) (.t 18)), none, none, [], []⟩], [], [], false⟩
def r_rThen_5 : Reg := ⟨[], [⟨(.faddr 1 (.t 2)), (some 19), none, [24, 5], []⟩, ⟨(.load 1 false (.t 19)), (some 20), none, [24, 5], []⟩, ⟨(.faddr 1 (.t 3)), (some 21), none, [24, 5], []⟩, ⟨(.load 1 false (.t 21)), (some 22), none, [24, 5], []⟩, ⟨(.bin .add (.t 20) (.t 22)), (some 23), none, [24, 5], []⟩, ⟨(.callv (.c (.clo 119 [] [])) [(.t 23)]), (some 24), none, [5], []⟩, ⟨(.bld [(.int .i64 0), (.str ⟨#[]⟩)] [⟨0, 1, (.c (.int .i64 1))⟩, ⟨1, 1, (.t 24)⟩]), (some 25), none, [5], []⟩, ⟨(.alloc 2 63 (.agg [(.int .i64 0), (.str ⟨#[]⟩)])), (some 5), none, [], []⟩, ⟨(.store 2 (.t 5) (.t 25)), none, none, [], []⟩], [24, 5], [], false⟩
def r_rThen_6 : Reg := ⟨[], [⟨(.faddr 0 (.t 2)), (some 26), none, [], []⟩, ⟨(.load 1 false (.t 26)), (some 27), none, [], []⟩, ⟨(.bin .eql (.t 27) (.c (.int .i64 2))), (some 28), none, [], []⟩], [], [], false⟩
def r_rThen_7 : Reg := ⟨[], [⟨(.faddr 0 (.t 5)), (some 29), none, [], []⟩, ⟨(.store 1 (.t 29) (.c (.int .i64 2))), none, none, [], []⟩], [], [], false⟩
def r_rThen_8 : Reg := ⟨[], [⟨(.load 2 true (.t 5)), (some 30), none, [], []⟩, ⟨(.store 2 (.t 4) (.t 30)), none, none, [], []⟩], [], [], false⟩
def ir_rThen : IR := (.seq (.reg r_rThen_0)
  (.seq (.seq (.reg r_rThen_1)
  (.cond (.t 8) (.seq (.reg r_rThen_2)
  .ret)
  .skip))
  (.seq (.seq (.reg r_rThen_3)
  (.cond (.t 17) (.seq (.reg r_rThen_4)
  .ret)
  .skip))
  (.seq (.reg r_rThen_5)
  (.seq (.seq (.reg r_rThen_6)
  (.cond (.t 28) (.reg r_rThen_7)
  .skip))
  (.seq (.reg r_rThen_8)
  .ret))))))
def res_rThen : List RDesc := [(.cell 4 2 true)]
theorem e_rThen_0 (C : FuncId → List AV → AV → Prop) (σ : St) (K : St → Prop) : runReg C r_rThen_0 σ K = runOps C [⟨(.box 2 63 (.t 0)), (some 2), none, [3, 4], []⟩, ⟨(.box 2 63 (.t 1)), (some 3), none, [4], []⟩, ⟨(.alloc 2 63 (.agg [(.int .i64 0), (.str ⟨#[]⟩)])), (some 4), none, [], []⟩] (σ.kills [2, 3, 4]) K := rfl
theorem e_rThen_1 (C : FuncId → List AV → AV → Prop) (σ : St) (K : St → Prop) : runReg C r_rThen_1 σ K = runOps C [⟨(.faddr 0 (.t 3)), (some 6), none, [], []⟩, ⟨(.load 1 false (.t 6)), (some 7), none, [], []⟩, ⟨(.bin .eql (.t 7) (.c (.int .i64 0))), (some 8), none, [], []⟩] (σ.kills []) K := rfl
theorem e_rThen_2 (C : FuncId → List AV → AV → Prop) (σ : St) (K : St → Prop) : runReg C r_rThen_2 σ K = runOps C [⟨(.load 2 true (.t 2)), (some 9), none, [], []⟩, ⟨(.store 2 (.t 4) (.t 9)), none, none, [], []⟩] (σ.kills []) K := rfl
theorem e_rThen_3 (C : FuncId → List AV → AV → Prop) (σ : St) (K : St → Prop) : runReg C r_rThen_3 σ K = runOps C [⟨(.faddr 0 (.t 3)), (some 10), none, [], []⟩, ⟨(.load 1 false (.t 10)), (some 11), none, [], []⟩, ⟨(.bin .neq (.t 11) (.c (.int .i64 2))), (some 12), none, [], []⟩, ⟨(.mv (.t 12)), (some 13), none, [], []⟩, ⟨(.faddr 0 (.t 2)), (some 14), (some (13, false)), [], []⟩, ⟨(.load 1 false (.t 14)), (some 15), (some (13, false)), [], []⟩, ⟨(.bin .eql (.t 15) (.c (.int .i64 0))), (some 16), (some (13, false)), [], []⟩, ⟨(.pick (.t 13) (.c (.bool true)) (.t 16)), (some 17), none, [], []⟩] (σ.kills []) K := rfl
theorem e_rThen_4 (C : FuncId → List AV → AV → Prop) (σ : St) (K : St → Prop) : runReg C r_rThen_4 σ K = runOps C [⟨(.load 2 true (.t 3)), (some 18), none, [], []⟩, ⟨(.store 2 (.t 4) (.t 18)), none, none, [], []⟩] (σ.kills []) K := rfl
theorem e_rThen_5 (C : FuncId → List AV → AV → Prop) (σ : St) (K : St → Prop) : runReg C r_rThen_5 σ K = runOps C [⟨(.faddr 1 (.t 2)), (some 19), none, [24, 5], []⟩, ⟨(.load 1 false (.t 19)), (some 20), none, [24, 5], []⟩, ⟨(.faddr 1 (.t 3)), (some 21), none, [24, 5], []⟩, ⟨(.load 1 false (.t 21)), (some 22), none, [24, 5], []⟩, ⟨(.bin .add (.t 20) (.t 22)), (some 23), none, [24, 5], []⟩, ⟨(.callv (.c (.clo 119 [] [])) [(.t 23)]), (some 24), none, [5], []⟩, ⟨(.bld [(.int .i64 0), (.str ⟨#[]⟩)] [⟨0, 1, (.c (.int .i64 1))⟩, ⟨1, 1, (.t 24)⟩]), (some 25), none, [5], []⟩, ⟨(.alloc 2 63 (.agg [(.int .i64 0), (.str ⟨#[]⟩)])), (some 5), none, [], []⟩, ⟨(.store 2 (.t 5) (.t 25)), none, none, [], []⟩] (σ.kills [24, 5]) K := rfl
theorem e_rThen_6 (C : FuncId → List AV → AV → Prop) (σ : St) (K : St → Prop) : runReg C r_rThen_6 σ K = runOps C [⟨(.faddr 0 (.t 2)), (some 26), none, [], []⟩, ⟨(.load 1 false (.t 26)), (some 27), none, [], []⟩, ⟨(.bin .eql (.t 27) (.c (.int .i64 2))), (some 28), none, [], []⟩] (σ.kills []) K := rfl
theorem e_rThen_7 (C : FuncId → List AV → AV → Prop) (σ : St) (K : St → Prop) : runReg C r_rThen_7 σ K = runOps C [⟨(.faddr 0 (.t 5)), (some 29), none, [], []⟩, ⟨(.store 1 (.t 29) (.c (.int .i64 2))), none, none, [], []⟩] (σ.kills []) K := rfl
theorem e_rThen_8 (C : FuncId → List AV → AV → Prop) (σ : St) (K : St → Prop) : runReg C r_rThen_8 σ K = runOps C [⟨(.load 2 true (.t 5)), (some 30), none, [], []⟩, ⟨(.store 2 (.t 4) (.t 30)), none, none, [], []⟩] (σ.kills []) K := rfl
theorem fn_rThen {args : List AV} {r : AV} (ha : args.length.ble Try.f86.ntmps = true) (h : run (AFn Try.prog) ir_rThen (endQ res_rThen r) (initSt args)) : AFn Try.prog 86 args r :=
  AFn.of_code (hint := fun _ => []) (c := Try.f86.body.getD .skip) (by kernel_rfl) (by kernel_rfl) Try.func86 (by kernel_rfl) (by kernel_rfl) (by kernel_rfl) (of_decide_eq_true (by kernel_rfl)) (Nat.le_of_ble_eq_true ha) (run_ok h)

/-! ### percolate/percolateref05.On -/
def r_rOn_0 : Reg := ⟨[], [⟨(.box 6 55 (.t 0)), (some 2), none, [4], []⟩, ⟨(.alloc 2 63 (.agg [(.int .i64 0), (.str ⟨#[]⟩)])), (some 4), none, [], []⟩], [2, 4], [], false⟩
def r_rOn_1 : Reg := ⟨[], [⟨(.load 6 true (.t 2)), (some 5), none, [6, 8], []⟩, ⟨(.callv (.c (.clo 32 [] [])) [(.t 5)]), (some 6), none, [8], []⟩, ⟨(.mv (.t 1)), (some 7), none, [8], []⟩, ⟨(.callv (.c (.clo 83 [] [])) [(.t 6), (.t 7)]), (some 8), none, [], []⟩, ⟨(.un .not (.t 8)), (some 9), none, [], []⟩, ⟨(.mv (.t 9)), (some 10), none, [], []⟩, ⟨(.faddr 1 (.t 2)), (some 11), (some (10, false)), [], []⟩, ⟨(.load 1 false (.t 11)), (some 12), (some (10, false)), [], []⟩, ⟨(.bin .lss (.t 12) (.c (.int .i64 1))), (some 13), (some (10, false)), [], []⟩, ⟨(.pick (.t 10) (.c (.bool true)) (.t 13)), (some 14), none, [], []⟩, ⟨(.mv (.t 14)), (some 15), none, [], []⟩, ⟨(.faddr 1 (.t 2)), (some 16), (some (15, false)), [], []⟩, ⟨(.load 1 false (.t 16)), (some 17), (some (15, false)), [], []⟩, ⟨(.bin .gtr (.t 17) (.c (.int .i64 4))), (some 18), (some (15, false)), [], []⟩, ⟨(.pick (.t 15) (.c (.bool true)) (.t 18)), (some 19), none, [], []⟩], [6, 8], [], false⟩
def r_rOn_2 : Reg := ⟨[], [⟨(.bld [(.int .i64 0), (.str ⟨#[]⟩)] []), (some 20), none, [], []⟩, ⟨(.store 2 (.t 4) (.t 20)), none, none, [], []⟩], [], [], false⟩
def r_rOn_3 : Reg := ⟨[], [⟨(.faddr 1 (.t 2)), (some 21), none, [], []⟩, ⟨(.load 1 false (.t 21)), (some 22), none, [], []⟩, ⟨(.bin .geq (.t 22) (.c (.int .i64 3))), (some 23), none, [], []⟩], [], [], false⟩
def r_rOn_4 : Reg := ⟨[], [⟨(.bld [(.int .i64 0), (.str ⟨#[]⟩)] [⟨0, 1, (.c (.int .i64 3))⟩]), (some 24), none, [], []⟩, ⟨(.store 2 (.t 4) (.t 24)), none, none, [], []⟩], [], [], false⟩
def r_rOn_5 : Reg := ⟨[], [⟨(.faddr 1 (.t 2)), (some 25), none, [], []⟩, ⟨(.load 1 false (.t 25)), (some 26), none, [], []⟩, ⟨(.faddr 5 (.t 2)), (some 27), none, [], []⟩, ⟨(.load 1 false (.t 27)), (some 28), none, [], []⟩, ⟨(.bld [(.int .i64 0), (.str ⟨#[]⟩)] [⟨0, 1, (.t 26)⟩, ⟨1, 1, (.t 28)⟩]), (some 29), none, [], []⟩, ⟨(.store 2 (.t 4) (.t 29)), none, none, [], []⟩], [], [], false⟩
def ir_rOn : IR := (.seq (.reg r_rOn_0)
  (.seq (.seq (.reg r_rOn_1)
  (.cond (.t 19) (.seq (.reg r_rOn_2)
  .ret)
  .skip))
  (.seq (.seq (.reg r_rOn_3)
  (.cond (.t 23) (.seq (.reg r_rOn_4)
  .ret)
  .skip))
  (.seq (.reg r_rOn_5)
  .ret))))
def res_rOn : List RDesc := [(.cell 4 2 true)]
theorem e_rOn_0 (C : FuncId → List AV → AV → Prop) (σ : St) (K : St → Prop) : runReg C r_rOn_0 σ K = runOps C [⟨(.box 6 55 (.t 0)), (some 2), none, [4], []⟩, ⟨(.alloc 2 63 (.agg [(.int .i64 0), (.str ⟨#[]⟩)])), (some 4), none, [], []⟩] (σ.kills [2, 4]) K := rfl
theorem e_rOn_1 (C : FuncId → List AV → AV → Prop) (σ : St) (K : St → Prop) : runReg C r_rOn_1 σ K = runOps C [⟨(.load 6 true (.t 2)), (some 5), none, [6, 8], []⟩, ⟨(.callv (.c (.clo 32 [] [])) [(.t 5)]), (some 6), none, [8], []⟩, ⟨(.mv (.t 1)), (some 7), none, [8], []⟩, ⟨(.callv (.c (.clo 83 [] [])) [(.t 6), (.t 7)]), (some 8), none, [], []⟩, ⟨(.un .not (.t 8)), (some 9), none, [], []⟩, ⟨(.mv (.t 9)), (some 10), none, [], []⟩, ⟨(.faddr 1 (.t 2)), (some 11), (some (10, false)), [], []⟩, ⟨(.load 1 false (.t 11)), (some 12), (some (10, false)), [], []⟩, ⟨(.bin .lss (.t 12) (.c (.int .i64 1))), (some 13), (some (10, false)), [], []⟩, ⟨(.pick (.t 10) (.c (.bool true)) (.t 13)), (some 14), none, [], []⟩, ⟨(.mv (.t 14)), (some 15), none, [], []⟩, ⟨(.faddr 1 (.t 2)), (some 16), (some (15, false)), [], []⟩, ⟨(.load 1 false (.t 16)), (some 17), (some (15, false)), [], []⟩, ⟨(.bin .gtr (.t 17) (.c (.int .i64 4))), (some 18), (some (15, false)), [], []⟩, ⟨(.pick (.t 15) (.c (.bool true)) (.t 18)), (some 19), none, [], []⟩] (σ.kills [6, 8]) K := rfl
theorem e_rOn_2 (C : FuncId → List AV → AV → Prop) (σ : St) (K : St → Prop) : runReg C r_rOn_2 σ K = runOps C [⟨(.bld [(.int .i64 0), (.str ⟨#[]⟩)] []), (some 20), none, [], []⟩, ⟨(.store 2 (.t 4) (.t 20)), none, none, [], []⟩] (σ.kills []) K := rfl
theorem e_rOn_3 (C : FuncId → List AV → AV → Prop) (σ : St) (K : St → Prop) : runReg C r_rOn_3 σ K = runOps C [⟨(.faddr 1 (.t 2)), (some 21), none, [], []⟩, ⟨(.load 1 false (.t 21)), (some 22), none, [], []⟩, ⟨(.bin .geq (.t 22) (.c (.int .i64 3))), (some 23), none, [], []⟩] (σ.kills []) K := rfl
theorem e_rOn_4 (C : FuncId → List AV → AV → Prop) (σ : St) (K : St → Prop) : runReg C r_rOn_4 σ K = runOps C [⟨(.bld [(.int .i64 0), (.str ⟨#[]⟩)] [⟨0, 1, (.c (.int .i64 3))⟩]), (some 24), none, [], []⟩, ⟨(.store 2 (.t 4) (.t 24)), none, none, [], []⟩] (σ.kills []) K := rfl
theorem e_rOn_5 (C : FuncId → List AV → AV → Prop) (σ : St) (K : St → Prop) : runReg C r_rOn_5 σ K = runOps C [⟨(.faddr 1 (.t 2)), (some 25), none, [], []⟩, ⟨(.load 1 false (.t 25)), (some 26), none, [], []⟩, ⟨(.faddr 5 (.t 2)), (some 27), none, [], []⟩, ⟨(.load 1 false (.t 27)), (some 28), none, [], []⟩, ⟨(.bld [(.int .i64 0), (.str ⟨#[]⟩)] [⟨0, 1, (.t 26)⟩, ⟨1, 1, (.t 28)⟩]), (some 29), none, [], []⟩, ⟨(.store 2 (.t 4) (.t 29)), none, none, [], []⟩] (σ.kills []) K := rfl
theorem fn_rOn {args : List AV} {r : AV} (ha : args.length.ble Try.f87.ntmps = true) (h : run (AFn Try.prog) ir_rOn (endQ res_rOn r) (initSt args)) : AFn Try.prog 87 args r :=
  AFn.of_code (hint := fun _ => []) (c := Try.f87.body.getD .skip) (by kernel_rfl) (by kernel_rfl) Try.func87 (by kernel_rfl) (by kernel_rfl) (by kernel_rfl) (of_decide_eq_true (by kernel_rfl)) (Nat.le_of_ble_eq_true ha) (run_ok h)

attribute [local go_sem ↓] ir_rTail
attribute [local go_sem] res_rTail e_rTail_0 e_rTail_1 e_rTail_2 e_rTail_3 e_rTail_4 e_rTail_5 e_rTail_7
attribute [local go_sem ↓] ir_rThen
attribute [local go_sem] res_rThen e_rThen_0 e_rThen_1 e_rThen_2 e_rThen_3 e_rThen_4 e_rThen_5 e_rThen_6 e_rThen_7 e_rThen_8
attribute [local go_sem ↓] ir_rOn
attribute [local go_sem] res_rOn e_rOn_0 e_rOn_1 e_rOn_2 e_rOn_3 e_rOn_4 e_rOn_5

def tailInv (s : ByteArray) (k : Nat) (σ : St) : Prop :=
  ∃ j : Nat, j ≤ s.size ∧ k = j ∧ s.size - j ≤ 16 ∧ σ.T 0 = .str s ∧ σ.T 3 = .str (s.extract j s.size) ∧ σ.T 4 = .int .i64 ((j : Int) - 1)
theorem refTail (s : ByteArray) (hs : s.size ≤ 9223372036854775807) : AFn Try.prog 119 [.str s] (.str (tail16 s)) := by
  refine fn_rTail rfl ?_
  have hw0 : IntKind.i64.wrap ((s.size : Int) - 1) = (s.size : Int) - 1 := IntWalk.i64_in _ (by omega)
  simp (maxSteps := 4000000) only [go_sem, ↓reduceIte, reduceCtorEq, Nat.reduceEqDiff, Nat.reduceBEq, Nat.reduceAdd, Nat.reduceSub, Nat.reduceMul, Nat.reduceLT, Nat.reduceLeDiff, Nat.reduceBNe, Int.reduceBEq, Int.reduceBNe, Int.reduceLT, Int.reduceLE, Spn.a, Msg.a, Eff.a, hw0]
  refine run_loop (tailInv s) (k := s.size) ⟨s.size, Nat.le_refl _, rfl, by omega, ?_, ?_, ?_⟩ ?_
  · simp (maxSteps := 4000000) only [go_sem, ↓reduceIte, reduceCtorEq, Nat.reduceEqDiff, Nat.reduceBEq, Nat.reduceAdd, Nat.reduceSub, Nat.reduceMul, Nat.reduceLT, Nat.reduceLeDiff, Nat.reduceBNe, Int.reduceBEq, Int.reduceBNe, Int.reduceLT, Int.reduceLE, Spn.a, Msg.a, Eff.a]
  · simp (maxSteps := 4000000) only [go_sem, ↓reduceIte, reduceCtorEq, Nat.reduceEqDiff, Nat.reduceBEq, Nat.reduceAdd, Nat.reduceSub, Nat.reduceMul, Nat.reduceLT, Nat.reduceLeDiff, Nat.reduceBNe, Int.reduceBEq, Int.reduceBNe, Int.reduceLT, Int.reduceLE, Spn.a, Msg.a, Eff.a]
    rw [ByteArray.extract_same]; rfl
  · simp (maxSteps := 4000000) only [go_sem, ↓reduceIte, reduceCtorEq, Nat.reduceEqDiff, Nat.reduceBEq, Nat.reduceAdd, Nat.reduceSub, Nat.reduceMul, Nat.reduceLT, Nat.reduceLeDiff, Nat.reduceBNe, Int.reduceBEq, Int.reduceBNe, Int.reduceLT, Int.reduceLE, Spn.a, Msg.a, Eff.a]
  rintro k σ ⟨j, hj, rfl, h16, t0, t3, t4⟩
  simp only [r_rTail_l6]
  have hz : (s.extract k s.size).size = s.size - k := by rw [ByteArray.size_extract]; omega
  have fin : s.size - k = 16 ∨ k = 0 → s.extract k s.size = tail16 s := by
    intro h
    unfold tail16
    congr 1; omega
  by_cases h0 : k = 0
  · subst h0
    have h1 : ¬ (((0 : Nat) : Int) - 1) ≥ 0 := by omega
    simp (maxSteps := 4000000) only [go_sem, ↓reduceIte, reduceCtorEq, Nat.reduceEqDiff, Nat.reduceBEq, Nat.reduceAdd, Nat.reduceSub, Nat.reduceMul, Nat.reduceLT, Nat.reduceLeDiff, Nat.reduceBNe, Int.reduceBEq, Int.reduceBNe, Int.reduceLT, Int.reduceLE, Spn.a, Msg.a, Eff.a, t0, t3, t4, h1]
    exact (fin (.inr rfl)).symm
  · have h1 : ((k : Int) - 1) ≥ 0 := by omega
    by_cases h2 : s.size - k = 16
    · have h2' : ¬ ((s.extract k s.size).size : Int) < 16 := by rw [hz]; omega
      simp (maxSteps := 4000000) only [go_sem, ↓reduceIte, reduceCtorEq, Nat.reduceEqDiff, Nat.reduceBEq, Nat.reduceAdd, Nat.reduceSub, Nat.reduceMul, Nat.reduceLT, Nat.reduceLeDiff, Nat.reduceBNe, Int.reduceBEq, Int.reduceBNe, Int.reduceLT, Int.reduceLE, Spn.a, Msg.a, Eff.a, t0, t3, t4, h1, h2']
      exact (fin (.inl h2)).symm
    · have h2' : ((s.extract k s.size).size : Int) < 16 := by rw [hz]; omega
      have hw1 : IntKind.i64.wrap ((k : Int) - 1 + 1) = (k : Int) := by rw [IntWalk.i64_in _ (by omega)]; omega
      have hw2 : IntKind.i64.wrap ((k : Int) - 1 - 1) = ((k - 1 : Nat) : Int) - 1 := by rw [IntWalk.i64_in _ (by omega)]; omega
      have hn : ((k : Int) - 1).toNat = k - 1 := by omega
      simp (maxSteps := 4000000) only [go_sem, ↓reduceIte, reduceCtorEq, Nat.reduceEqDiff, Nat.reduceBEq, Nat.reduceAdd, Nat.reduceSub, Nat.reduceMul, Nat.reduceLT, Nat.reduceLeDiff, Nat.reduceBNe, Int.reduceBEq, Int.reduceBNe, Int.reduceLT, Int.reduceLE, Spn.a, Msg.a, Eff.a, t0, t3, t4, h1, h2', hw1, hw2, hn, Int.toNat_natCast]
      refine ⟨by omega, ?_, k - 1, by omega, k - 1, by omega, rfl, by omega, ?_, ?_, ?_⟩
      · rw [ByteArray.size_extract, ByteArray.size_extract]; omega
      · simp (maxSteps := 4000000) only [go_sem, ↓reduceIte, reduceCtorEq, Nat.reduceEqDiff, Nat.reduceBEq, Nat.reduceAdd, Nat.reduceSub, Nat.reduceMul, Nat.reduceLT, Nat.reduceLeDiff, Nat.reduceBNe, Int.reduceBEq, Int.reduceBNe, Int.reduceLT, Int.reduceLE, Spn.a, Msg.a, Eff.a, t0]
      · simp (maxSteps := 4000000) only [go_sem, ↓reduceIte, reduceCtorEq, Nat.reduceEqDiff, Nat.reduceBEq, Nat.reduceAdd, Nat.reduceSub, Nat.reduceMul, Nat.reduceLT, Nat.reduceLeDiff, Nat.reduceBNe, Int.reduceBEq, Int.reduceBNe, Int.reduceLT, Int.reduceLE, Spn.a, Msg.a, Eff.a]
        rw [ByteArray.extract_append_extract, show min (k - 1) k = k - 1 by omega, show max k s.size = s.size by omega]
      · simp (maxSteps := 4000000) only [go_sem, ↓reduceIte, reduceCtorEq, Nat.reduceEqDiff, Nat.reduceBEq, Nat.reduceAdd, Nat.reduceSub, Nat.reduceMul, Nat.reduceLT, Nat.reduceLeDiff, Nat.reduceBNe, Int.reduceBEq, Int.reduceBNe, Int.reduceLT, Int.reduceLE, Spn.a, Msg.a, Eff.a]
theorem refThen (a b : Eff) (hs : a.val.size + b.val.size ≤ 9223372036854775807) : AFn Try.prog 86 [a.a, b.a] (a.thenR b).a := by
  refine fn_rThen rfl ?_
  cases h1 : (b.kind == 0) with
  | true =>
    have h1' : b.kind = 0 := by simpa using h1
    simp (maxSteps := 4000000) only [go_sem, ↓reduceIte, reduceCtorEq, Nat.reduceEqDiff, Nat.reduceBEq, Nat.reduceAdd, Nat.reduceSub, Nat.reduceMul, Nat.reduceLT, Nat.reduceLeDiff, Nat.reduceBNe, Int.reduceBEq, Int.reduceBNe, Int.reduceLT, Int.reduceLE, Spn.a, Msg.a, Eff.a, h1]
    simp [Eff.thenR, h1']
  | false =>
    have h1' : b.kind ≠ 0 := by simpa using h1
    cases h2 : (b.kind != 2) with
    | true =>
      have h2' : b.kind ≠ 2 := by simpa using h2
      simp (maxSteps := 4000000) only [go_sem, ↓reduceIte, reduceCtorEq, Nat.reduceEqDiff, Nat.reduceBEq, Nat.reduceAdd, Nat.reduceSub, Nat.reduceMul, Nat.reduceLT, Nat.reduceLeDiff, Nat.reduceBNe, Int.reduceBEq, Int.reduceBNe, Int.reduceLT, Int.reduceLE, Spn.a, Msg.a, Eff.a, h1, h2]
      simp [Eff.thenR, h1', h2']
    | false =>
      have h2' : b.kind = 2 := by simpa using h2
      cases h3 : (a.kind == 0) with
      | true =>
        have h3' : a.kind = 0 := by simpa using h3
        simp (maxSteps := 4000000) only [go_sem, ↓reduceIte, reduceCtorEq, Nat.reduceEqDiff, Nat.reduceBEq, Nat.reduceAdd, Nat.reduceSub, Nat.reduceMul, Nat.reduceLT, Nat.reduceLeDiff, Nat.reduceBNe, Int.reduceBEq, Int.reduceBNe, Int.reduceLT, Int.reduceLE, Spn.a, Msg.a, Eff.a, h1, h2, h3]
        simp [Eff.thenR, h1', h3']
      | false =>
        have h3' : a.kind ≠ 0 := by simpa using h3
        simp (maxSteps := 4000000) only [go_sem, ↓reduceIte, reduceCtorEq, Nat.reduceEqDiff, Nat.reduceBEq, Nat.reduceAdd, Nat.reduceSub, Nat.reduceMul, Nat.reduceLT, Nat.reduceLeDiff, Nat.reduceBNe, Int.reduceBEq, Int.reduceBNe, Int.reduceLT, Int.reduceLE, Spn.a, Msg.a, Eff.a, h1, h2, h3]
        refine ⟨hs, ?_⟩
        (first | refine calling (refTail (a.val ++ b.val) (by rw [ByteArray.size_append]; exact hs)) ?_ | refine callingH (refTail (a.val ++ b.val) (by rw [ByteArray.size_append]; exact hs)) ?_)
        cases h4 : (a.kind == 2) with
        | true =>
          have h4' : a.kind = 2 := by simpa using h4
          simp (maxSteps := 4000000) only [go_sem, ↓reduceIte, reduceCtorEq, Nat.reduceEqDiff, Nat.reduceBEq, Nat.reduceAdd, Nat.reduceSub, Nat.reduceMul, Nat.reduceLT, Nat.reduceLeDiff, Nat.reduceBNe, Int.reduceBEq, Int.reduceBNe, Int.reduceLT, Int.reduceLE, Spn.a, Msg.a, Eff.a, h1, h2, h3, h4]
          simp [Eff.thenR, h2', h4']
        | false =>
          have h4' : a.kind ≠ 2 := by simpa using h4
          simp (maxSteps := 4000000) only [go_sem, ↓reduceIte, reduceCtorEq, Nat.reduceEqDiff, Nat.reduceBEq, Nat.reduceAdd, Nat.reduceSub, Nat.reduceMul, Nat.reduceLT, Nat.reduceLeDiff, Nat.reduceBNe, Int.reduceBEq, Int.reduceBNe, Int.reduceLT, Int.reduceLE, Spn.a, Msg.a, Eff.a, h1, h2, h3, h4]
          simp [Eff.thenR, h2', h3', h4']
theorem refOn (m : Msg) (k : ByteArray) (h1 : m.key.size + 1 ≤ 9223372036854775807) (h2 : m.hi.size ≤ 9223372036854775807) (hk : k.size ≤ 9223372036854775807) : AFn Try.prog 87 [m.a, .str k] (m.on k).a := by
  refine fn_rOn rfl ?_
  simp (maxSteps := 4000000) only [go_sem, ↓reduceIte, reduceCtorEq, Nat.reduceEqDiff, Nat.reduceBEq, Nat.reduceAdd, Nat.reduceSub, Nat.reduceMul, Nat.reduceLT, Nat.reduceLeDiff, Nat.reduceBNe, Int.reduceBEq, Int.reduceBNe, Int.reduceLT, Int.reduceLE, Spn.a, Msg.a, Eff.a]
  (first | refine calling (refSpan m (by omega)) ?_ | refine callingH (refSpan m (by omega)) ?_)
  simp (maxSteps := 4000000) only [go_sem, ↓reduceIte, reduceCtorEq, Nat.reduceEqDiff, Nat.reduceBEq, Nat.reduceAdd, Nat.reduceSub, Nat.reduceMul, Nat.reduceLT, Nat.reduceLeDiff, Nat.reduceBNe, Int.reduceBEq, Int.reduceBNe, Int.reduceLT, Int.reduceLE, Spn.a, Msg.a, Eff.a]
  (first | refine calling (refHas m.span k (span_ok (n := 0) h1 h2) hk) ?_ | refine callingH (refHas m.span k (span_ok (n := 0) h1 h2) hk) ?_)
  cases hh : m.span.has k with
  | false =>
    simp (maxSteps := 4000000) only [go_sem, ↓reduceIte, reduceCtorEq, Nat.reduceEqDiff, Nat.reduceBEq, Nat.reduceAdd, Nat.reduceSub, Nat.reduceMul, Nat.reduceLT, Nat.reduceLeDiff, Nat.reduceBNe, Int.reduceBEq, Int.reduceBNe, Int.reduceLT, Int.reduceLE, Spn.a, Msg.a, Eff.a]
    simp [Msg.on, hh, Eff.none]
  | true =>
    by_cases g1 : m.kind < 1
    · simp (maxSteps := 4000000) only [go_sem, ↓reduceIte, reduceCtorEq, Nat.reduceEqDiff, Nat.reduceBEq, Nat.reduceAdd, Nat.reduceSub, Nat.reduceMul, Nat.reduceLT, Nat.reduceLeDiff, Nat.reduceBNe, Int.reduceBEq, Int.reduceBNe, Int.reduceLT, Int.reduceLE, Spn.a, Msg.a, Eff.a, g1]
      have a1 : m.kind ≠ 1 := by omega
      have a2 : m.kind ≠ 2 := by omega
      have a3 : m.kind ≠ 3 := by omega
      have a4 : m.kind ≠ 4 := by omega
      simp [Msg.on, hh, Eff.none, a1, a2, a3, a4]
    · by_cases g2 : m.kind > 4
      · have g2' : 4 < m.kind := g2
        simp (maxSteps := 4000000) only [go_sem, ↓reduceIte, reduceCtorEq, Nat.reduceEqDiff, Nat.reduceBEq, Nat.reduceAdd, Nat.reduceSub, Nat.reduceMul, Nat.reduceLT, Nat.reduceLeDiff, Nat.reduceBNe, Int.reduceBEq, Int.reduceBNe, Int.reduceLT, Int.reduceLE, Spn.a, Msg.a, Eff.a, g1, g2']
        have a1 : m.kind ≠ 1 := by omega
        have a2 : m.kind ≠ 2 := by omega
        have a3 : m.kind ≠ 3 := by omega
        have a4 : m.kind ≠ 4 := by omega
        simp [Msg.on, hh, Eff.none, a1, a2, a3, a4]
      · have g2' : ¬ 4 < m.kind := g2
        by_cases g3 : m.kind ≥ 3
        · have g3' : 3 ≤ m.kind := g3
          simp (maxSteps := 4000000) only [go_sem, ↓reduceIte, reduceCtorEq, Nat.reduceEqDiff, Nat.reduceBEq, Nat.reduceAdd, Nat.reduceSub, Nat.reduceMul, Nat.reduceLT, Nat.reduceLeDiff, Nat.reduceBNe, Int.reduceBEq, Int.reduceBNe, Int.reduceLT, Int.reduceLE, Spn.a, Msg.a, Eff.a, g1, g2', g3']
          have a1 : m.kind ≠ 1 := by omega
          have a2 : m.kind ≠ 2 := by omega
          have a3 : m.kind = 3 ∨ m.kind = 4 := by omega
          simp [Msg.on, hh, Eff.none, a1, a2, a3]
        · have g3' : ¬ 3 ≤ m.kind := g3
          simp (maxSteps := 4000000) only [go_sem, ↓reduceIte, reduceCtorEq, Nat.reduceEqDiff, Nat.reduceBEq, Nat.reduceAdd, Nat.reduceSub, Nat.reduceMul, Nat.reduceLT, Nat.reduceLeDiff, Nat.reduceBNe, Int.reduceBEq, Int.reduceBNe, Int.reduceLT, Int.reduceLE, Spn.a, Msg.a, Eff.a, g1, g2', g3']
          have a1 : m.kind = 1 ∨ m.kind = 2 := by omega
          simp [Msg.on, hh, a1]

/-! ### percolate/percolateref05.Size -/
def r_rSize_0 : Reg := ⟨[], [⟨(.box 6 55 (.t 0)), (some 1), none, [], []⟩, ⟨(.mv (.c (.int .i64 0))), (some 2), none, [], []⟩], [1], [], false⟩
def r_rSize_1 : Reg := ⟨[], [⟨(.faddr 1 (.t 1)), (some 3), none, [], []⟩, ⟨(.load 1 false (.t 3)), (some 4), none, [], []⟩, ⟨(.bin .eql (.t 4) (.c (.int .i64 4))), (some 5), none, [], []⟩], [], [], false⟩
def r_rSize_2 : Reg := ⟨[], [⟨(.mv (.c (.int .i64 36))), (some 2), none, [], []⟩], [], [], false⟩
def r_rSize_3 : Reg := ⟨[], [⟨(.faddr 2 (.t 1)), (some 6), none, [], []⟩, ⟨(.load 1 false (.t 6)), (some 7), none, [], []⟩, ⟨(.len true (.t 7)), (some 8), none, [], []⟩, ⟨(.bin .add (.c (.int .i64 4)) (.t 8)), (some 9), none, [], []⟩, ⟨(.faddr 5 (.t 1)), (some 10), none, [], []⟩, ⟨(.load 1 false (.t 10)), (some 11), none, [], []⟩, ⟨(.len true (.t 11)), (some 12), none, [], []⟩, ⟨(.bin .add (.t 9) (.t 12)), (some 13), none, [], []⟩, ⟨(.mv (.t 13)), (some 2), none, [], []⟩], [], [], false⟩
def ir_rSize : IR := (.seq (.reg r_rSize_0)
  (.seq (.seq (.reg r_rSize_1)
  (.cond (.t 5) (.seq (.reg r_rSize_2)
  .ret)
  .skip))
  (.seq (.reg r_rSize_3)
  .ret)))
def res_rSize : List RDesc := [(.tmp 2)]
theorem e_rSize_0 (C : FuncId → List AV → AV → Prop) (σ : St) (K : St → Prop) : runReg C r_rSize_0 σ K = runOps C [⟨(.box 6 55 (.t 0)), (some 1), none, [], []⟩, ⟨(.mv (.c (.int .i64 0))), (some 2), none, [], []⟩] (σ.kills [1]) K := rfl
theorem e_rSize_1 (C : FuncId → List AV → AV → Prop) (σ : St) (K : St → Prop) : runReg C r_rSize_1 σ K = runOps C [⟨(.faddr 1 (.t 1)), (some 3), none, [], []⟩, ⟨(.load 1 false (.t 3)), (some 4), none, [], []⟩, ⟨(.bin .eql (.t 4) (.c (.int .i64 4))), (some 5), none, [], []⟩] (σ.kills []) K := rfl
theorem e_rSize_2 (C : FuncId → List AV → AV → Prop) (σ : St) (K : St → Prop) : runReg C r_rSize_2 σ K = runOps C [⟨(.mv (.c (.int .i64 36))), (some 2), none, [], []⟩] (σ.kills []) K := rfl
theorem e_rSize_3 (C : FuncId → List AV → AV → Prop) (σ : St) (K : St → Prop) : runReg C r_rSize_3 σ K = runOps C [⟨(.faddr 2 (.t 1)), (some 6), none, [], []⟩, ⟨(.load 1 false (.t 6)), (some 7), none, [], []⟩, ⟨(.len true (.t 7)), (some 8), none, [], []⟩, ⟨(.bin .add (.c (.int .i64 4)) (.t 8)), (some 9), none, [], []⟩, ⟨(.faddr 5 (.t 1)), (some 10), none, [], []⟩, ⟨(.load 1 false (.t 10)), (some 11), none, [], []⟩, ⟨(.len true (.t 11)), (some 12), none, [], []⟩, ⟨(.bin .add (.t 9) (.t 12)), (some 13), none, [], []⟩, ⟨(.mv (.t 13)), (some 2), none, [], []⟩] (σ.kills []) K := rfl
theorem fn_rSize {args : List AV} {r : AV} (ha : args.length.ble Try.f88.ntmps = true) (h : run (AFn Try.prog) ir_rSize (endQ res_rSize r) (initSt args)) : AFn Try.prog 88 args r :=
  AFn.of_code (hint := fun _ => []) (c := Try.f88.body.getD .skip) (by kernel_rfl) (by kernel_rfl) Try.func88 (by kernel_rfl) (by kernel_rfl) (by kernel_rfl) (of_decide_eq_true (by kernel_rfl)) (Nat.le_of_ble_eq_true ha) (run_ok h)

/-! ### percolate/percolateref18.Size -/
def r_r18Size_0 : Reg := ⟨[], [⟨(.mv (.c (.int .i64 0))), (some 2), none, [], []⟩], [], [], false⟩
def r_r18Size_1 : Reg := ⟨[], [⟨(.mv (.c (.int .i64 0))), (some 3), none, [], []⟩], [], [], false⟩
def r_r18Size_2 : Reg := ⟨[], [⟨(.mv (.c (.int .i64 0))), (some 4), none, [], []⟩], [], [], false⟩
def r_r18Size_3 : Reg := ⟨[], [⟨(.mv (.t 4)), (some 5), none, [], []⟩, ⟨(.mv (.t 0)), (some 6), none, [], []⟩, ⟨(.len false (.t 6)), (some 7), none, [], []⟩, ⟨(.bin .lss (.t 5) (.t 7)), (some 8), none, [], []⟩], [], [], false⟩
def r_r18Size_4 : Reg := ⟨[], [⟨(.mv (.t 3)), (some 11), none, [16], []⟩, ⟨(.mv (.t 0)), (some 12), none, [16], []⟩, ⟨(.mv (.t 4)), (some 13), none, [16], []⟩, ⟨(.iaddr 6 (.t 12) (.t 13)), (some 14), none, [16], []⟩, ⟨(.load 6 true (.t 14)), (some 15), none, [16], []⟩, ⟨(.callv (.c (.clo 88 [] [])) [(.t 15)]), (some 16), none, [], []⟩, ⟨(.bin .add (.t 11) (.t 16)), (some 17), none, [], []⟩, ⟨(.mv (.t 17)), (some 3), none, [], []⟩], [16], [], false⟩
def r_r18Size_5 : Reg := ⟨[], [⟨(.mv (.t 4)), (some 9), none, [], []⟩, ⟨(.bin .add (.t 9) (.c (.int .i64 1))), (some 10), none, [], []⟩, ⟨(.mv (.t 10)), (some 4), none, [], []⟩], [], [], false⟩
def r_r18Size_l6 : IR := (.seq (.seq (.reg r_r18Size_3)
  (.cond (.t 8) .skip
  (.exit 0)))
  (.seq (.block 1 (.reg r_r18Size_4))
  (.reg r_r18Size_5)))
def r_r18Size_7 : Reg := ⟨[], [⟨(.mv (.t 3)), (some 18), none, [], []⟩, ⟨(.mv (.t 18)), (some 2), none, [], []⟩], [], [], false⟩
def ir_r18Size : IR := (.seq (.reg r_r18Size_0)
  (.seq (.reg r_r18Size_1)
  (.seq (.seq (.reg r_r18Size_2)
  (.block 0 (.loop r_r18Size_l6)))
  (.seq (.reg r_r18Size_7)
  .ret))))
def res_r18Size : List RDesc := [(.tmp 2)]
theorem e_r18Size_0 (C : FuncId → List AV → AV → Prop) (σ : St) (K : St → Prop) : runReg C r_r18Size_0 σ K = runOps C [⟨(.mv (.c (.int .i64 0))), (some 2), none, [], []⟩] (σ.kills []) K := rfl
theorem e_r18Size_1 (C : FuncId → List AV → AV → Prop) (σ : St) (K : St → Prop) : runReg C r_r18Size_1 σ K = runOps C [⟨(.mv (.c (.int .i64 0))), (some 3), none, [], []⟩] (σ.kills []) K := rfl
theorem e_r18Size_2 (C : FuncId → List AV → AV → Prop) (σ : St) (K : St → Prop) : runReg C r_r18Size_2 σ K = runOps C [⟨(.mv (.c (.int .i64 0))), (some 4), none, [], []⟩] (σ.kills []) K := rfl
theorem e_r18Size_3 (C : FuncId → List AV → AV → Prop) (σ : St) (K : St → Prop) : runReg C r_r18Size_3 σ K = runOps C [⟨(.mv (.t 4)), (some 5), none, [], []⟩, ⟨(.mv (.t 0)), (some 6), none, [], []⟩, ⟨(.len false (.t 6)), (some 7), none, [], []⟩, ⟨(.bin .lss (.t 5) (.t 7)), (some 8), none, [], []⟩] (σ.kills []) K := rfl
theorem e_r18Size_4 (C : FuncId → List AV → AV → Prop) (σ : St) (K : St → Prop) : runReg C r_r18Size_4 σ K = runOps C [⟨(.mv (.t 3)), (some 11), none, [16], []⟩, ⟨(.mv (.t 0)), (some 12), none, [16], []⟩, ⟨(.mv (.t 4)), (some 13), none, [16], []⟩, ⟨(.iaddr 6 (.t 12) (.t 13)), (some 14), none, [16], []⟩, ⟨(.load 6 true (.t 14)), (some 15), none, [16], []⟩, ⟨(.callv (.c (.clo 88 [] [])) [(.t 15)]), (some 16), none, [], []⟩, ⟨(.bin .add (.t 11) (.t 16)), (some 17), none, [], []⟩, ⟨(.mv (.t 17)), (some 3), none, [], []⟩] (σ.kills [16]) K := rfl
theorem e_r18Size_5 (C : FuncId → List AV → AV → Prop) (σ : St) (K : St → Prop) : runReg C r_r18Size_5 σ K = runOps C [⟨(.mv (.t 4)), (some 9), none, [], []⟩, ⟨(.bin .add (.t 9) (.c (.int .i64 1))), (some 10), none, [], []⟩, ⟨(.mv (.t 10)), (some 4), none, [], []⟩] (σ.kills []) K := rfl
theorem e_r18Size_7 (C : FuncId → List AV → AV → Prop) (σ : St) (K : St → Prop) : runReg C r_r18Size_7 σ K = runOps C [⟨(.mv (.t 3)), (some 18), none, [], []⟩, ⟨(.mv (.t 18)), (some 2), none, [], []⟩] (σ.kills []) K := rfl
theorem fn_r18Size {args : List AV} {r : AV} (ha : args.length.ble Try.f35.ntmps = true) (h : run (AFn Try.prog) ir_r18Size (endQ res_r18Size r) (initSt args)) : AFn Try.prog 35 args r :=
  AFn.of_code (hint := fun _ => []) (c := Try.f35.body.getD .skip) (by kernel_rfl) (by kernel_rfl) Try.func35 (by kernel_rfl) (by kernel_rfl) (by kernel_rfl) (of_decide_eq_true (by kernel_rfl)) (Nat.le_of_ble_eq_true ha) (run_ok h)

/-! ### percolate/percolateref18.On -/
def r_r18On_0 : Reg := ⟨[], [⟨(.alloc 2 63 (.agg [(.int .i64 0), (.str ⟨#[]⟩)])), (some 4), none, [], []⟩], [4], [], false⟩
def r_r18On_1 : Reg := ⟨[], [⟨(.bld [(.int .i64 0), (.str ⟨#[]⟩)] []), (some 7), none, [5], []⟩, ⟨(.alloc 2 63 (.agg [(.int .i64 0), (.str ⟨#[]⟩)])), (some 5), none, [], []⟩, ⟨(.store 2 (.t 5) (.t 7)), none, none, [], []⟩], [5], [], false⟩
def r_r18On_2 : Reg := ⟨[], [⟨(.mv (.c (.int .i64 0))), (some 6), none, [], []⟩], [], [], false⟩
def r_r18On_3 : Reg := ⟨[], [⟨(.mv (.t 6)), (some 8), none, [], []⟩, ⟨(.mv (.t 0)), (some 9), none, [], []⟩, ⟨(.len false (.t 9)), (some 10), none, [], []⟩, ⟨(.bin .lss (.t 8) (.t 10)), (some 11), none, [], []⟩], [], [], false⟩
def r_r18On_4 : Reg := ⟨[⟨(.load 2 true (.t 5)), (some 14), none, [20, 21], []⟩, ⟨(.mv (.t 0)), (some 15), none, [20, 21], []⟩, ⟨(.mv (.t 6)), (some 16), none, [20, 21], []⟩, ⟨(.iaddr 6 (.t 15) (.t 16)), (some 17), none, [20, 21], []⟩, ⟨(.load 6 true (.t 17)), (some 18), none, [20, 21], []⟩, ⟨(.mv (.t 1)), (some 19), none, [20, 21], []⟩, ⟨(.callv (.c (.clo 87 [] [])) [(.t 18), (.t 19)]), (some 20), none, [21], []⟩], [⟨(.callv (.c (.clo 86 [] [])) [(.t 14), (.t 20)]), (some 21), none, [], []⟩, ⟨(.store 2 (.t 5) (.t 21)), none, none, [], [5]⟩], [20, 21], [], true⟩
def r_r18On_5 : Reg := ⟨[], [⟨(.mv (.t 6)), (some 12), none, [], []⟩, ⟨(.bin .add (.t 12) (.c (.int .i64 1))), (some 13), none, [], []⟩, ⟨(.mv (.t 13)), (some 6), none, [], []⟩], [], [], false⟩
def r_r18On_l6 : IR := (.seq (.seq (.reg r_r18On_3)
  (.cond (.t 11) .skip
  (.exit 0)))
  (.seq (.block 1 (.reg r_r18On_4))
  (.reg r_r18On_5)))
def r_r18On_7 : Reg := ⟨[], [⟨(.load 2 true (.t 5)), (some 22), none, [], []⟩, ⟨(.store 2 (.t 4) (.t 22)), none, none, [], []⟩], [], [], false⟩
def ir_r18On : IR := (.seq (.reg r_r18On_0)
  (.seq (.reg r_r18On_1)
  (.seq (.seq (.reg r_r18On_2)
  (.block 0 (.loop r_r18On_l6)))
  (.seq (.reg r_r18On_7)
  .ret))))
def res_r18On : List RDesc := [(.cell 4 2 true)]
theorem e_r18On_0 (C : FuncId → List AV → AV → Prop) (σ : St) (K : St → Prop) : runReg C r_r18On_0 σ K = runOps C [⟨(.alloc 2 63 (.agg [(.int .i64 0), (.str ⟨#[]⟩)])), (some 4), none, [], []⟩] (σ.kills [4]) K := rfl
theorem e_r18On_1 (C : FuncId → List AV → AV → Prop) (σ : St) (K : St → Prop) : runReg C r_r18On_1 σ K = runOps C [⟨(.bld [(.int .i64 0), (.str ⟨#[]⟩)] []), (some 7), none, [5], []⟩, ⟨(.alloc 2 63 (.agg [(.int .i64 0), (.str ⟨#[]⟩)])), (some 5), none, [], []⟩, ⟨(.store 2 (.t 5) (.t 7)), none, none, [], []⟩] (σ.kills [5]) K := rfl
theorem e_r18On_2 (C : FuncId → List AV → AV → Prop) (σ : St) (K : St → Prop) : runReg C r_r18On_2 σ K = runOps C [⟨(.mv (.c (.int .i64 0))), (some 6), none, [], []⟩] (σ.kills []) K := rfl
theorem e_r18On_3 (C : FuncId → List AV → AV → Prop) (σ : St) (K : St → Prop) : runReg C r_r18On_3 σ K = runOps C [⟨(.mv (.t 6)), (some 8), none, [], []⟩, ⟨(.mv (.t 0)), (some 9), none, [], []⟩, ⟨(.len false (.t 9)), (some 10), none, [], []⟩, ⟨(.bin .lss (.t 8) (.t 10)), (some 11), none, [], []⟩] (σ.kills []) K := rfl
theorem e_r18On_4 (C : FuncId → List AV → AV → Prop) (σ : St) (K : St → Prop) : runReg C r_r18On_4 σ K = runHead C [] [⟨(.callv (.c (.clo 86 [] [])) [(.t 14), (.t 20)]), (some 21), none, [], []⟩, ⟨(.store 2 (.t 5) (.t 21)), none, none, [], [5]⟩] [⟨(.load 2 true (.t 5)), (some 14), none, [20, 21], []⟩, ⟨(.mv (.t 0)), (some 15), none, [20, 21], []⟩, ⟨(.mv (.t 6)), (some 16), none, [20, 21], []⟩, ⟨(.iaddr 6 (.t 15) (.t 16)), (some 17), none, [20, 21], []⟩, ⟨(.load 6 true (.t 17)), (some 18), none, [20, 21], []⟩, ⟨(.mv (.t 1)), (some 19), none, [20, 21], []⟩, ⟨(.callv (.c (.clo 87 [] [])) [(.t 18), (.t 19)]), (some 20), none, [21], []⟩] (σ.kills [20, 21]) K := rfl
theorem e_r18On_5 (C : FuncId → List AV → AV → Prop) (σ : St) (K : St → Prop) : runReg C r_r18On_5 σ K = runOps C [⟨(.mv (.t 6)), (some 12), none, [], []⟩, ⟨(.bin .add (.t 12) (.c (.int .i64 1))), (some 13), none, [], []⟩, ⟨(.mv (.t 13)), (some 6), none, [], []⟩] (σ.kills []) K := rfl
theorem e_r18On_7 (C : FuncId → List AV → AV → Prop) (σ : St) (K : St → Prop) : runReg C r_r18On_7 σ K = runOps C [⟨(.load 2 true (.t 5)), (some 22), none, [], []⟩, ⟨(.store 2 (.t 4) (.t 22)), none, none, [], []⟩] (σ.kills []) K := rfl
theorem fn_r18On {args : List AV} {r : AV} (ha : args.length.ble Try.f38.ntmps = true) (h : run (AFn Try.prog) ir_r18On (endQ res_r18On r) (initSt args)) : AFn Try.prog 38 args r :=
  AFn.of_code (hint := fun _ => []) (c := Try.f38.body.getD .skip) (by kernel_rfl) (by kernel_rfl) Try.func38 (by kernel_rfl) (by kernel_rfl) (by kernel_rfl) (of_decide_eq_true (by kernel_rfl)) (Nat.le_of_ble_eq_true ha) (run_ok h)

/-! ### percolate/message.Size -/
def r_mSize_0 : Reg := ⟨[], [⟨(.box 6 55 (.t 0)), (some 1), none, [], []⟩, ⟨(.mv (.c (.int .i64 0))), (some 2), none, [], []⟩], [1], [], false⟩
def r_mSize_1 : Reg := ⟨[], [⟨(.faddr 1 (.t 1)), (some 3), none, [], []⟩, ⟨(.load 1 false (.t 3)), (some 4), none, [], []⟩, ⟨(.bin .eql (.t 4) (.c (.int .i64 4))), (some 5), none, [], []⟩], [], [], false⟩
def r_mSize_2 : Reg := ⟨[], [⟨(.mv (.c (.int .i64 36))), (some 2), none, [], []⟩], [], [], false⟩
def r_mSize_3 : Reg := ⟨[], [⟨(.faddr 2 (.t 1)), (some 6), none, [], []⟩, ⟨(.load 1 false (.t 6)), (some 7), none, [], []⟩, ⟨(.len true (.t 7)), (some 8), none, [], []⟩, ⟨(.bin .add (.c (.int .i64 4)) (.t 8)), (some 9), none, [], []⟩, ⟨(.faddr 5 (.t 1)), (some 10), none, [], []⟩, ⟨(.load 1 false (.t 10)), (some 11), none, [], []⟩, ⟨(.len true (.t 11)), (some 12), none, [], []⟩, ⟨(.bin .add (.t 9) (.t 12)), (some 13), none, [], []⟩, ⟨(.mv (.t 13)), (some 2), none, [], []⟩], [], [], false⟩
def ir_mSize : IR := (.seq (.reg r_mSize_0)
  (.seq (.seq (.reg r_mSize_1)
  (.cond (.t 5) (.seq (.reg r_mSize_2)
  .ret)
  .skip))
  (.seq (.reg r_mSize_3)
  .ret)))
def res_mSize : List RDesc := [(.tmp 2)]
theorem e_mSize_0 (C : FuncId → List AV → AV → Prop) (σ : St) (K : St → Prop) : runReg C r_mSize_0 σ K = runOps C [⟨(.box 6 55 (.t 0)), (some 1), none, [], []⟩, ⟨(.mv (.c (.int .i64 0))), (some 2), none, [], []⟩] (σ.kills [1]) K := rfl
theorem e_mSize_1 (C : FuncId → List AV → AV → Prop) (σ : St) (K : St → Prop) : runReg C r_mSize_1 σ K = runOps C [⟨(.faddr 1 (.t 1)), (some 3), none, [], []⟩, ⟨(.load 1 false (.t 3)), (some 4), none, [], []⟩, ⟨(.bin .eql (.t 4) (.c (.int .i64 4))), (some 5), none, [], []⟩] (σ.kills []) K := rfl
theorem e_mSize_2 (C : FuncId → List AV → AV → Prop) (σ : St) (K : St → Prop) : runReg C r_mSize_2 σ K = runOps C [⟨(.mv (.c (.int .i64 36))), (some 2), none, [], []⟩] (σ.kills []) K := rfl
theorem e_mSize_3 (C : FuncId → List AV → AV → Prop) (σ : St) (K : St → Prop) : runReg C r_mSize_3 σ K = runOps C [⟨(.faddr 2 (.t 1)), (some 6), none, [], []⟩, ⟨(.load 1 false (.t 6)), (some 7), none, [], []⟩, ⟨(.len true (.t 7)), (some 8), none, [], []⟩, ⟨(.bin .add (.c (.int .i64 4)) (.t 8)), (some 9), none, [], []⟩, ⟨(.faddr 5 (.t 1)), (some 10), none, [], []⟩, ⟨(.load 1 false (.t 10)), (some 11), none, [], []⟩, ⟨(.len true (.t 11)), (some 12), none, [], []⟩, ⟨(.bin .add (.t 9) (.t 12)), (some 13), none, [], []⟩, ⟨(.mv (.t 13)), (some 2), none, [], []⟩] (σ.kills []) K := rfl
theorem fn_mSize {args : List AV} {r : AV} (ha : args.length.ble Try.f120.ntmps = true) (h : run (AFn Try.prog) ir_mSize (endQ res_mSize r) (initSt args)) : AFn Try.prog 120 args r :=
  AFn.of_code (hint := fun _ => []) (c := Try.f120.body.getD .skip) (by kernel_rfl) (by kernel_rfl) Try.func120 (by kernel_rfl) (by kernel_rfl) (by kernel_rfl) (of_decide_eq_true (by kernel_rfl)) (Nat.le_of_ble_eq_true ha) (run_ok h)

/-! ### percolate/buffer.Size -/
def r_bSize_0 : Reg := ⟨[], [⟨(.mv (.c (.int .i64 0))), (some 2), none, [], []⟩], [], [], false⟩
def r_bSize_1 : Reg := ⟨[], [⟨(.mv (.c (.int .i64 0))), (some 3), none, [], []⟩], [], [], false⟩
def r_bSize_2 : Reg := ⟨[], [⟨(.mv (.t 0)), (some 6), none, [], []⟩, ⟨(.len false (.t 6)), (some 7), none, [], []⟩, ⟨(.mv (.c (.int .i64 0))), (some 8), none, [], []⟩], [], [], false⟩
def r_bSize_3 : Reg := ⟨[], [⟨(.bin .lss (.t 8) (.t 7)), (some 9), none, [], []⟩], [], [], false⟩
def r_bSize_4 : Reg := ⟨[], [⟨(.iaddr 6 (.t 6) (.t 8)), (some 10), none, [5], []⟩, ⟨(.load 6 true (.t 10)), (some 11), none, [5], []⟩, ⟨(.alloc 6 55 (.agg [(.int .i64 0), (.int .i64 0), (.str ⟨#[]⟩), (.str ⟨#[]⟩), (.bool false), (.str ⟨#[]⟩)])), (some 5), none, [], []⟩, ⟨(.store 6 (.t 5) (.t 11)), none, none, [], []⟩], [5], [], false⟩
def r_bSize_5 : Reg := ⟨[], [⟨(.mv (.t 3)), (some 12), none, [14], []⟩, ⟨(.load 6 true (.t 5)), (some 13), none, [14], []⟩, ⟨(.callv (.c (.clo 120 [] [])) [(.t 13)]), (some 14), none, [], []⟩, ⟨(.bin .add (.t 12) (.t 14)), (some 15), none, [], []⟩, ⟨(.mv (.t 15)), (some 3), none, [], []⟩], [14], [], false⟩
def r_bSize_6 : Reg := ⟨[], [⟨(.bin .add (.t 8) (.c (.int .i64 1))), (some 16), none, [], []⟩, ⟨(.mv (.t 16)), (some 8), none, [], []⟩], [], [], false⟩
def r_bSize_l7 : IR := (.seq (.reg r_bSize_3)
  (.seq (.cond (.t 9) .skip
  (.exit 0))
  (.seq (.block 1 (.seq (.reg r_bSize_4)
  (.reg r_bSize_5)))
  (.reg r_bSize_6))))
def r_bSize_8 : Reg := ⟨[], [⟨(.mv (.t 3)), (some 17), none, [], []⟩, ⟨(.mv (.t 17)), (some 2), none, [], []⟩], [], [], false⟩
def ir_bSize : IR := (.seq (.reg r_bSize_0)
  (.seq (.reg r_bSize_1)
  (.seq (.seq (.reg r_bSize_2)
  (.block 0 (.loop r_bSize_l7)))
  (.seq (.reg r_bSize_8)
  .ret))))
def res_bSize : List RDesc := [(.tmp 2)]
theorem e_bSize_0 (C : FuncId → List AV → AV → Prop) (σ : St) (K : St → Prop) : runReg C r_bSize_0 σ K = runOps C [⟨(.mv (.c (.int .i64 0))), (some 2), none, [], []⟩] (σ.kills []) K := rfl
theorem e_bSize_1 (C : FuncId → List AV → AV → Prop) (σ : St) (K : St → Prop) : runReg C r_bSize_1 σ K = runOps C [⟨(.mv (.c (.int .i64 0))), (some 3), none, [], []⟩] (σ.kills []) K := rfl
theorem e_bSize_2 (C : FuncId → List AV → AV → Prop) (σ : St) (K : St → Prop) : runReg C r_bSize_2 σ K = runOps C [⟨(.mv (.t 0)), (some 6), none, [], []⟩, ⟨(.len false (.t 6)), (some 7), none, [], []⟩, ⟨(.mv (.c (.int .i64 0))), (some 8), none, [], []⟩] (σ.kills []) K := rfl
theorem e_bSize_3 (C : FuncId → List AV → AV → Prop) (σ : St) (K : St → Prop) : runReg C r_bSize_3 σ K = runOps C [⟨(.bin .lss (.t 8) (.t 7)), (some 9), none, [], []⟩] (σ.kills []) K := rfl
theorem e_bSize_4 (C : FuncId → List AV → AV → Prop) (σ : St) (K : St → Prop) : runReg C r_bSize_4 σ K = runOps C [⟨(.iaddr 6 (.t 6) (.t 8)), (some 10), none, [5], []⟩, ⟨(.load 6 true (.t 10)), (some 11), none, [5], []⟩, ⟨(.alloc 6 55 (.agg [(.int .i64 0), (.int .i64 0), (.str ⟨#[]⟩), (.str ⟨#[]⟩), (.bool false), (.str ⟨#[]⟩)])), (some 5), none, [], []⟩, ⟨(.store 6 (.t 5) (.t 11)), none, none, [], []⟩] (σ.kills [5]) K := rfl
theorem e_bSize_5 (C : FuncId → List AV → AV → Prop) (σ : St) (K : St → Prop) : runReg C r_bSize_5 σ K = runOps C [⟨(.mv (.t 3)), (some 12), none, [14], []⟩, ⟨(.load 6 true (.t 5)), (some 13), none, [14], []⟩, ⟨(.callv (.c (.clo 120 [] [])) [(.t 13)]), (some 14), none, [], []⟩, ⟨(.bin .add (.t 12) (.t 14)), (some 15), none, [], []⟩, ⟨(.mv (.t 15)), (some 3), none, [], []⟩] (σ.kills [14]) K := rfl
theorem e_bSize_6 (C : FuncId → List AV → AV → Prop) (σ : St) (K : St → Prop) : runReg C r_bSize_6 σ K = runOps C [⟨(.bin .add (.t 8) (.c (.int .i64 1))), (some 16), none, [], []⟩, ⟨(.mv (.t 16)), (some 8), none, [], []⟩] (σ.kills []) K := rfl
theorem e_bSize_8 (C : FuncId → List AV → AV → Prop) (σ : St) (K : St → Prop) : runReg C r_bSize_8 σ K = runOps C [⟨(.mv (.t 3)), (some 17), none, [], []⟩, ⟨(.mv (.t 17)), (some 2), none, [], []⟩] (σ.kills []) K := rfl
theorem fn_bSize {args : List AV} {r : AV} (ha : args.length.ble Try.f89.ntmps = true) (h : run (AFn Try.prog) ir_bSize (endQ res_bSize r) (initSt args)) : AFn Try.prog 89 args r :=
  AFn.of_code (hint := fun _ => []) (c := Try.f89.body.getD .skip) (by kernel_rfl) (by kernel_rfl) Try.func89 (by kernel_rfl) (by kernel_rfl) (by kernel_rfl) (of_decide_eq_true (by kernel_rfl)) (Nat.le_of_ble_eq_true ha) (run_ok h)

/-! ### percolate/percolateref05.Same -/
def r_rSame_0 : Reg := ⟨[], [⟨(.mv (.c (.bool false))), (some 4), none, [], []⟩], [], [], false⟩
def r_rSame_1 : Reg := ⟨[], [⟨(.mv (.t 0)), (some 6), none, [], []⟩, ⟨(.len false (.t 6)), (some 7), none, [], []⟩, ⟨(.mv (.t 1)), (some 8), none, [], []⟩, ⟨(.len false (.t 8)), (some 9), none, [], []⟩, ⟨(.bin .neq (.t 7) (.t 9)), (some 10), none, [], []⟩], [], [], false⟩
def r_rSame_2 : Reg := ⟨[], [⟨(.mv (.c (.bool false))), (some 4), none, [], []⟩], [], [], false⟩
def r_rSame_3 : Reg := ⟨[], [⟨(.mv (.c (.int .i64 0))), (some 5), none, [], []⟩], [], [], false⟩
def r_rSame_4 : Reg := ⟨[], [⟨(.mv (.t 5)), (some 11), none, [], []⟩, ⟨(.mv (.t 0)), (some 12), none, [], []⟩, ⟨(.len false (.t 12)), (some 13), none, [], []⟩, ⟨(.bin .lss (.t 11) (.t 13)), (some 14), none, [], []⟩], [], [], false⟩
def r_rSame_5 : Reg := ⟨[⟨(.mv (.t 0)), (some 17), none, [], []⟩, ⟨(.mv (.t 5)), (some 18), none, [], []⟩, ⟨(.iaddr 6 (.t 17) (.t 18)), (some 19), none, [], []⟩, ⟨(.load 6 true (.t 19)), (some 20), none, [], []⟩, ⟨(.mv (.t 1)), (some 21), none, [], []⟩, ⟨(.mv (.t 5)), (some 22), none, [], []⟩, ⟨(.iaddr 6 (.t 21) (.t 22)), (some 23), none, [], []⟩, ⟨(.load 6 true (.t 23)), (some 24), none, [], []⟩], [⟨(.feq true [(0, 0), (1, 0), (2, 1), (3, 1), (4, 2), (5, 1)] (.t 20) (.t 24)), (some 25), none, [], []⟩], [], [], true⟩
def r_rSame_6 : Reg := ⟨[], [⟨(.mv (.c (.bool false))), (some 4), none, [], []⟩], [], [], false⟩
def r_rSame_7 : Reg := ⟨[], [⟨(.mv (.t 5)), (some 15), none, [], []⟩, ⟨(.bin .add (.t 15) (.c (.int .i64 1))), (some 16), none, [], []⟩, ⟨(.mv (.t 16)), (some 5), none, [], []⟩], [], [], false⟩
def r_rSame_l8 : IR := (.seq (.seq (.reg r_rSame_4)
  (.cond (.t 14) .skip
  (.exit 0)))
  (.seq (.block 1 (.seq (.reg r_rSame_5)
  (.cond (.t 25) (.seq (.reg r_rSame_6)
  .ret)
  .skip)))
  (.reg r_rSame_7)))
def r_rSame_9 : Reg := ⟨[], [⟨(.mv (.c (.bool true))), (some 4), none, [], []⟩], [], [], false⟩
def ir_rSame : IR := (.seq (.reg r_rSame_0)
  (.seq (.seq (.reg r_rSame_1)
  (.cond (.t 10) (.seq (.reg r_rSame_2)
  .ret)
  .skip))
  (.seq (.seq (.reg r_rSame_3)
  (.block 0 (.loop r_rSame_l8)))
  (.seq (.reg r_rSame_9)
  .ret))))
def res_rSame : List RDesc := [(.tmp 4)]
theorem e_rSame_0 (C : FuncId → List AV → AV → Prop) (σ : St) (K : St → Prop) : runReg C r_rSame_0 σ K = runOps C [⟨(.mv (.c (.bool false))), (some 4), none, [], []⟩] (σ.kills []) K := rfl
theorem e_rSame_1 (C : FuncId → List AV → AV → Prop) (σ : St) (K : St → Prop) : runReg C r_rSame_1 σ K = runOps C [⟨(.mv (.t 0)), (some 6), none, [], []⟩, ⟨(.len false (.t 6)), (some 7), none, [], []⟩, ⟨(.mv (.t 1)), (some 8), none, [], []⟩, ⟨(.len false (.t 8)), (some 9), none, [], []⟩, ⟨(.bin .neq (.t 7) (.t 9)), (some 10), none, [], []⟩] (σ.kills []) K := rfl
theorem e_rSame_2 (C : FuncId → List AV → AV → Prop) (σ : St) (K : St → Prop) : runReg C r_rSame_2 σ K = runOps C [⟨(.mv (.c (.bool false))), (some 4), none, [], []⟩] (σ.kills []) K := rfl
theorem e_rSame_3 (C : FuncId → List AV → AV → Prop) (σ : St) (K : St → Prop) : runReg C r_rSame_3 σ K = runOps C [⟨(.mv (.c (.int .i64 0))), (some 5), none, [], []⟩] (σ.kills []) K := rfl
theorem e_rSame_4 (C : FuncId → List AV → AV → Prop) (σ : St) (K : St → Prop) : runReg C r_rSame_4 σ K = runOps C [⟨(.mv (.t 5)), (some 11), none, [], []⟩, ⟨(.mv (.t 0)), (some 12), none, [], []⟩, ⟨(.len false (.t 12)), (some 13), none, [], []⟩, ⟨(.bin .lss (.t 11) (.t 13)), (some 14), none, [], []⟩] (σ.kills []) K := rfl
theorem e_rSame_5 (C : FuncId → List AV → AV → Prop) (σ : St) (K : St → Prop) : runReg C r_rSame_5 σ K = runHead C [] [⟨(.feq true [(0, 0), (1, 0), (2, 1), (3, 1), (4, 2), (5, 1)] (.t 20) (.t 24)), (some 25), none, [], []⟩] [⟨(.mv (.t 0)), (some 17), none, [], []⟩, ⟨(.mv (.t 5)), (some 18), none, [], []⟩, ⟨(.iaddr 6 (.t 17) (.t 18)), (some 19), none, [], []⟩, ⟨(.load 6 true (.t 19)), (some 20), none, [], []⟩, ⟨(.mv (.t 1)), (some 21), none, [], []⟩, ⟨(.mv (.t 5)), (some 22), none, [], []⟩, ⟨(.iaddr 6 (.t 21) (.t 22)), (some 23), none, [], []⟩, ⟨(.load 6 true (.t 23)), (some 24), none, [], []⟩] (σ.kills []) K := rfl
theorem e_rSame_6 (C : FuncId → List AV → AV → Prop) (σ : St) (K : St → Prop) : runReg C r_rSame_6 σ K = runOps C [⟨(.mv (.c (.bool false))), (some 4), none, [], []⟩] (σ.kills []) K := rfl
theorem e_rSame_7 (C : FuncId → List AV → AV → Prop) (σ : St) (K : St → Prop) : runReg C r_rSame_7 σ K = runOps C [⟨(.mv (.t 5)), (some 15), none, [], []⟩, ⟨(.bin .add (.t 15) (.c (.int .i64 1))), (some 16), none, [], []⟩, ⟨(.mv (.t 16)), (some 5), none, [], []⟩] (σ.kills []) K := rfl
theorem e_rSame_9 (C : FuncId → List AV → AV → Prop) (σ : St) (K : St → Prop) : runReg C r_rSame_9 σ K = runOps C [⟨(.mv (.c (.bool true))), (some 4), none, [], []⟩] (σ.kills []) K := rfl
theorem fn_rSame {args : List AV} {r : AV} (ha : args.length.ble Try.f33.ntmps = true) (h : run (AFn Try.prog) ir_rSame (endQ res_rSame r) (initSt args)) : AFn Try.prog 33 args r :=
  AFn.of_code (hint := fun _ => []) (c := Try.f33.body.getD .skip) (by kernel_rfl) (by kernel_rfl) Try.func33 (by kernel_rfl) (by kernel_rfl) (by kernel_rfl) (of_decide_eq_true (by kernel_rfl)) (Nat.le_of_ble_eq_true ha) (run_ok h)

/-! ### percolate/squeeze.Saved -/
def r_saved_0 : Reg := ⟨[], [⟨(.mv (.c (.int .i64 0))), (some 2), none, [], []⟩], [], [], false⟩
def r_saved_1 : Reg := ⟨[], [⟨(.mv (.t 0)), (some 3), none, [4, 6, 7], []⟩, ⟨(.callv (.c (.clo 89 [] [])) [(.t 3)]), (some 4), none, [6, 7], []⟩, ⟨(.mv (.t 0)), (some 5), none, [6, 7], []⟩, ⟨(.callv (.c (.clo 29 [] [])) [(.t 5)]), (some 6), none, [7], []⟩, ⟨(.callv (.c (.clo 89 [] [])) [(.t 6)]), (some 7), none, [], []⟩, ⟨(.bin .sub (.t 4) (.t 7)), (some 8), none, [], []⟩, ⟨(.mv (.t 8)), (some 2), none, [], []⟩], [4, 6, 7], [], false⟩
def ir_saved : IR := (.seq (.reg r_saved_0)
  (.seq (.reg r_saved_1)
  .ret))
def res_saved : List RDesc := [(.tmp 2)]
theorem e_saved_0 (C : FuncId → List AV → AV → Prop) (σ : St) (K : St → Prop) : runReg C r_saved_0 σ K = runOps C [⟨(.mv (.c (.int .i64 0))), (some 2), none, [], []⟩] (σ.kills []) K := rfl
theorem e_saved_1 (C : FuncId → List AV → AV → Prop) (σ : St) (K : St → Prop) : runReg C r_saved_1 σ K = runOps C [⟨(.mv (.t 0)), (some 3), none, [4, 6, 7], []⟩, ⟨(.callv (.c (.clo 89 [] [])) [(.t 3)]), (some 4), none, [6, 7], []⟩, ⟨(.mv (.t 0)), (some 5), none, [6, 7], []⟩, ⟨(.callv (.c (.clo 29 [] [])) [(.t 5)]), (some 6), none, [7], []⟩, ⟨(.callv (.c (.clo 89 [] [])) [(.t 6)]), (some 7), none, [], []⟩, ⟨(.bin .sub (.t 4) (.t 7)), (some 8), none, [], []⟩, ⟨(.mv (.t 8)), (some 2), none, [], []⟩] (σ.kills [4, 6, 7]) K := rfl
theorem fn_saved {args : List AV} {r : AV} (ha : args.length.ble Try.f36.ntmps = true) (h : run (AFn Try.prog) ir_saved (endQ res_saved r) (initSt args)) : AFn Try.prog 36 args r :=
  AFn.of_code (hint := fun _ => []) (c := Try.f36.body.getD .skip) (by kernel_rfl) (by kernel_rfl) Try.func36 (by kernel_rfl) (by kernel_rfl) (by kernel_rfl) (of_decide_eq_true (by kernel_rfl)) (Nat.le_of_ble_eq_true ha) (run_ok h)

attribute [local go_sem ↓] ir_rSize
attribute [local go_sem] res_rSize e_rSize_0 e_rSize_1 e_rSize_2 e_rSize_3
attribute [local go_sem ↓] ir_r18Size
attribute [local go_sem] res_r18Size e_r18Size_0 e_r18Size_1 e_r18Size_2 e_r18Size_3 e_r18Size_4 e_r18Size_5 e_r18Size_7
attribute [local go_sem ↓] ir_r18On
attribute [local go_sem] res_r18On e_r18On_0 e_r18On_1 e_r18On_2 e_r18On_3 e_r18On_4 e_r18On_5 e_r18On_7
attribute [local go_sem ↓] ir_mSize
attribute [local go_sem] res_mSize e_mSize_0 e_mSize_1 e_mSize_2 e_mSize_3
attribute [local go_sem ↓] ir_bSize
attribute [local go_sem] res_bSize e_bSize_0 e_bSize_1 e_bSize_2 e_bSize_3 e_bSize_4 e_bSize_5 e_bSize_6 e_bSize_8
attribute [local go_sem ↓] ir_rSame
attribute [local go_sem] res_rSame e_rSame_0 e_rSame_1 e_rSame_2 e_rSame_3 e_rSame_4 e_rSame_5 e_rSame_6 e_rSame_7 e_rSame_9
attribute [local go_sem ↓] ir_saved
attribute [local go_sem] res_saved e_saved_0 e_saved_1

def KOk (l : List Msg) : Prop := l.length ≤ 1000000 ∧ ∀ m, m ∈ l → m.key.size ≤ 1000000 ∧ m.hi.size ≤ 1000000 ∧ m.val.size ≤ 1000000
theorem refSize (m : Msg) (h1 : m.key.size ≤ 1000000) (h2 : m.val.size ≤ 1000000) : AFn Try.prog 88 [m.a] (.int .i64 (m.size : Int)) := by
  refine fn_rSize rfl ?_
  cases h : (m.kind == 4) with
  | true =>
    have h' : m.kind = 4 := by simpa using h
    simp (maxSteps := 4000000) only [go_sem, ↓reduceIte, reduceCtorEq, Nat.reduceEqDiff, Nat.reduceBEq, Nat.reduceAdd, Nat.reduceSub, Nat.reduceMul, Nat.reduceLT, Nat.reduceLeDiff, Nat.reduceBNe, Int.reduceBEq, Int.reduceBNe, Int.reduceLT, Int.reduceLE, Spn.a, Msg.a, Eff.a, h]
    simp [Msg.size, h']
  | false =>
    have h' : m.kind ≠ 4 := by simpa using h
    have w1 : IntKind.i64.wrap (4 + (m.key.size : Int)) = 4 + (m.key.size : Int) := IntWalk.i64_in _ (by omega)
    have w2 : IntKind.i64.wrap (4 + (m.key.size : Int) + (m.val.size : Int)) = 4 + (m.key.size : Int) + (m.val.size : Int) := IntWalk.i64_in _ (by omega)
    simp (maxSteps := 4000000) only [go_sem, ↓reduceIte, reduceCtorEq, Nat.reduceEqDiff, Nat.reduceBEq, Nat.reduceAdd, Nat.reduceSub, Nat.reduceMul, Nat.reduceLT, Nat.reduceLeDiff, Nat.reduceBNe, Int.reduceBEq, Int.reduceBNe, Int.reduceLT, Int.reduceLE, Spn.a, Msg.a, Eff.a, h, w1, w2]
    simp [Msg.size, h']
theorem msgSize (m : Msg) (h1 : m.key.size ≤ 1000000) (h2 : m.val.size ≤ 1000000) : AFn Try.prog 120 [m.a] (.int .i64 (m.size : Int)) := by
  refine fn_mSize rfl ?_
  cases h : (m.kind == 4) with
  | true =>
    have h' : m.kind = 4 := by simpa using h
    simp (maxSteps := 4000000) only [go_sem, ↓reduceIte, reduceCtorEq, Nat.reduceEqDiff, Nat.reduceBEq, Nat.reduceAdd, Nat.reduceSub, Nat.reduceMul, Nat.reduceLT, Nat.reduceLeDiff, Nat.reduceBNe, Int.reduceBEq, Int.reduceBNe, Int.reduceLT, Int.reduceLE, Spn.a, Msg.a, Eff.a, h]
    simp [Msg.size, h']
  | false =>
    have h' : m.kind ≠ 4 := by simpa using h
    have w1 : IntKind.i64.wrap (4 + (m.key.size : Int)) = 4 + (m.key.size : Int) := IntWalk.i64_in _ (by omega)
    have w2 : IntKind.i64.wrap (4 + (m.key.size : Int) + (m.val.size : Int)) = 4 + (m.key.size : Int) + (m.val.size : Int) := IntWalk.i64_in _ (by omega)
    simp (maxSteps := 4000000) only [go_sem, ↓reduceIte, reduceCtorEq, Nat.reduceEqDiff, Nat.reduceBEq, Nat.reduceAdd, Nat.reduceSub, Nat.reduceMul, Nat.reduceLT, Nat.reduceLeDiff, Nat.reduceBNe, Int.reduceBEq, Int.reduceBNe, Int.reduceLT, Int.reduceLE, Spn.a, Msg.a, Eff.a, h, w1, w2]
    simp [Msg.size, h']
theorem take_one {l : List Msg} {j : Nat} {x : Msg} (hx : l[j]? = some x) : l.take (j + 1) = l.take j ++ [x] := by
  rw [List.take_add_one, hx]; rfl
theorem size_le (m : Msg) (h1 : m.key.size ≤ 1000000) (h2 : m.val.size ≤ 1000000) : m.size ≤ 2000036 := by
  unfold Msg.size; split <;> omega
theorem sizes_le : ∀ {l : List Msg}, (∀ m, m ∈ l → m.key.size ≤ 1000000 ∧ m.hi.size ≤ 1000000 ∧ m.val.size ≤ 1000000) → sizes l ≤ l.length * 2000036
  | [], _ => Nat.zero_le _
  | m :: l, h => by
    rw [sizes_cons, List.length_cons]
    have h1 := sizes_le (l := l) fun x hx => h x (List.mem_cons_of_mem _ hx)
    have h2 := size_le m (h m (List.mem_cons_self ..)).1 (h m (List.mem_cons_self ..)).2.2
    omega
theorem sizes_take {l : List Msg} (h : KOk l) (j : Nat) : sizes (l.take j) ≤ 2000036000000 := by
  have h1 := sizes_le (l := l.take j) fun x hx => h.2 x (List.mem_of_mem_take hx)
  have h2 := h.1
  have h3 : (l.take j).length ≤ l.length := by rw [List.length_take]; omega
  omega
def szInv (l : List Msg) (k : Nat) (σ : St) : Prop :=
  ∃ j : Nat, j ≤ l.length ∧ k = l.length - j ∧ σ.T 0 = .sl (l.map Msg.a) ∧ σ.T 3 = .int .i64 ((sizes (l.take j) : Nat) : Int) ∧ σ.T 4 = .int .i64 j
theorem ref18Size (l : List Msg) (hl : KOk l) : AFn Try.prog 35 [.sl (l.map Msg.a)] (.int .i64 (sizes l : Int)) := by
  refine fn_r18Size rfl ?_
  simp (maxSteps := 4000000) only [go_sem, ↓reduceIte, reduceCtorEq, Nat.reduceEqDiff, Nat.reduceBEq, Nat.reduceAdd, Nat.reduceSub, Nat.reduceMul, Nat.reduceLT, Nat.reduceLeDiff, Nat.reduceBNe, Int.reduceBEq, Int.reduceBNe, Int.reduceLT, Int.reduceLE, Spn.a, Msg.a, Eff.a]
  refine run_loop (szInv l) (k := l.length) ⟨0, by omega, rfl, ?_, ?_, ?_⟩ ?_
  · simp (maxSteps := 4000000) only [go_sem, ↓reduceIte, reduceCtorEq, Nat.reduceEqDiff, Nat.reduceBEq, Nat.reduceAdd, Nat.reduceSub, Nat.reduceMul, Nat.reduceLT, Nat.reduceLeDiff, Nat.reduceBNe, Int.reduceBEq, Int.reduceBNe, Int.reduceLT, Int.reduceLE, Spn.a, Msg.a, Eff.a]
  · simp (maxSteps := 4000000) only [go_sem, ↓reduceIte, reduceCtorEq, Nat.reduceEqDiff, Nat.reduceBEq, Nat.reduceAdd, Nat.reduceSub, Nat.reduceMul, Nat.reduceLT, Nat.reduceLeDiff, Nat.reduceBNe, Int.reduceBEq, Int.reduceBNe, Int.reduceLT, Int.reduceLE, Spn.a, Msg.a, Eff.a]
    rfl
  · simp (maxSteps := 4000000) only [go_sem, ↓reduceIte, reduceCtorEq, Nat.reduceEqDiff, Nat.reduceBEq, Nat.reduceAdd, Nat.reduceSub, Nat.reduceMul, Nat.reduceLT, Nat.reduceLeDiff, Nat.reduceBNe, Int.reduceBEq, Int.reduceBNe, Int.reduceLT, Int.reduceLE, Spn.a, Msg.a, Eff.a]
    rfl
  rintro k σ ⟨j, hj, rfl, t0, t3, t4⟩
  simp only [r_r18Size_l6]
  by_cases hlt : j < l.length
  · have hlt' : (j : Int) < (l.length : Int) := by omega
    obtain ⟨x, hx⟩ := getM hlt
    have hm := hl.2 x (List.mem_of_getElem? hx)
    have hw := wS (j := j) (by have := hl.1; omega)
    have hw2 : IntKind.i64.wrap (((sizes (l.take j) : Nat) : Int) + (x.size : Int)) = ((sizes (l.take (j + 1)) : Nat) : Int) := by
      rw [IntWalk.i64_in _ (by have := sizes_take hl j; have := size_le x hm.1 hm.2.2; omega), take_one hx, sizes_app, sizes_cons]; simp [sizes]
    simp (maxSteps := 4000000) only [go_sem, ↓reduceIte, reduceCtorEq, Nat.reduceEqDiff, Nat.reduceBEq, Nat.reduceAdd, Nat.reduceSub, Nat.reduceMul, Nat.reduceLT, Nat.reduceLeDiff, Nat.reduceBNe, Int.reduceBEq, Int.reduceBNe, Int.reduceLT, Int.reduceLE, Spn.a, Msg.a, Eff.a, t0, t3, t4, hlt', gM hx, List.length_map, Int.toNat_natCast]
    refine ⟨by omega, ?_⟩
    (first | refine calling (refSize x hm.1 hm.2.2) ?_ | refine callingH (refSize x hm.1 hm.2.2) ?_)
    simp (maxSteps := 4000000) only [go_sem, ↓reduceIte, reduceCtorEq, Nat.reduceEqDiff, Nat.reduceBEq, Nat.reduceAdd, Nat.reduceSub, Nat.reduceMul, Nat.reduceLT, Nat.reduceLeDiff, Nat.reduceBNe, Int.reduceBEq, Int.reduceBNe, Int.reduceLT, Int.reduceLE, Spn.a, Msg.a, Eff.a, t0, t3, t4, hw, hw2]
    refine ⟨l.length - (j + 1), by omega, j + 1, by omega, rfl, ?_, ?_, ?_⟩ <;>
      (simp (maxSteps := 4000000) only [go_sem, ↓reduceIte, reduceCtorEq, Nat.reduceEqDiff, Nat.reduceBEq, Nat.reduceAdd, Nat.reduceSub, Nat.reduceMul, Nat.reduceLT, Nat.reduceLeDiff, Nat.reduceBNe, Int.reduceBEq, Int.reduceBNe, Int.reduceLT, Int.reduceLE, Spn.a, Msg.a, Eff.a, t0, t3, t4, hw, hw2])
  · have hlt' : ¬ (j : Int) < (l.length : Int) := by omega
    simp (maxSteps := 4000000) only [go_sem, ↓reduceIte, reduceCtorEq, Nat.reduceEqDiff, Nat.reduceBEq, Nat.reduceAdd, Nat.reduceSub, Nat.reduceMul, Nat.reduceLT, Nat.reduceLeDiff, Nat.reduceBNe, Int.reduceBEq, Int.reduceBNe, Int.reduceLT, Int.reduceLE, Spn.a, Msg.a, Eff.a, t0, t3, t4, hlt', List.length_map]
    rw [List.take_of_length_le (by omega)]
def bszInv (l : List Msg) (k : Nat) (σ : St) : Prop :=
  ∃ j : Nat, j ≤ l.length ∧ k = l.length - j ∧ σ.T 6 = .sl (l.map Msg.a) ∧ σ.T 7 = .int .i64 l.length ∧ σ.T 3 = .int .i64 ((sizes (l.take j) : Nat) : Int) ∧ σ.T 8 = .int .i64 j
theorem bufSize (l : List Msg) (hl : KOk l) : AFn Try.prog 89 [.sl (l.map Msg.a)] (.int .i64 (sizes l : Int)) := by
  refine fn_bSize rfl ?_
  simp (maxSteps := 4000000) only [go_sem, ↓reduceIte, reduceCtorEq, Nat.reduceEqDiff, Nat.reduceBEq, Nat.reduceAdd, Nat.reduceSub, Nat.reduceMul, Nat.reduceLT, Nat.reduceLeDiff, Nat.reduceBNe, Int.reduceBEq, Int.reduceBNe, Int.reduceLT, Int.reduceLE, Spn.a, Msg.a, Eff.a]
  refine run_loop (bszInv l) (k := l.length) ⟨0, by omega, rfl, ?_, ?_, ?_, ?_⟩ ?_
  · simp (maxSteps := 4000000) only [go_sem, ↓reduceIte, reduceCtorEq, Nat.reduceEqDiff, Nat.reduceBEq, Nat.reduceAdd, Nat.reduceSub, Nat.reduceMul, Nat.reduceLT, Nat.reduceLeDiff, Nat.reduceBNe, Int.reduceBEq, Int.reduceBNe, Int.reduceLT, Int.reduceLE, Spn.a, Msg.a, Eff.a]
  · simp (maxSteps := 4000000) only [go_sem, ↓reduceIte, reduceCtorEq, Nat.reduceEqDiff, Nat.reduceBEq, Nat.reduceAdd, Nat.reduceSub, Nat.reduceMul, Nat.reduceLT, Nat.reduceLeDiff, Nat.reduceBNe, Int.reduceBEq, Int.reduceBNe, Int.reduceLT, Int.reduceLE, Spn.a, Msg.a, Eff.a, List.length_map]
  · simp (maxSteps := 4000000) only [go_sem, ↓reduceIte, reduceCtorEq, Nat.reduceEqDiff, Nat.reduceBEq, Nat.reduceAdd, Nat.reduceSub, Nat.reduceMul, Nat.reduceLT, Nat.reduceLeDiff, Nat.reduceBNe, Int.reduceBEq, Int.reduceBNe, Int.reduceLT, Int.reduceLE, Spn.a, Msg.a, Eff.a]
    rfl
  · simp (maxSteps := 4000000) only [go_sem, ↓reduceIte, reduceCtorEq, Nat.reduceEqDiff, Nat.reduceBEq, Nat.reduceAdd, Nat.reduceSub, Nat.reduceMul, Nat.reduceLT, Nat.reduceLeDiff, Nat.reduceBNe, Int.reduceBEq, Int.reduceBNe, Int.reduceLT, Int.reduceLE, Spn.a, Msg.a, Eff.a]
    rfl
  rintro k σ ⟨j, hj, rfl, t6, t7, t3, t8⟩
  simp only [r_bSize_l7]
  by_cases hlt : j < l.length
  · have hlt' : (j : Int) < (l.length : Int) := by omega
    obtain ⟨x, hx⟩ := getM hlt
    have hm := hl.2 x (List.mem_of_getElem? hx)
    have hw := wS (j := j) (by have := hl.1; omega)
    have hw2 : IntKind.i64.wrap (((sizes (l.take j) : Nat) : Int) + (x.size : Int)) = ((sizes (l.take (j + 1)) : Nat) : Int) := by
      rw [IntWalk.i64_in _ (by have := sizes_take hl j; have := size_le x hm.1 hm.2.2; omega), take_one hx, sizes_app, sizes_cons]; simp [sizes]
    simp (maxSteps := 4000000) only [go_sem, ↓reduceIte, reduceCtorEq, Nat.reduceEqDiff, Nat.reduceBEq, Nat.reduceAdd, Nat.reduceSub, Nat.reduceMul, Nat.reduceLT, Nat.reduceLeDiff, Nat.reduceBNe, Int.reduceBEq, Int.reduceBNe, Int.reduceLT, Int.reduceLE, Spn.a, Msg.a, Eff.a, t6, t7, t3, t8, hlt', gM hx, List.length_map, Int.toNat_natCast]
    refine ⟨by omega, ?_⟩
    (first | refine calling (msgSize x hm.1 hm.2.2) ?_ | refine callingH (msgSize x hm.1 hm.2.2) ?_)
    simp (maxSteps := 4000000) only [go_sem, ↓reduceIte, reduceCtorEq, Nat.reduceEqDiff, Nat.reduceBEq, Nat.reduceAdd, Nat.reduceSub, Nat.reduceMul, Nat.reduceLT, Nat.reduceLeDiff, Nat.reduceBNe, Int.reduceBEq, Int.reduceBNe, Int.reduceLT, Int.reduceLE, Spn.a, Msg.a, Eff.a, t6, t7, t3, t8, hw, hw2]
    refine ⟨l.length - (j + 1), by omega, j + 1, by omega, rfl, ?_, ?_, ?_, ?_⟩ <;>
      (simp (maxSteps := 4000000) only [go_sem, ↓reduceIte, reduceCtorEq, Nat.reduceEqDiff, Nat.reduceBEq, Nat.reduceAdd, Nat.reduceSub, Nat.reduceMul, Nat.reduceLT, Nat.reduceLeDiff, Nat.reduceBNe, Int.reduceBEq, Int.reduceBNe, Int.reduceLT, Int.reduceLE, Spn.a, Msg.a, Eff.a, t6, t7, t3, t8, hw, hw2])
  · have hlt' : ¬ (j : Int) < (l.length : Int) := by omega
    simp (maxSteps := 4000000) only [go_sem, ↓reduceIte, reduceCtorEq, Nat.reduceEqDiff, Nat.reduceBEq, Nat.reduceAdd, Nat.reduceSub, Nat.reduceMul, Nat.reduceLT, Nat.reduceLeDiff, Nat.reduceBNe, Int.reduceBEq, Int.reduceBNe, Int.reduceLT, Int.reduceLE, Spn.a, Msg.a, Eff.a, t6, t7, t3, t8, hlt', List.length_map]
    rw [List.take_of_length_le (by omega)]
theorem saved_ok (l : List Msg) (hl : KOk l) (hs : KOk (squeezeF l)) (hle : sizes (squeezeF l) ≤ sizes l) : AFn Try.prog 36 [.sl (l.map Msg.a)] (.int .i64 ((sizes l : Int) - (sizes (squeezeF l) : Int))) := by
  refine fn_saved rfl ?_
  simp (maxSteps := 4000000) only [go_sem, ↓reduceIte, reduceCtorEq, Nat.reduceEqDiff, Nat.reduceBEq, Nat.reduceAdd, Nat.reduceSub, Nat.reduceMul, Nat.reduceLT, Nat.reduceLeDiff, Nat.reduceBNe, Int.reduceBEq, Int.reduceBNe, Int.reduceLT, Int.reduceLE, Spn.a, Msg.a, Eff.a]
  (first | refine calling (bufSize l hl) ?_ | refine callingH (bufSize l hl) ?_)
  simp (maxSteps := 4000000) only [go_sem, ↓reduceIte, reduceCtorEq, Nat.reduceEqDiff, Nat.reduceBEq, Nat.reduceAdd, Nat.reduceSub, Nat.reduceMul, Nat.reduceLT, Nat.reduceLeDiff, Nat.reduceBNe, Int.reduceBEq, Int.reduceBNe, Int.reduceLT, Int.reduceLE, Spn.a, Msg.a, Eff.a]
  (first | refine calling (squeeze_ok l ⟨hl.1, fun m hm => ⟨by have := (hl.2 m hm).1; omega, by have := (hl.2 m hm).2.2; omega⟩⟩) ?_ | refine callingH (squeeze_ok l ⟨hl.1, fun m hm => ⟨by have := (hl.2 m hm).1; omega, by have := (hl.2 m hm).2.2; omega⟩⟩) ?_)
  simp (maxSteps := 4000000) only [go_sem, ↓reduceIte, reduceCtorEq, Nat.reduceEqDiff, Nat.reduceBEq, Nat.reduceAdd, Nat.reduceSub, Nat.reduceMul, Nat.reduceLT, Nat.reduceLeDiff, Nat.reduceBNe, Int.reduceBEq, Int.reduceBNe, Int.reduceLT, Int.reduceLE, Spn.a, Msg.a, Eff.a]
  have ht : ((squeezeF l).map Msg.a).take (squeezeF l).length = (squeezeF l).map Msg.a := List.take_of_length_le (by rw [List.length_map]; exact Nat.le_refl _)
  simp (maxSteps := 4000000) only [go_sem, ↓reduceIte, reduceCtorEq, Nat.reduceEqDiff, Nat.reduceBEq, Nat.reduceAdd, Nat.reduceSub, Nat.reduceMul, Nat.reduceLT, Nat.reduceLeDiff, Nat.reduceBNe, Int.reduceBEq, Int.reduceBNe, Int.reduceLT, Int.reduceLE, Spn.a, Msg.a, Eff.a, List.length_map, ht]
  (first | refine calling (bufSize (squeezeF l) hs) ?_ | refine callingH (bufSize (squeezeF l) hs) ?_)
  have hw : IntKind.i64.wrap ((sizes l : Int) - (sizes (squeezeF l) : Int)) = (sizes l : Int) - (sizes (squeezeF l) : Int) := by
    have h1 := sizes_take hl l.length
    rw [List.take_length] at h1
    exact IntWalk.i64_in _ (by omega)
  simp (maxSteps := 4000000) only [go_sem, ↓reduceIte, reduceCtorEq, Nat.reduceEqDiff, Nat.reduceBEq, Nat.reduceAdd, Nat.reduceSub, Nat.reduceMul, Nat.reduceLT, Nat.reduceLeDiff, Nat.reduceBNe, Int.reduceBEq, Int.reduceBNe, Int.reduceLT, Int.reduceLE, Spn.a, Msg.a, Eff.a, hw]

theorem fold_size {x : ByteArray} {n : Nat} (hn : 16 ≤ n) : ∀ {l : List Msg} {e : Eff}, e.val.size ≤ n → (∀ m, m ∈ l → m.val.size ≤ n) → (foldOn x e l).val.size ≤ n
  | [], e, he, _ => he
  | m :: l, e, he, h => by
    rw [fold_cons]
    refine fold_size hn ?_ fun y hy => h y (List.mem_cons_of_mem _ hy)
    have h1 := Nat.le_trans (on_size m x) (h m (List.mem_cons_self ..))
    unfold Eff.thenR
    split
    · exact he
    · split
      · exact h1
      · exact Nat.le_trans (tail16_size _) hn
def onInv (l : List Msg) (x : ByteArray) (k : Nat) (σ : St) : Prop :=
  ∃ j : Nat, j ≤ l.length ∧ k = l.length - j ∧ σ.T 0 = .sl (l.map Msg.a) ∧ σ.T 1 = .str x ∧ σ.T 4 = .ptr 4 0 0 ∧ σ.H 4 = some ⟨2, 63, [.agg [.int .i64 0, .str ⟨#[]⟩]], 0⟩ ∧ σ.T 5 = .ptr 5 0 0 ∧ σ.H 5 = some ⟨2, 63, [(foldOn x Eff.none (l.take j)).a], 0⟩ ∧ σ.T 6 = .int .i64 j
theorem ref18On (l : List Msg) (x : ByteArray) (hl : KOk l) (hx : x.size ≤ 1000000) : AFn Try.prog 38 [.sl (l.map Msg.a), .str x] (foldOn x Eff.none l).a := by
  refine fn_r18On rfl ?_
  simp (maxSteps := 4000000) only [go_sem, ↓reduceIte, reduceCtorEq, Nat.reduceEqDiff, Nat.reduceBEq, Nat.reduceAdd, Nat.reduceSub, Nat.reduceMul, Nat.reduceLT, Nat.reduceLeDiff, Nat.reduceBNe, Int.reduceBEq, Int.reduceBNe, Int.reduceLT, Int.reduceLE, Spn.a, Msg.a, Eff.a]
  refine run_loop (onInv l x) (k := l.length) ⟨0, by omega, rfl, ?_, ?_, ?_, ?_, ?_, ?_, ?_⟩ ?_
  · simp (maxSteps := 4000000) only [go_sem, ↓reduceIte, reduceCtorEq, Nat.reduceEqDiff, Nat.reduceBEq, Nat.reduceAdd, Nat.reduceSub, Nat.reduceMul, Nat.reduceLT, Nat.reduceLeDiff, Nat.reduceBNe, Int.reduceBEq, Int.reduceBNe, Int.reduceLT, Int.reduceLE, Spn.a, Msg.a, Eff.a]
  · simp (maxSteps := 4000000) only [go_sem, ↓reduceIte, reduceCtorEq, Nat.reduceEqDiff, Nat.reduceBEq, Nat.reduceAdd, Nat.reduceSub, Nat.reduceMul, Nat.reduceLT, Nat.reduceLeDiff, Nat.reduceBNe, Int.reduceBEq, Int.reduceBNe, Int.reduceLT, Int.reduceLE, Spn.a, Msg.a, Eff.a]
  · simp (maxSteps := 4000000) only [go_sem, ↓reduceIte, reduceCtorEq, Nat.reduceEqDiff, Nat.reduceBEq, Nat.reduceAdd, Nat.reduceSub, Nat.reduceMul, Nat.reduceLT, Nat.reduceLeDiff, Nat.reduceBNe, Int.reduceBEq, Int.reduceBNe, Int.reduceLT, Int.reduceLE, Spn.a, Msg.a, Eff.a]
  · simp (maxSteps := 4000000) only [go_sem, ↓reduceIte, reduceCtorEq, Nat.reduceEqDiff, Nat.reduceBEq, Nat.reduceAdd, Nat.reduceSub, Nat.reduceMul, Nat.reduceLT, Nat.reduceLeDiff, Nat.reduceBNe, Int.reduceBEq, Int.reduceBNe, Int.reduceLT, Int.reduceLE, Spn.a, Msg.a, Eff.a]
  · simp (maxSteps := 4000000) only [go_sem, ↓reduceIte, reduceCtorEq, Nat.reduceEqDiff, Nat.reduceBEq, Nat.reduceAdd, Nat.reduceSub, Nat.reduceMul, Nat.reduceLT, Nat.reduceLeDiff, Nat.reduceBNe, Int.reduceBEq, Int.reduceBNe, Int.reduceLT, Int.reduceLE, Spn.a, Msg.a, Eff.a]
  · simp (maxSteps := 4000000) only [go_sem, ↓reduceIte, reduceCtorEq, Nat.reduceEqDiff, Nat.reduceBEq, Nat.reduceAdd, Nat.reduceSub, Nat.reduceMul, Nat.reduceLT, Nat.reduceLeDiff, Nat.reduceBNe, Int.reduceBEq, Int.reduceBNe, Int.reduceLT, Int.reduceLE, Spn.a, Msg.a, Eff.a]
    rfl
  · simp (maxSteps := 4000000) only [go_sem, ↓reduceIte, reduceCtorEq, Nat.reduceEqDiff, Nat.reduceBEq, Nat.reduceAdd, Nat.reduceSub, Nat.reduceMul, Nat.reduceLT, Nat.reduceLeDiff, Nat.reduceBNe, Int.reduceBEq, Int.reduceBNe, Int.reduceLT, Int.reduceLE, Spn.a, Msg.a, Eff.a]
    rfl
  rintro k σ ⟨j, hj, rfl, t0, t1, t4, o4, t5, o5, t6⟩
  simp only [r_r18On_l6]
  by_cases hlt : j < l.length
  · have hlt' : (j : Int) < (l.length : Int) := by omega
    obtain ⟨y, hy⟩ := getM hlt
    have hm := hl.2 y (List.mem_of_getElem? hy)
    have hw := wS (j := j) (by have := hl.1; omega)
    have hz : (foldOn x Eff.none (l.take j)).val.size ≤ 1000000 := fold_size (by omega) (Nat.zero_le _) fun m hm => (hl.2 m (List.mem_of_mem_take hm)).2.2
    have hz2 := on_size y x
    have hf : (foldOn x Eff.none (l.take j)).thenR (y.on x) = foldOn x Eff.none (l.take (j + 1)) := by rw [take_one hy, fold_app, fold_cons]; rfl
    simp (maxSteps := 4000000) only [go_sem, ↓reduceIte, reduceCtorEq, Nat.reduceEqDiff, Nat.reduceBEq, Nat.reduceAdd, Nat.reduceSub, Nat.reduceMul, Nat.reduceLT, Nat.reduceLeDiff, Nat.reduceBNe, Int.reduceBEq, Int.reduceBNe, Int.reduceLT, Int.reduceLE, Spn.a, Msg.a, Eff.a, t0, t1, t4, o4, t5, o5, t6, hlt', gM hy, List.length_map, Int.toNat_natCast]
    refine ⟨by omega, ?_⟩
    (first | refine calling (refOn y x (by omega) (by omega) (by omega)) ?_ | refine callingH (refOn y x (by omega) (by omega) (by omega)) ?_)
    simp (maxSteps := 4000000) only [go_sem, ↓reduceIte, reduceCtorEq, Nat.reduceEqDiff, Nat.reduceBEq, Nat.reduceAdd, Nat.reduceSub, Nat.reduceMul, Nat.reduceLT, Nat.reduceLeDiff, Nat.reduceBNe, Int.reduceBEq, Int.reduceBNe, Int.reduceLT, Int.reduceLE, Spn.a, Msg.a, Eff.a, t0, t1, t4, o4, t5, o5, t6, hw]
    (first | refine calling (refThen (foldOn x Eff.none (l.take j)) (y.on x) (by omega)) ?_ | refine callingH (refThen (foldOn x Eff.none (l.take j)) (y.on x) (by omega)) ?_)
    rw [hf]
    simp (maxSteps := 4000000) only [go_sem, ↓reduceIte, reduceCtorEq, Nat.reduceEqDiff, Nat.reduceBEq, Nat.reduceAdd, Nat.reduceSub, Nat.reduceMul, Nat.reduceLT, Nat.reduceLeDiff, Nat.reduceBNe, Int.reduceBEq, Int.reduceBNe, Int.reduceLT, Int.reduceLE, Spn.a, Msg.a, Eff.a, t0, t1, t4, o4, t5, o5, t6, hw]
    refine ⟨l.length - (j + 1), by omega, j + 1, by omega, rfl, ?_, ?_, ?_, ?_, ?_, ?_, ?_⟩ <;>
      (simp (maxSteps := 4000000) only [go_sem, ↓reduceIte, reduceCtorEq, Nat.reduceEqDiff, Nat.reduceBEq, Nat.reduceAdd, Nat.reduceSub, Nat.reduceMul, Nat.reduceLT, Nat.reduceLeDiff, Nat.reduceBNe, Int.reduceBEq, Int.reduceBNe, Int.reduceLT, Int.reduceLE, Spn.a, Msg.a, Eff.a, t0, t1, t4, o4, t5, o5, t6, hw])
  · have hlt' : ¬ (j : Int) < (l.length : Int) := by omega
    simp (maxSteps := 4000000) only [go_sem, ↓reduceIte, reduceCtorEq, Nat.reduceEqDiff, Nat.reduceBEq, Nat.reduceAdd, Nat.reduceSub, Nat.reduceMul, Nat.reduceLT, Nat.reduceLeDiff, Nat.reduceBNe, Int.reduceBEq, Int.reduceBNe, Int.reduceLT, Int.reduceLE, Spn.a, Msg.a, Eff.a, t0, t1, t4, o4, t5, o5, t6, hlt', List.length_map]
    rw [List.take_of_length_le (by omega)]
    exact ⟨rfl, rfl⟩

theorem msg_ne (a b : Msg) : (a.stamp == b.stamp && (a.kind == b.kind && (a.key.toList == b.key.toList && (a.hi.toList == b.hi.toList && (a.op == b.op && (a.val.toList == b.val.toList && true)))))) = decide (a = b) := by
  rw [beq_bytes, beq_bytes, beq_bytes, Bool.eq_iff_iff]
  simp only [Bool.and_eq_true, decide_eq_true_eq, beq_iff_eq, and_true]
  refine ⟨fun h => ?_, fun h => by rw [h]; exact ⟨rfl, rfl, rfl, rfl, rfl, rfl⟩⟩
  cases a; cases b; simp_all
def sameInv (a b : List Msg) (k : Nat) (σ : St) : Prop :=
  ∃ j : Nat, j ≤ a.length ∧ k = a.length - j ∧ σ.T 0 = .sl (a.map Msg.a) ∧ σ.T 1 = .sl (b.map Msg.a) ∧ σ.T 5 = .int .i64 j
/-- a list is itself -/
theorem refSame_self (a : List Msg) (hl : KOk a) : AFn Try.prog 33 [.sl (a.map Msg.a), .sl (a.map Msg.a)] (.bool true) := by
  refine fn_rSame rfl ?_
  simp (maxSteps := 4000000) only [go_sem, ↓reduceIte, reduceCtorEq, Nat.reduceEqDiff, Nat.reduceBEq, Nat.reduceAdd, Nat.reduceSub, Nat.reduceMul, Nat.reduceLT, Nat.reduceLeDiff, Nat.reduceBNe, Int.reduceBEq, Int.reduceBNe, Int.reduceLT, Int.reduceLE, Spn.a, Msg.a, Eff.a, bne_self_eq_false]
  refine run_loop (sameInv a a) (k := a.length) ⟨0, by omega, rfl, ?_, ?_, ?_⟩ ?_
  · simp (maxSteps := 4000000) only [go_sem, ↓reduceIte, reduceCtorEq, Nat.reduceEqDiff, Nat.reduceBEq, Nat.reduceAdd, Nat.reduceSub, Nat.reduceMul, Nat.reduceLT, Nat.reduceLeDiff, Nat.reduceBNe, Int.reduceBEq, Int.reduceBNe, Int.reduceLT, Int.reduceLE, Spn.a, Msg.a, Eff.a]
  · simp (maxSteps := 4000000) only [go_sem, ↓reduceIte, reduceCtorEq, Nat.reduceEqDiff, Nat.reduceBEq, Nat.reduceAdd, Nat.reduceSub, Nat.reduceMul, Nat.reduceLT, Nat.reduceLeDiff, Nat.reduceBNe, Int.reduceBEq, Int.reduceBNe, Int.reduceLT, Int.reduceLE, Spn.a, Msg.a, Eff.a]
  · simp (maxSteps := 4000000) only [go_sem, ↓reduceIte, reduceCtorEq, Nat.reduceEqDiff, Nat.reduceBEq, Nat.reduceAdd, Nat.reduceSub, Nat.reduceMul, Nat.reduceLT, Nat.reduceLeDiff, Nat.reduceBNe, Int.reduceBEq, Int.reduceBNe, Int.reduceLT, Int.reduceLE, Spn.a, Msg.a, Eff.a]
    rfl
  rintro k σ ⟨j, hj, rfl, t0, t1, t5⟩
  simp only [r_rSame_l8]
  by_cases hlt : j < a.length
  · have hlt' : (j : Int) < (a.length : Int) := by omega
    obtain ⟨x, hx⟩ := getM hlt
    have hw := wS (j := j) (by have := hl.1; omega)
    simp (maxSteps := 4000000) only [go_sem, ↓reduceIte, reduceCtorEq, Nat.reduceEqDiff, Nat.reduceBEq, Nat.reduceAdd, Nat.reduceSub, Nat.reduceMul, Nat.reduceLT, Nat.reduceLeDiff, Nat.reduceBNe, Int.reduceBEq, Int.reduceBNe, Int.reduceLT, Int.reduceLE, Spn.a, Msg.a, Eff.a, t0, t1, t5, hlt', gM hx, List.length_map, Int.toNat_natCast, hw]
    refine ⟨by omega, by omega, a.length - (j + 1), by omega, j + 1, by omega, rfl, ?_, ?_, ?_⟩ <;>
      (simp (maxSteps := 4000000) only [go_sem, ↓reduceIte, reduceCtorEq, Nat.reduceEqDiff, Nat.reduceBEq, Nat.reduceAdd, Nat.reduceSub, Nat.reduceMul, Nat.reduceLT, Nat.reduceLeDiff, Nat.reduceBNe, Int.reduceBEq, Int.reduceBNe, Int.reduceLT, Int.reduceLE, Spn.a, Msg.a, Eff.a, t0, t1, t5])
  · have hlt' : ¬ (j : Int) < (a.length : Int) := by omega
    simp (maxSteps := 4000000) only [go_sem, ↓reduceIte, reduceCtorEq, Nat.reduceEqDiff, Nat.reduceBEq, Nat.reduceAdd, Nat.reduceSub, Nat.reduceMul, Nat.reduceLT, Nat.reduceLeDiff, Nat.reduceBNe, Int.reduceBEq, Int.reduceBNe, Int.reduceLT, Int.reduceLE, Spn.a, Msg.a, Eff.a, t0, t1, t5, hlt', List.length_map]
end Go.Proofs.Ytdjkefndigijjaa
