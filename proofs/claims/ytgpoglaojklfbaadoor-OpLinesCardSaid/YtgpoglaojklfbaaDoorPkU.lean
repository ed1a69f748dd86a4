/-
  Layer 7: the document's line, and the law OpLines.
-/
import Derived.Test.YtgpoglaojklfbaaDoorPkT
import Derived.Test.YtgpoglaojklfbaaDoorPkN
import Derived.SizedLaws
namespace Go.Proofs.YtgpoglaojklfbaaDoor
open Go.RowKit
set_option linter.unusedVariables false
set_option linter.unusedSimpArgs false
set_option maxRecDepth 100000
attribute [local go_sem ↓] runOp headOp
attribute [local go_sem] ev0 ev1 ev2 ev3 ev4 evA stHOk.eq_1 stHOk.eq_2 stHSt.eq_1 stHSt.eq_2 okV valV fzV okF valF okBld valBld mxOk.eq_1 mxOk.eq_2 mxVal.eq_1 mxVal.eq_2 cellFit.eq_1 cellFit.eq_2 cellFit.eq_3 cellEq.eq_1 cellEq.eq_2 cellEq.eq_3 upd_at AV.flatB AV.flatBs binIok binIV binSok binSV cellsOk.eq_1 cellsOk.eq_2 cellsVal.eq_1 cellsVal.eq_2 objCells.eq_1 objCells.eq_2 objZ.eq_1 objZ.eq_2 objProt.eq_1 objProt.eq_2 oneObj ptrOk.eq_1 ptrOk.eq_2 ptrOk.eq_3 ptrCells.eq_1 ptrCells.eq_2 ptrCells.eq_3 lenOk.eq_1 lenOk.eq_2 lenOk.eq_3 lenOk.eq_4 lenVal.eq_1 lenVal.eq_2 lenVal.eq_3 lenVal.eq_4 faOk.eq_1 faOk.eq_2 faOk.eq_3 faVal.eq_1 faVal.eq_2 faVal.eq_3 iaOk.eq_1 iaOk.eq_2 iaOk.eq_3 iaVal.eq_1 iaVal.eq_2 iaVal.eq_3 slcLen.eq_1 slcLen.eq_2 slcLen.eq_3 slcLen.eq_4 bdOk.eq_1 bdOk.eq_2 bdVal.eq_1 bdVal.eq_2 slcOk.eq_1 slcOk.eq_2 slcOk.eq_3 slcOk.eq_4 slcVal.eq_1 slcVal.eq_2 slcVal.eq_3 slcVal.eq_4 slcFz.eq_1 slcFz.eq_2 byOk.eq_1 byOk.eq_2 byOk.eq_3 byOk.eq_4 byOk.eq_5 byOk.eq_6 byVal.eq_1 byVal.eq_2 byVal.eq_3 byFz.eq_1 byFz.eq_2 byFz.eq_3 byOks byVals byFzs allOne resSt.eq_1 resSt.eq_2 resName.eq_1 resName.eq_2 stOk.eq_1 stOk.eq_2 stArr.eq_1 stArr.eq_2 stSt.eq_1 stSt.eq_2 AV.patch nameOk_none gB.eq_1 gB.eq_2 gB.eq_3 gIs.eq_1 gIs.eq_2 gIs.eq_3 retV resV resVs evalV cellsV St.byval List.getD_cons_zero List.getD_cons_succ List.getD_nil List.map_cons List.map_nil List.length_cons List.length_nil List.take_succ_cons List.take_zero List.drop_succ_cons List.drop_zero List.headD_cons List.set_cons_zero List.append_nil List.nil_append List.cons_append List.contains_cons List.contains_nil List.elem_cons List.elem_nil List.all_cons List.all_nil List.getElem?_cons_zero List.getElem?_cons_succ List.filterMap_cons List.filterMap_nil Option.isSome_some Option.isSome_none Option.map_some Option.map_none Option.some.injEq AV.int.injEq AV.bool.injEq AV.str.injEq AV.tup.injEq AV.agg.injEq AV.sl.injEq List.cons.injEq Bool.false_eq_true Bool.true_eq_false Bool.not_true Bool.not_false Bool.and_true Bool.true_and Bool.or_false Bool.or_true Bool.false_or Bool.true_or Bool.or_self Bool.and_self Bool.not_eq_true' Bool.not_eq_false' Bool.not_not beq_self_eq_true true_and and_true false_and and_false and_self not_true_eq_false not_false_eq_true forall_const true_implies false_implies implies_true imp_self Nat.lt_add_one Nat.le_refl Nat.zero_le Nat.add_zero Nat.zero_add decide_true decide_false decide_eq_true_eq decide_eq_false_iff_not exists_eq_left exists_eq_left' ge_iff_le gt_iff_lt ite_branch ite_branch' nilOk.eq_1 nilOk.eq_2 nilMay.eq_1 nilMay.eq_2 AV.isSl.eq_1 objTy'.eq_1 objTy'.eq_2 apSt.eq_1 apArr.eq_1 apArr.eq_2 slOf.eq_1 fitsV List.mem_cons List.not_mem_nil Bool.false_and Bool.and_false primOk.eq_1 primOk.eq_2 primOk.eq_3 primOk.eq_4 primOk.eq_5 primVal.eq_1 primVal.eq_2 primVal.eq_3 primVal.eq_4 primVal.eq_5 mOk.eq_1 mOk.eq_2 mVal.eq_1 mVal.eq_2 mFz.eq_1 mFz.eq_2 mOks mVals mFzs mCalOk.eq_1 mCalOk.eq_2 mFn.eq_1 mFn.eq_2 mArgs.eq_1 mArgs.eq_2 ckOk.eq_1 ckOk.eq_2 cloOk.eq_1 ptrAt.eq_1 sh.eq_1 sh.eq_2 sh.eq_3 sh.eq_4 retM shH_small
theorem joinB2 (a b s : ByteArray) : joinB [a, b] s = a ++ s ++ b := by
  apply ba_ext
  show Lib.join _ _ = _
  rw [List.map_cons, Lib.join_cons]; simp [Lib.joinTail]
theorem joinB3 (a b c s : ByteArray) : joinB [a, b, c] s = a ++ s ++ b ++ (s ++ c) := by
  apply ba_ext
  show Lib.join _ _ = _
  rw [List.map_cons, Lib.join_cons]; simp [Lib.joinTail]
theorem joinB4 (a b c d s : ByteArray) : joinB [a, b, c, d] s = a ++ s ++ b ++ (s ++ c) ++ (s ++ d) := by
  apply ba_ext
  show Lib.join _ _ = _
  rw [List.map_cons, Lib.join_cons]; simp [Lib.joinTail]
/-! ### percolate/percolateref07.Line -/
def r_rLine_0 : Reg := ⟨[], [⟨(.box 6 34 (.t 0)), (some 1), none, [], []⟩, ⟨(.mv (.c (.str ⟨#[]⟩))), (some 2), none, [], []⟩], [1], [], false⟩
def r_rLine_1 : Reg := ⟨[], [⟨(.load 6 true (.t 1)), (some 4), none, [5], []⟩, ⟨(.callv (.c (.clo 24 [] [])) [(.t 4)]), (some 5), none, [], []⟩, ⟨(.un .not (.t 5)), (some 6), none, [], []⟩], [5], [], false⟩
def r_rLine_2 : Reg := ⟨[], [⟨(.mv (.c (.str ⟨#[98, 97, 100]⟩))), (some 2), none, [], []⟩], [], [], false⟩
def r_rLine_3 : Reg := ⟨[⟨(.bsl 1 9 [(.c (.str ⟨#[112, 117, 116]⟩)), (.c (.str ⟨#[97, 100, 100]⟩)), (.c (.str ⟨#[100, 101, 108]⟩)), (.c (.str ⟨#[119, 105, 112, 101]⟩)), (.c (.str ⟨#[103, 101, 116]⟩)), (.c (.str ⟨#[115, 99, 97, 110]⟩))]), (some 7), none, [16], []⟩, ⟨(.faddr 0 (.t 1)), (some 8), none, [7, 16], []⟩, ⟨(.load 1 false (.t 8)), (some 9), none, [7, 16], []⟩, ⟨(.bin .sub (.t 9) (.c (.int .i64 1))), (some 10), none, [7, 16], []⟩, ⟨(.iaddr 1 (.t 7) (.t 10)), (some 11), none, [16], []⟩, ⟨(.load 1 false (.t 11)), (some 12), none, [16], []⟩, ⟨(.bin .add (.t 12) (.c (.str ⟨#[32]⟩))), (some 13), none, [16], []⟩, ⟨(.faddr 1 (.t 1)), (some 14), none, [7, 16], []⟩, ⟨(.load 1 false (.t 14)), (some 15), none, [7, 16], []⟩, ⟨(.callv (.c (.clo 14 [] [])) [(.t 15)]), (some 16), none, [7], []⟩], [⟨(.bin .add (.t 13) (.t 16)), (some 17), none, [], []⟩, ⟨(.mv (.t 17)), (some 3), none, [], []⟩], [7, 16], [], true⟩
def r_rLine_4 : Reg := ⟨[], [⟨(.faddr 0 (.t 1)), (some 18), none, [], []⟩, ⟨(.load 1 false (.t 18)), (some 19), none, [], []⟩, ⟨(.bin .leq (.t 19) (.c (.int .i64 2))), (some 20), none, [], []⟩], [], [], false⟩
def r_rLine_5 : Reg := ⟨[], [⟨(.mv (.t 3)), (some 21), none, [24], []⟩, ⟨(.faddr 4 (.t 1)), (some 22), none, [24], []⟩, ⟨(.load 1 false (.t 22)), (some 23), none, [24], []⟩, ⟨(.callv (.c (.clo 14 [] [])) [(.t 23)]), (some 24), none, [], []⟩, ⟨(.bin .add (.c (.str ⟨#[32]⟩)) (.t 24)), (some 25), none, [], []⟩, ⟨(.bin .add (.t 21) (.t 25)), (some 26), none, [], []⟩, ⟨(.mv (.t 26)), (some 3), none, [], []⟩], [24], [], false⟩
def r_rLine_6 : Reg := ⟨[], [⟨(.faddr 0 (.t 1)), (some 27), none, [], []⟩, ⟨(.load 1 false (.t 27)), (some 28), none, [], []⟩, ⟨(.bin .eql (.t 28) (.c (.int .i64 4))), (some 29), none, [], []⟩, ⟨(.mv (.t 29)), (some 30), none, [], []⟩, ⟨(.faddr 0 (.t 1)), (some 31), (some (30, false)), [], []⟩, ⟨(.load 1 false (.t 31)), (some 32), (some (30, false)), [], []⟩, ⟨(.bin .eql (.t 32) (.c (.int .i64 6))), (some 33), (some (30, false)), [], []⟩, ⟨(.pick (.t 30) (.c (.bool true)) (.t 33)), (some 34), none, [], []⟩], [], [], false⟩
def r_rLine_7 : Reg := ⟨[], [⟨(.faddr 3 (.t 1)), (some 35), none, [], []⟩, ⟨(.load 1 false (.t 35)), (some 36), none, [], []⟩], [], [], false⟩
def r_rLine_8 : Reg := ⟨[], [⟨(.mv (.t 3)), (some 37), none, [], []⟩, ⟨(.bin .add (.t 37) (.c (.str ⟨#[32, 42]⟩))), (some 38), none, [], []⟩, ⟨(.mv (.t 38)), (some 3), none, [], []⟩], [], [], false⟩
def r_rLine_9 : Reg := ⟨[], [⟨(.mv (.t 3)), (some 39), none, [42], []⟩, ⟨(.faddr 2 (.t 1)), (some 40), none, [42], []⟩, ⟨(.load 1 false (.t 40)), (some 41), none, [42], []⟩, ⟨(.callv (.c (.clo 14 [] [])) [(.t 41)]), (some 42), none, [], []⟩, ⟨(.bin .add (.c (.str ⟨#[32]⟩)) (.t 42)), (some 43), none, [], []⟩, ⟨(.bin .add (.t 39) (.t 43)), (some 44), none, [], []⟩, ⟨(.mv (.t 44)), (some 3), none, [], []⟩], [42], [], false⟩
def r_rLine_10 : Reg := ⟨[], [⟨(.faddr 0 (.t 1)), (some 45), none, [], []⟩, ⟨(.load 1 false (.t 45)), (some 46), none, [], []⟩, ⟨(.bin .eql (.t 46) (.c (.int .i64 6))), (some 47), none, [], []⟩], [], [], false⟩
def r_rLine_11 : Reg := ⟨[], [⟨(.mv (.t 3)), (some 48), none, [51], []⟩, ⟨(.faddr 5 (.t 1)), (some 49), none, [51], []⟩, ⟨(.load 1 false (.t 49)), (some 50), none, [51], []⟩, ⟨(.callv (.c (.clo 30 [] [])) [(.t 50)]), (some 51), none, [], []⟩, ⟨(.bin .add (.c (.str ⟨#[32]⟩)) (.t 51)), (some 52), none, [], []⟩, ⟨(.bin .add (.t 48) (.t 52)), (some 53), none, [], []⟩, ⟨(.mv (.t 53)), (some 3), none, [], []⟩], [51], [], false⟩
def r_rLine_12 : Reg := ⟨[], [⟨(.mv (.t 3)), (some 54), none, [], []⟩, ⟨(.mv (.t 54)), (some 2), none, [], []⟩], [], [], false⟩
def ir_rLine : IR := (.seq (.reg r_rLine_0)
  (.seq (.seq (.reg r_rLine_1)
  (.cond (.t 6) (.seq (.reg r_rLine_2)
  .ret)
  .skip))
  (.seq (.reg r_rLine_3)
  (.seq (.seq (.reg r_rLine_4)
  (.cond (.t 20) (.reg r_rLine_5)
  .skip))
  (.seq (.seq (.reg r_rLine_6)
  (.cond (.t 34) (.seq (.reg r_rLine_7)
  (.cond (.t 36) (.reg r_rLine_8)
  (.reg r_rLine_9)))
  .skip))
  (.seq (.seq (.reg r_rLine_10)
  (.cond (.t 47) (.reg r_rLine_11)
  .skip))
  (.seq (.reg r_rLine_12)
  .ret)))))))
def res_rLine : List RDesc := [(.tmp 2)]
theorem e_rLine_0 (C : FuncId → List AV → AV → Prop) (σ : St) (K : St → Prop) : runReg C r_rLine_0 σ K = runOps C [⟨(.box 6 34 (.t 0)), (some 1), none, [], []⟩, ⟨(.mv (.c (.str ⟨#[]⟩))), (some 2), none, [], []⟩] (σ.kills [1]) K := rfl
theorem e_rLine_1 (C : FuncId → List AV → AV → Prop) (σ : St) (K : St → Prop) : runReg C r_rLine_1 σ K = runOps C [⟨(.load 6 true (.t 1)), (some 4), none, [5], []⟩, ⟨(.callv (.c (.clo 24 [] [])) [(.t 4)]), (some 5), none, [], []⟩, ⟨(.un .not (.t 5)), (some 6), none, [], []⟩] (σ.kills [5]) K := rfl
theorem e_rLine_2 (C : FuncId → List AV → AV → Prop) (σ : St) (K : St → Prop) : runReg C r_rLine_2 σ K = runOps C [⟨(.mv (.c (.str ⟨#[98, 97, 100]⟩))), (some 2), none, [], []⟩] (σ.kills []) K := rfl
theorem e_rLine_3 (C : FuncId → List AV → AV → Prop) (σ : St) (K : St → Prop) : runReg C r_rLine_3 σ K = runHead C [] [⟨(.bin .add (.t 13) (.t 16)), (some 17), none, [], []⟩, ⟨(.mv (.t 17)), (some 3), none, [], []⟩] [⟨(.bsl 1 9 [(.c (.str ⟨#[112, 117, 116]⟩)), (.c (.str ⟨#[97, 100, 100]⟩)), (.c (.str ⟨#[100, 101, 108]⟩)), (.c (.str ⟨#[119, 105, 112, 101]⟩)), (.c (.str ⟨#[103, 101, 116]⟩)), (.c (.str ⟨#[115, 99, 97, 110]⟩))]), (some 7), none, [16], []⟩, ⟨(.faddr 0 (.t 1)), (some 8), none, [7, 16], []⟩, ⟨(.load 1 false (.t 8)), (some 9), none, [7, 16], []⟩, ⟨(.bin .sub (.t 9) (.c (.int .i64 1))), (some 10), none, [7, 16], []⟩, ⟨(.iaddr 1 (.t 7) (.t 10)), (some 11), none, [16], []⟩, ⟨(.load 1 false (.t 11)), (some 12), none, [16], []⟩, ⟨(.bin .add (.t 12) (.c (.str ⟨#[32]⟩))), (some 13), none, [16], []⟩, ⟨(.faddr 1 (.t 1)), (some 14), none, [7, 16], []⟩, ⟨(.load 1 false (.t 14)), (some 15), none, [7, 16], []⟩, ⟨(.callv (.c (.clo 14 [] [])) [(.t 15)]), (some 16), none, [7], []⟩] (σ.kills [7, 16]) K := rfl
theorem e_rLine_4 (C : FuncId → List AV → AV → Prop) (σ : St) (K : St → Prop) : runReg C r_rLine_4 σ K = runOps C [⟨(.faddr 0 (.t 1)), (some 18), none, [], []⟩, ⟨(.load 1 false (.t 18)), (some 19), none, [], []⟩, ⟨(.bin .leq (.t 19) (.c (.int .i64 2))), (some 20), none, [], []⟩] (σ.kills []) K := rfl
theorem e_rLine_5 (C : FuncId → List AV → AV → Prop) (σ : St) (K : St → Prop) : runReg C r_rLine_5 σ K = runOps C [⟨(.mv (.t 3)), (some 21), none, [24], []⟩, ⟨(.faddr 4 (.t 1)), (some 22), none, [24], []⟩, ⟨(.load 1 false (.t 22)), (some 23), none, [24], []⟩, ⟨(.callv (.c (.clo 14 [] [])) [(.t 23)]), (some 24), none, [], []⟩, ⟨(.bin .add (.c (.str ⟨#[32]⟩)) (.t 24)), (some 25), none, [], []⟩, ⟨(.bin .add (.t 21) (.t 25)), (some 26), none, [], []⟩, ⟨(.mv (.t 26)), (some 3), none, [], []⟩] (σ.kills [24]) K := rfl
theorem e_rLine_6 (C : FuncId → List AV → AV → Prop) (σ : St) (K : St → Prop) : runReg C r_rLine_6 σ K = runOps C [⟨(.faddr 0 (.t 1)), (some 27), none, [], []⟩, ⟨(.load 1 false (.t 27)), (some 28), none, [], []⟩, ⟨(.bin .eql (.t 28) (.c (.int .i64 4))), (some 29), none, [], []⟩, ⟨(.mv (.t 29)), (some 30), none, [], []⟩, ⟨(.faddr 0 (.t 1)), (some 31), (some (30, false)), [], []⟩, ⟨(.load 1 false (.t 31)), (some 32), (some (30, false)), [], []⟩, ⟨(.bin .eql (.t 32) (.c (.int .i64 6))), (some 33), (some (30, false)), [], []⟩, ⟨(.pick (.t 30) (.c (.bool true)) (.t 33)), (some 34), none, [], []⟩] (σ.kills []) K := rfl
theorem e_rLine_7 (C : FuncId → List AV → AV → Prop) (σ : St) (K : St → Prop) : runReg C r_rLine_7 σ K = runOps C [⟨(.faddr 3 (.t 1)), (some 35), none, [], []⟩, ⟨(.load 1 false (.t 35)), (some 36), none, [], []⟩] (σ.kills []) K := rfl
theorem e_rLine_8 (C : FuncId → List AV → AV → Prop) (σ : St) (K : St → Prop) : runReg C r_rLine_8 σ K = runOps C [⟨(.mv (.t 3)), (some 37), none, [], []⟩, ⟨(.bin .add (.t 37) (.c (.str ⟨#[32, 42]⟩))), (some 38), none, [], []⟩, ⟨(.mv (.t 38)), (some 3), none, [], []⟩] (σ.kills []) K := rfl
theorem e_rLine_9 (C : FuncId → List AV → AV → Prop) (σ : St) (K : St → Prop) : runReg C r_rLine_9 σ K = runOps C [⟨(.mv (.t 3)), (some 39), none, [42], []⟩, ⟨(.faddr 2 (.t 1)), (some 40), none, [42], []⟩, ⟨(.load 1 false (.t 40)), (some 41), none, [42], []⟩, ⟨(.callv (.c (.clo 14 [] [])) [(.t 41)]), (some 42), none, [], []⟩, ⟨(.bin .add (.c (.str ⟨#[32]⟩)) (.t 42)), (some 43), none, [], []⟩, ⟨(.bin .add (.t 39) (.t 43)), (some 44), none, [], []⟩, ⟨(.mv (.t 44)), (some 3), none, [], []⟩] (σ.kills [42]) K := rfl
theorem e_rLine_10 (C : FuncId → List AV → AV → Prop) (σ : St) (K : St → Prop) : runReg C r_rLine_10 σ K = runOps C [⟨(.faddr 0 (.t 1)), (some 45), none, [], []⟩, ⟨(.load 1 false (.t 45)), (some 46), none, [], []⟩, ⟨(.bin .eql (.t 46) (.c (.int .i64 6))), (some 47), none, [], []⟩] (σ.kills []) K := rfl
theorem e_rLine_11 (C : FuncId → List AV → AV → Prop) (σ : St) (K : St → Prop) : runReg C r_rLine_11 σ K = runOps C [⟨(.mv (.t 3)), (some 48), none, [51], []⟩, ⟨(.faddr 5 (.t 1)), (some 49), none, [51], []⟩, ⟨(.load 1 false (.t 49)), (some 50), none, [51], []⟩, ⟨(.callv (.c (.clo 30 [] [])) [(.t 50)]), (some 51), none, [], []⟩, ⟨(.bin .add (.c (.str ⟨#[32]⟩)) (.t 51)), (some 52), none, [], []⟩, ⟨(.bin .add (.t 48) (.t 52)), (some 53), none, [], []⟩, ⟨(.mv (.t 53)), (some 3), none, [], []⟩] (σ.kills [51]) K := rfl
theorem e_rLine_12 (C : FuncId → List AV → AV → Prop) (σ : St) (K : St → Prop) : runReg C r_rLine_12 σ K = runOps C [⟨(.mv (.t 3)), (some 54), none, [], []⟩, ⟨(.mv (.t 54)), (some 2), none, [], []⟩] (σ.kills []) K := rfl
theorem fn_rLine {args : List AV} {r : AV} (ha : args.length.ble Tryd.f33.ntmps = true) (h : run (AFn Tryd.prog) ir_rLine (endQ res_rLine r) (initSt args)) : AFn Tryd.prog 33 args r :=
  AFn.of_code (hint := fun _ => []) (c := Tryd.f33.body.getD .skip) (by kernel_rfl) (by kernel_rfl) Tryd.func33 (by kernel_rfl) (by kernel_rfl) (by kernel_rfl) (of_decide_eq_true (by kernel_rfl)) (Nat.le_of_ble_eq_true ha) (Nat.le_of_ble_eq_true (by kernel_rfl)) (run_ok h)

attribute [local go_sem ↓] ir_rLine
attribute [local go_sem] res_rLine e_rLine_0 e_rLine_1 e_rLine_2 e_rLine_3 e_rLine_4 e_rLine_5 e_rLine_6 e_rLine_7 e_rLine_8 e_rLine_9 e_rLine_10 e_rLine_11 e_rLine_12

theorem rLine_no (o : Opr) (h : o.key.size ≤ 9000000000) (hh : o.hi.size ≤ 9000000000) (hr : o.right = false) : AFn Tryd.prog 33 [o.a] (.str ⟨#[98, 97, 100]⟩) := by
  refine fn_rLine rfl ?_
  have hR := rRight_ok o h hh
  rw [hr] at hR
  simp (maxSteps := 4000000) only [go_sem, ↓reduceIte, reduceCtorEq, Nat.reduceEqDiff, Nat.reduceBEq, Nat.reduceAdd, Nat.reduceSub, Nat.reduceMul, Nat.reduceLT, Nat.reduceLeDiff, Nat.reduceBNe, Int.reduceBEq, Int.reduceBNe, Int.reduceLT, Int.reduceLE, Opr.a, Spn.a, nul]
  (first | refine calling hR ?_ | refine callingH hR ?_)
  simp (maxSteps := 4000000) only [go_sem, ↓reduceIte, reduceCtorEq, Nat.reduceEqDiff, Nat.reduceBEq, Nat.reduceAdd, Nat.reduceSub, Nat.reduceMul, Nat.reduceLT, Nat.reduceLeDiff, Nat.reduceBNe, Int.reduceBEq, Int.reduceBNe, Int.reduceLT, Int.reduceLE, Opr.a, Spn.a, nul]
set_option maxHeartbeats 4000000 in
theorem rLine_ok (o : Opr) (hr : o.right = true) : AFn Tryd.prog 33 [o.a] (.str (lineO o)) := by
  refine fn_rLine rfl ?_
  have hR := fun h1 h2 => rRight_ok o h1 h2
  rw [hr] at hR
  obtain ⟨hk1, hk6, hkey, hhi, hval, p1, p2, p3, p4⟩ := right_parts hr
  obtain ⟨kind, key, hi, op, val, lim⟩ := o
  simp only at hk1 hk6 hkey hhi hval p1 p2 p3 p4 hR
  have hR := hR (by omega) (by omega)
  have q1 := quoteF_size key
  have q2 := quoteF_size hi
  have q3 := quoteF_size val
  have z3 : ∀ a b c : UInt8, (#[a, b, c] : Array UInt8).size = 3 := fun _ _ _ => rfl
  have z4 : ∀ a b c d : UInt8, (#[a, b, c, d] : Array UInt8).size = 4 := fun _ _ _ _ => rfl
  have z1 : ∀ a : UInt8, (#[a] : Array UInt8).size = 1 := fun _ => rfl
  have z2 : ∀ a b : UInt8, (#[a, b] : Array UInt8).size = 2 := fun _ _ => rfl
  have s32 : (⟨#[32]⟩ : ByteArray) ++ (⟨#[42]⟩ : ByteArray) = ⟨#[32, 42]⟩ := by decide +kernel
  have sd : lim ≤ 64 → 1 ≤ lim → (decS lim).size ≤ 1000 := fun h1 h2 => by
    have := Lib.itoa_length_le lim (by omega) (by omega)
    rw [decS_size]; omega
  have hk : kind = 1 ∨ kind = 2 ∨ kind = 3 ∨ kind = 4 ∨ kind = 5 ∨ kind = 6 := by omega
  rcases hk with rfl | rfl | rfl | rfl | rfl | rfl
  · -- kind 1
    have tw : IntKind.i64.wrap (1 - 1) = 0 := by rfl
    have tn : Int.toNat 0 = 0 := rfl
    have e : lineO ⟨1, key, hi, op, val, lim⟩ = joinB [(⟨#[112, 117, 116]⟩ : ByteArray), quoteF key, quoteF val] ⟨#[32]⟩ := rfl
    rw [e, joinB3]
    (simp (maxSteps := 4000000) only [go_sem, ↓reduceIte, reduceCtorEq, Nat.reduceEqDiff, Nat.reduceBEq, Nat.reduceAdd, Nat.reduceSub, Nat.reduceMul, Nat.reduceLT, Nat.reduceLeDiff, Nat.reduceBNe, Int.reduceBEq, Int.reduceBNe, Int.reduceLT, Int.reduceLE, Opr.a, Spn.a, nul, tw, tn, z1, z2, z3, z4, ByteArray.size_append]; (repeat (first | refine And.intro (by omega) ?_ | refine And.intro (fun d hd => by rcases hd with rfl | hd; exact ⟨rfl, rfl⟩; cases hd) ?_)); repeat ((first | refine calling (hR) ?_ | refine callingH (hR) ?_ | refine calling (rQuote_ok key (by omega)) ?_ | refine callingH (rQuote_ok key (by omega)) ?_ | refine calling (rQuote_ok val (by omega)) ?_ | refine callingH (rQuote_ok val (by omega)) ?_ | refine calling (rQuote_ok hi (by omega)) ?_ | refine callingH (rQuote_ok hi (by omega)) ?_ | refine calling (rDec_ok lim ⟨by omega, by omega⟩) ?_ | refine callingH (rDec_ok lim ⟨by omega, by omega⟩) ?_); try (simp (maxSteps := 4000000) only [go_sem, ↓reduceIte, reduceCtorEq, Nat.reduceEqDiff, Nat.reduceBEq, Nat.reduceAdd, Nat.reduceSub, Nat.reduceMul, Nat.reduceLT, Nat.reduceLeDiff, Nat.reduceBNe, Int.reduceBEq, Int.reduceBNe, Int.reduceLT, Int.reduceLE, Opr.a, Spn.a, nul, tw, tn, z1, z2, z3, z4, ByteArray.size_append]); (repeat (first | refine And.intro (by omega) ?_ | refine And.intro (fun d hd => by rcases hd with rfl | hd; exact ⟨rfl, rfl⟩; cases hd) ?_))))
    all_goals omega
  · -- kind 2
    have tw : IntKind.i64.wrap (2 - 1) = 1 := by rfl
    have tn : Int.toNat 1 = 1 := rfl
    have e : lineO ⟨2, key, hi, op, val, lim⟩ = joinB [(⟨#[97, 100, 100]⟩ : ByteArray), quoteF key, quoteF val] ⟨#[32]⟩ := rfl
    rw [e, joinB3]
    (simp (maxSteps := 4000000) only [go_sem, ↓reduceIte, reduceCtorEq, Nat.reduceEqDiff, Nat.reduceBEq, Nat.reduceAdd, Nat.reduceSub, Nat.reduceMul, Nat.reduceLT, Nat.reduceLeDiff, Nat.reduceBNe, Int.reduceBEq, Int.reduceBNe, Int.reduceLT, Int.reduceLE, Opr.a, Spn.a, nul, tw, tn, z1, z2, z3, z4, ByteArray.size_append]; (repeat (first | refine And.intro (by omega) ?_ | refine And.intro (fun d hd => by rcases hd with rfl | hd; exact ⟨rfl, rfl⟩; cases hd) ?_)); repeat ((first | refine calling (hR) ?_ | refine callingH (hR) ?_ | refine calling (rQuote_ok key (by omega)) ?_ | refine callingH (rQuote_ok key (by omega)) ?_ | refine calling (rQuote_ok val (by omega)) ?_ | refine callingH (rQuote_ok val (by omega)) ?_ | refine calling (rQuote_ok hi (by omega)) ?_ | refine callingH (rQuote_ok hi (by omega)) ?_ | refine calling (rDec_ok lim ⟨by omega, by omega⟩) ?_ | refine callingH (rDec_ok lim ⟨by omega, by omega⟩) ?_); try (simp (maxSteps := 4000000) only [go_sem, ↓reduceIte, reduceCtorEq, Nat.reduceEqDiff, Nat.reduceBEq, Nat.reduceAdd, Nat.reduceSub, Nat.reduceMul, Nat.reduceLT, Nat.reduceLeDiff, Nat.reduceBNe, Int.reduceBEq, Int.reduceBNe, Int.reduceLT, Int.reduceLE, Opr.a, Spn.a, nul, tw, tn, z1, z2, z3, z4, ByteArray.size_append]); (repeat (first | refine And.intro (by omega) ?_ | refine And.intro (fun d hd => by rcases hd with rfl | hd; exact ⟨rfl, rfl⟩; cases hd) ?_))))
    all_goals omega
  · -- kind 3
    have tw : IntKind.i64.wrap (3 - 1) = 2 := by rfl
    have tn : Int.toNat 2 = 2 := rfl
    have e : lineO ⟨3, key, hi, op, val, lim⟩ = joinB [(⟨#[100, 101, 108]⟩ : ByteArray), quoteF key] ⟨#[32]⟩ := rfl
    rw [e, joinB2]
    (simp (maxSteps := 4000000) only [go_sem, ↓reduceIte, reduceCtorEq, Nat.reduceEqDiff, Nat.reduceBEq, Nat.reduceAdd, Nat.reduceSub, Nat.reduceMul, Nat.reduceLT, Nat.reduceLeDiff, Nat.reduceBNe, Int.reduceBEq, Int.reduceBNe, Int.reduceLT, Int.reduceLE, Opr.a, Spn.a, nul, tw, tn, z1, z2, z3, z4, ByteArray.size_append]; (repeat (first | refine And.intro (by omega) ?_ | refine And.intro (fun d hd => by rcases hd with rfl | hd; exact ⟨rfl, rfl⟩; cases hd) ?_)); repeat ((first | refine calling (hR) ?_ | refine callingH (hR) ?_ | refine calling (rQuote_ok key (by omega)) ?_ | refine callingH (rQuote_ok key (by omega)) ?_ | refine calling (rQuote_ok val (by omega)) ?_ | refine callingH (rQuote_ok val (by omega)) ?_ | refine calling (rQuote_ok hi (by omega)) ?_ | refine callingH (rQuote_ok hi (by omega)) ?_ | refine calling (rDec_ok lim ⟨by omega, by omega⟩) ?_ | refine callingH (rDec_ok lim ⟨by omega, by omega⟩) ?_); try (simp (maxSteps := 4000000) only [go_sem, ↓reduceIte, reduceCtorEq, Nat.reduceEqDiff, Nat.reduceBEq, Nat.reduceAdd, Nat.reduceSub, Nat.reduceMul, Nat.reduceLT, Nat.reduceLeDiff, Nat.reduceBNe, Int.reduceBEq, Int.reduceBNe, Int.reduceLT, Int.reduceLE, Opr.a, Spn.a, nul, tw, tn, z1, z2, z3, z4, ByteArray.size_append]); (repeat (first | refine And.intro (by omega) ?_ | refine And.intro (fun d hd => by rcases hd with rfl | hd; exact ⟨rfl, rfl⟩; cases hd) ?_))))
    all_goals omega
  · -- kind 4
    have tw : IntKind.i64.wrap (4 - 1) = 3 := by rfl
    have tn : Int.toNat 3 = 3 := rfl
    cases op with
    | true =>
      have e : lineO ⟨4, key, hi, true, val, lim⟩ = joinB [(⟨#[119, 105, 112, 101]⟩ : ByteArray), quoteF key, (⟨#[42]⟩ : ByteArray)] ⟨#[32]⟩ := rfl
      rw [e, joinB3, s32]
      (simp (maxSteps := 4000000) only [go_sem, ↓reduceIte, reduceCtorEq, Nat.reduceEqDiff, Nat.reduceBEq, Nat.reduceAdd, Nat.reduceSub, Nat.reduceMul, Nat.reduceLT, Nat.reduceLeDiff, Nat.reduceBNe, Int.reduceBEq, Int.reduceBNe, Int.reduceLT, Int.reduceLE, Opr.a, Spn.a, nul, tw, tn, z1, z2, z3, z4, ByteArray.size_append]; (repeat (first | refine And.intro (by omega) ?_ | refine And.intro (fun d hd => by rcases hd with rfl | hd; exact ⟨rfl, rfl⟩; cases hd) ?_)); repeat ((first | refine calling (hR) ?_ | refine callingH (hR) ?_ | refine calling (rQuote_ok key (by omega)) ?_ | refine callingH (rQuote_ok key (by omega)) ?_ | refine calling (rQuote_ok val (by omega)) ?_ | refine callingH (rQuote_ok val (by omega)) ?_ | refine calling (rQuote_ok hi (by omega)) ?_ | refine callingH (rQuote_ok hi (by omega)) ?_ | refine calling (rDec_ok lim ⟨by omega, by omega⟩) ?_ | refine callingH (rDec_ok lim ⟨by omega, by omega⟩) ?_); try (simp (maxSteps := 4000000) only [go_sem, ↓reduceIte, reduceCtorEq, Nat.reduceEqDiff, Nat.reduceBEq, Nat.reduceAdd, Nat.reduceSub, Nat.reduceMul, Nat.reduceLT, Nat.reduceLeDiff, Nat.reduceBNe, Int.reduceBEq, Int.reduceBNe, Int.reduceLT, Int.reduceLE, Opr.a, Spn.a, nul, tw, tn, z1, z2, z3, z4, ByteArray.size_append]); (repeat (first | refine And.intro (by omega) ?_ | refine And.intro (fun d hd => by rcases hd with rfl | hd; exact ⟨rfl, rfl⟩; cases hd) ?_))))
      all_goals omega
    | false =>
      have e : lineO ⟨4, key, hi, false, val, lim⟩ = joinB [(⟨#[119, 105, 112, 101]⟩ : ByteArray), quoteF key, quoteF hi] ⟨#[32]⟩ := rfl
      rw [e, joinB3]
      (simp (maxSteps := 4000000) only [go_sem, ↓reduceIte, reduceCtorEq, Nat.reduceEqDiff, Nat.reduceBEq, Nat.reduceAdd, Nat.reduceSub, Nat.reduceMul, Nat.reduceLT, Nat.reduceLeDiff, Nat.reduceBNe, Int.reduceBEq, Int.reduceBNe, Int.reduceLT, Int.reduceLE, Opr.a, Spn.a, nul, tw, tn, z1, z2, z3, z4, ByteArray.size_append]; (repeat (first | refine And.intro (by omega) ?_ | refine And.intro (fun d hd => by rcases hd with rfl | hd; exact ⟨rfl, rfl⟩; cases hd) ?_)); repeat ((first | refine calling (hR) ?_ | refine callingH (hR) ?_ | refine calling (rQuote_ok key (by omega)) ?_ | refine callingH (rQuote_ok key (by omega)) ?_ | refine calling (rQuote_ok val (by omega)) ?_ | refine callingH (rQuote_ok val (by omega)) ?_ | refine calling (rQuote_ok hi (by omega)) ?_ | refine callingH (rQuote_ok hi (by omega)) ?_ | refine calling (rDec_ok lim ⟨by omega, by omega⟩) ?_ | refine callingH (rDec_ok lim ⟨by omega, by omega⟩) ?_); try (simp (maxSteps := 4000000) only [go_sem, ↓reduceIte, reduceCtorEq, Nat.reduceEqDiff, Nat.reduceBEq, Nat.reduceAdd, Nat.reduceSub, Nat.reduceMul, Nat.reduceLT, Nat.reduceLeDiff, Nat.reduceBNe, Int.reduceBEq, Int.reduceBNe, Int.reduceLT, Int.reduceLE, Opr.a, Spn.a, nul, tw, tn, z1, z2, z3, z4, ByteArray.size_append]); (repeat (first | refine And.intro (by omega) ?_ | refine And.intro (fun d hd => by rcases hd with rfl | hd; exact ⟨rfl, rfl⟩; cases hd) ?_))))
      all_goals omega
  · -- kind 5
    have tw : IntKind.i64.wrap (5 - 1) = 4 := by rfl
    have tn : Int.toNat 4 = 4 := rfl
    have e : lineO ⟨5, key, hi, op, val, lim⟩ = joinB [(⟨#[103, 101, 116]⟩ : ByteArray), quoteF key] ⟨#[32]⟩ := rfl
    rw [e, joinB2]
    (simp (maxSteps := 4000000) only [go_sem, ↓reduceIte, reduceCtorEq, Nat.reduceEqDiff, Nat.reduceBEq, Nat.reduceAdd, Nat.reduceSub, Nat.reduceMul, Nat.reduceLT, Nat.reduceLeDiff, Nat.reduceBNe, Int.reduceBEq, Int.reduceBNe, Int.reduceLT, Int.reduceLE, Opr.a, Spn.a, nul, tw, tn, z1, z2, z3, z4, ByteArray.size_append]; (repeat (first | refine And.intro (by omega) ?_ | refine And.intro (fun d hd => by rcases hd with rfl | hd; exact ⟨rfl, rfl⟩; cases hd) ?_)); repeat ((first | refine calling (hR) ?_ | refine callingH (hR) ?_ | refine calling (rQuote_ok key (by omega)) ?_ | refine callingH (rQuote_ok key (by omega)) ?_ | refine calling (rQuote_ok val (by omega)) ?_ | refine callingH (rQuote_ok val (by omega)) ?_ | refine calling (rQuote_ok hi (by omega)) ?_ | refine callingH (rQuote_ok hi (by omega)) ?_ | refine calling (rDec_ok lim ⟨by omega, by omega⟩) ?_ | refine callingH (rDec_ok lim ⟨by omega, by omega⟩) ?_); try (simp (maxSteps := 4000000) only [go_sem, ↓reduceIte, reduceCtorEq, Nat.reduceEqDiff, Nat.reduceBEq, Nat.reduceAdd, Nat.reduceSub, Nat.reduceMul, Nat.reduceLT, Nat.reduceLeDiff, Nat.reduceBNe, Int.reduceBEq, Int.reduceBNe, Int.reduceLT, Int.reduceLE, Opr.a, Spn.a, nul, tw, tn, z1, z2, z3, z4, ByteArray.size_append]); (repeat (first | refine And.intro (by omega) ?_ | refine And.intro (fun d hd => by rcases hd with rfl | hd; exact ⟨rfl, rfl⟩; cases hd) ?_))))
    all_goals omega
  · -- kind 6
    have tw : IntKind.i64.wrap (6 - 1) = 5 := by rfl
    have tn : Int.toNat 5 = 5 := rfl
    have l12 : 1 ≤ lim ∧ lim ≤ 64 := by simpa using p4
    have sd := sd l12.2 l12.1
    cases op with
    | true =>
      have e : lineO ⟨6, key, hi, true, val, lim⟩ = joinB [(⟨#[115, 99, 97, 110]⟩ : ByteArray), quoteF key, (⟨#[42]⟩ : ByteArray), decS lim] ⟨#[32]⟩ := rfl
      rw [e, joinB4, s32]
      (simp (maxSteps := 4000000) only [go_sem, ↓reduceIte, reduceCtorEq, Nat.reduceEqDiff, Nat.reduceBEq, Nat.reduceAdd, Nat.reduceSub, Nat.reduceMul, Nat.reduceLT, Nat.reduceLeDiff, Nat.reduceBNe, Int.reduceBEq, Int.reduceBNe, Int.reduceLT, Int.reduceLE, Opr.a, Spn.a, nul, tw, tn, z1, z2, z3, z4, ByteArray.size_append]; (repeat (first | refine And.intro (by omega) ?_ | refine And.intro (fun d hd => by rcases hd with rfl | hd; exact ⟨rfl, rfl⟩; cases hd) ?_)); repeat ((first | refine calling (hR) ?_ | refine callingH (hR) ?_ | refine calling (rQuote_ok key (by omega)) ?_ | refine callingH (rQuote_ok key (by omega)) ?_ | refine calling (rQuote_ok val (by omega)) ?_ | refine callingH (rQuote_ok val (by omega)) ?_ | refine calling (rQuote_ok hi (by omega)) ?_ | refine callingH (rQuote_ok hi (by omega)) ?_ | refine calling (rDec_ok lim ⟨by omega, by omega⟩) ?_ | refine callingH (rDec_ok lim ⟨by omega, by omega⟩) ?_); try (simp (maxSteps := 4000000) only [go_sem, ↓reduceIte, reduceCtorEq, Nat.reduceEqDiff, Nat.reduceBEq, Nat.reduceAdd, Nat.reduceSub, Nat.reduceMul, Nat.reduceLT, Nat.reduceLeDiff, Nat.reduceBNe, Int.reduceBEq, Int.reduceBNe, Int.reduceLT, Int.reduceLE, Opr.a, Spn.a, nul, tw, tn, z1, z2, z3, z4, ByteArray.size_append]); (repeat (first | refine And.intro (by omega) ?_ | refine And.intro (fun d hd => by rcases hd with rfl | hd; exact ⟨rfl, rfl⟩; cases hd) ?_))))
      all_goals omega
    | false =>
      have e : lineO ⟨6, key, hi, false, val, lim⟩ = joinB [(⟨#[115, 99, 97, 110]⟩ : ByteArray), quoteF key, quoteF hi, decS lim] ⟨#[32]⟩ := rfl
      rw [e, joinB4]
      (simp (maxSteps := 4000000) only [go_sem, ↓reduceIte, reduceCtorEq, Nat.reduceEqDiff, Nat.reduceBEq, Nat.reduceAdd, Nat.reduceSub, Nat.reduceMul, Nat.reduceLT, Nat.reduceLeDiff, Nat.reduceBNe, Int.reduceBEq, Int.reduceBNe, Int.reduceLT, Int.reduceLE, Opr.a, Spn.a, nul, tw, tn, z1, z2, z3, z4, ByteArray.size_append]; (repeat (first | refine And.intro (by omega) ?_ | refine And.intro (fun d hd => by rcases hd with rfl | hd; exact ⟨rfl, rfl⟩; cases hd) ?_)); repeat ((first | refine calling (hR) ?_ | refine callingH (hR) ?_ | refine calling (rQuote_ok key (by omega)) ?_ | refine callingH (rQuote_ok key (by omega)) ?_ | refine calling (rQuote_ok val (by omega)) ?_ | refine callingH (rQuote_ok val (by omega)) ?_ | refine calling (rQuote_ok hi (by omega)) ?_ | refine callingH (rQuote_ok hi (by omega)) ?_ | refine calling (rDec_ok lim ⟨by omega, by omega⟩) ?_ | refine callingH (rDec_ok lim ⟨by omega, by omega⟩) ?_); try (simp (maxSteps := 4000000) only [go_sem, ↓reduceIte, reduceCtorEq, Nat.reduceEqDiff, Nat.reduceBEq, Nat.reduceAdd, Nat.reduceSub, Nat.reduceMul, Nat.reduceLT, Nat.reduceLeDiff, Nat.reduceBNe, Int.reduceBEq, Int.reduceBNe, Int.reduceLT, Int.reduceLE, Opr.a, Spn.a, nul, tw, tn, z1, z2, z3, z4, ByteArray.size_append]); (repeat (first | refine And.intro (by omega) ?_ | refine And.intro (fun d hd => by rcases hd with rfl | hd; exact ⟨rfl, rfl⟩; cases hd) ?_))))
      all_goals omega
theorem rLineX (o : Opr) (h : o.key.size ≤ 9000000000) (hh : o.hi.size ≤ 9000000000) : AFn Tryd.prog 33 [o.a] (.str (lineX o)) := by
  unfold lineX
  cases hr : o.right with
  | true => exact rLine_ok o hr
  | false => exact rLine_no o h hh hr
end Go.Proofs.YtgpoglaojklfbaaDoor
