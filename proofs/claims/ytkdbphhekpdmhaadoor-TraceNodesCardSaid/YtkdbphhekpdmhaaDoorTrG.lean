/-
  The chapter's examples of traces.
-/
import Derived.Test.YtkdbphhekpdmhaaDoorTrF
import Derived.Test.YtkdbphhekpdmhaaDoorPkT
namespace Go.Proofs.YtkdbphhekpdmhaaDoor
open Go.RowKit
set_option linter.unusedVariables false
set_option linter.unusedSimpArgs false
set_option maxRecDepth 100000
attribute [local go_sem ↓] runOp headOp
attribute [local go_sem] ev0 ev1 ev2 ev3 ev4 evA stHOk.eq_1 stHOk.eq_2 stHSt.eq_1 stHSt.eq_2 okV valV fzV okF valF okBld valBld mxOk.eq_1 mxOk.eq_2 mxVal.eq_1 mxVal.eq_2 cellFit.eq_1 cellFit.eq_2 cellFit.eq_3 cellEq.eq_1 cellEq.eq_2 cellEq.eq_3 upd_at AV.flatB AV.flatBs binIok binIV binSok binSV cellsOk.eq_1 cellsOk.eq_2 cellsVal.eq_1 cellsVal.eq_2 objCells.eq_1 objCells.eq_2 objZ.eq_1 objZ.eq_2 objProt.eq_1 objProt.eq_2 oneObj ptrOk.eq_1 ptrOk.eq_2 ptrOk.eq_3 ptrCells.eq_1 ptrCells.eq_2 ptrCells.eq_3 lenOk.eq_1 lenOk.eq_2 lenOk.eq_3 lenOk.eq_4 lenVal.eq_1 lenVal.eq_2 lenVal.eq_3 lenVal.eq_4 faOk.eq_1 faOk.eq_2 faOk.eq_3 faVal.eq_1 faVal.eq_2 faVal.eq_3 iaOk.eq_1 iaOk.eq_2 iaOk.eq_3 iaVal.eq_1 iaVal.eq_2 iaVal.eq_3 slcLen.eq_1 slcLen.eq_2 slcLen.eq_3 slcLen.eq_4 bdOk.eq_1 bdOk.eq_2 bdVal.eq_1 bdVal.eq_2 slcOk.eq_1 slcOk.eq_2 slcOk.eq_3 slcOk.eq_4 slcVal.eq_1 slcVal.eq_2 slcVal.eq_3 slcVal.eq_4 slcFz.eq_1 slcFz.eq_2 byOk.eq_1 byOk.eq_2 byOk.eq_3 byOk.eq_4 byOk.eq_5 byOk.eq_6 byOk.eq_7 byVal.eq_1 byVal.eq_2 byVal.eq_3 byFz.eq_1 byFz.eq_2 byFz.eq_3 byOks byVals byFzs allOne resSt.eq_1 resSt.eq_2 resName.eq_1 resName.eq_2 stOk.eq_1 stOk.eq_2 stArr.eq_1 stArr.eq_2 stSt.eq_1 stSt.eq_2 AV.patch nameOk_none gB.eq_1 gB.eq_2 gB.eq_3 gIs.eq_1 gIs.eq_2 gIs.eq_3 retV resV resVs evalV cellsV St.byval List.getD_cons_zero List.getD_cons_succ List.getD_nil List.map_cons List.map_nil List.length_cons List.length_nil List.take_succ_cons List.take_zero List.drop_succ_cons List.drop_zero List.headD_cons List.set_cons_zero List.append_nil List.nil_append List.cons_append List.contains_cons List.contains_nil List.elem_cons List.elem_nil List.all_cons List.all_nil List.getElem?_cons_zero List.getElem?_cons_succ List.filterMap_cons List.filterMap_nil Option.isSome_some Option.isSome_none Option.map_some Option.map_none Option.some.injEq AV.int.injEq AV.bool.injEq AV.str.injEq AV.tup.injEq AV.agg.injEq AV.sl.injEq List.cons.injEq Bool.false_eq_true Bool.true_eq_false Bool.not_true Bool.not_false Bool.and_true Bool.true_and Bool.or_false Bool.or_true Bool.false_or Bool.true_or Bool.or_self Bool.and_self Bool.not_eq_true' Bool.not_eq_false' Bool.not_not beq_self_eq_true true_and and_true false_and and_false and_self not_true_eq_false not_false_eq_true forall_const true_implies false_implies implies_true imp_self Nat.lt_add_one Nat.le_refl Nat.zero_le Nat.add_zero Nat.zero_add decide_true decide_false decide_eq_true_eq decide_eq_false_iff_not exists_eq_left exists_eq_left' ge_iff_le gt_iff_lt ite_branch ite_branch' nilOk.eq_1 nilOk.eq_2 nilMay.eq_1 nilMay.eq_2 AV.isSl.eq_1 objTy'.eq_1 objTy'.eq_2 apSt.eq_1 apArr.eq_1 apArr.eq_2 slOf.eq_1 fitsV List.mem_cons List.not_mem_nil Bool.false_and Bool.and_false primOk.eq_1 primOk.eq_2 primOk.eq_3 primOk.eq_4 primOk.eq_5 primVal.eq_1 primVal.eq_2 primVal.eq_3 primVal.eq_4 primVal.eq_5 mOk.eq_1 mOk.eq_2 mVal.eq_1 mVal.eq_2 mFz.eq_1 mFz.eq_2 mOks mVals mFzs mCalOk.eq_1 mCalOk.eq_2 mFn.eq_1 mFn.eq_2 mArgs.eq_1 mArgs.eq_2 ckOk.eq_1 ckOk.eq_2 cloOk.eq_1 ptrAt.eq_1 sh.eq_1 sh.eq_2 sh.eq_3 sh.eq_4 sh.eq_5 retM shH_small
theorem dec1 (d : Nat) (h : d < 10) : decS (d : Int) = ⟨#[UInt8.ofNat (48 + d)]⟩ := by
  unfold decS
  rw [itoa_nn (by omega), Int.toNat_natCast, dd_small d h]
theorem spl_eq {l r : List ByteArray} (h : l.map (·.data.toList) = r.map (·.data.toList)) : l = r := by
  induction l generalizing r with
  | nil => cases r with
    | nil => rfl
    | cons y r => cases h
  | cons x l ih => cases r with
    | nil => cases h
    | cons y r =>
      simp only [List.map_cons, List.cons.injEq] at h
      rw [ba_ext h.1, ih h.2]
def ansZ : AV := .agg [.int .i64 0, .bool false, .str ⟨#[]⟩, .sl []]
def evtA : AV := .agg [.int .i64 0, .int .i64 1, .str ⟨#[97]⟩, .str ⟨#[]⟩, .bool false, .str ⟨#[49]⟩, .int .i64 0, .int .i64 0, .bool false, .str ⟨#[]⟩, .sl [], .int .i64 1, .int .i64 3, .int .i64 3, .bool true]
def opA : Opr := ⟨1, ⟨#[97]⟩, ⟨#[]⟩, false, ⟨#[49]⟩, 0⟩
/-! ### percolate/trace.yes -/
def r_yes_0 : Reg := ⟨[], [⟨(.mv (.c (.str ⟨#[]⟩))), (some 2), none, [], []⟩], [], [], false⟩
def r_yes_1 : Reg := ⟨[], [⟨(.mv (.t 0)), (some 3), none, [], []⟩], [], [], false⟩
def r_yes_2 : Reg := ⟨[], [⟨(.mv (.c (.str ⟨#[121, 101, 115]⟩))), (some 2), none, [], []⟩], [], [], false⟩
def r_yes_3 : Reg := ⟨[], [⟨(.mv (.c (.str ⟨#[110, 111]⟩))), (some 2), none, [], []⟩], [], [], false⟩
def ir_yes : IR := (.seq (.reg r_yes_0)
  (.seq (.seq (.reg r_yes_1)
  (.cond (.t 3) (.seq (.reg r_yes_2)
  .ret)
  .skip))
  (.seq (.reg r_yes_3)
  .ret)))
def res_yes : List RDesc := [(.tmp 2)]
theorem e_yes_0 (C : FuncId → List AV → AV → Prop) (σ : St) (K : St → Prop) : runReg C r_yes_0 σ K = runOps C [⟨(.mv (.c (.str ⟨#[]⟩))), (some 2), none, [], []⟩] (σ.kills []) K := rfl
theorem e_yes_1 (C : FuncId → List AV → AV → Prop) (σ : St) (K : St → Prop) : runReg C r_yes_1 σ K = runOps C [⟨(.mv (.t 0)), (some 3), none, [], []⟩] (σ.kills []) K := rfl
theorem e_yes_2 (C : FuncId → List AV → AV → Prop) (σ : St) (K : St → Prop) : runReg C r_yes_2 σ K = runOps C [⟨(.mv (.c (.str ⟨#[121, 101, 115]⟩))), (some 2), none, [], []⟩] (σ.kills []) K := rfl
theorem e_yes_3 (C : FuncId → List AV → AV → Prop) (σ : St) (K : St → Prop) : runReg C r_yes_3 σ K = runOps C [⟨(.mv (.c (.str ⟨#[110, 111]⟩))), (some 2), none, [], []⟩] (σ.kills []) K := rfl
theorem fn_yes {args : List AV} {r : AV} (ha : args.length.ble Tryd.f65.ntmps = true) (h : run (AFn Tryd.prog) ir_yes (endQ res_yes r) (initSt args)) : AFn Tryd.prog 65 args r :=
  AFn.of_code (hint := fun _ => []) (c := Tryd.f65.body.getD .skip) (by kernel_rfl) (by kernel_rfl) Tryd.func65 (by kernel_rfl) (by kernel_rfl) (by kernel_rfl) (of_decide_eq_true (by kernel_rfl)) (Nat.le_of_ble_eq_true ha) (Nat.le_of_ble_eq_true (by kernel_rfl)) (run_ok h)

/-! ### percolate/answer.Line -/
def r_aLine_0 : Reg := ⟨[], [⟨(.box 6 48 (.t 0)), (some 2), none, [3], []⟩, ⟨(.box 4 51 (.t 1)), (some 3), none, [], []⟩, ⟨(.mv (.c (.str ⟨#[]⟩))), (some 4), none, [], []⟩], [2, 3], [], false⟩
def r_aLine_1 : Reg := ⟨[], [⟨(.faddr 0 (.t 3)), (some 9), none, [], []⟩, ⟨(.load 1 false (.t 9)), (some 10), none, [], []⟩, ⟨(.bin .neq (.t 10) (.c (.int .i64 0))), (some 11), none, [], []⟩, ⟨(.mv (.t 11)), (some 8), none, [], []⟩], [], [], false⟩
def r_aLine_2 : Reg := ⟨[], [⟨(.faddr 0 (.t 3)), (some 12), none, [14], []⟩, ⟨(.load 1 false (.t 12)), (some 13), none, [14], []⟩, ⟨(.callv (.c (.clo 56 [] [])) [(.t 13)]), (some 14), none, [], []⟩, ⟨(.bin .add (.c (.str ⟨#[101, 114, 114, 111, 114, 32]⟩)) (.t 14)), (some 15), none, [], []⟩, ⟨(.mv (.t 15)), (some 4), none, [], []⟩], [14], [], false⟩
def r_aLine_3 : Reg := ⟨[], [⟨(.faddr 0 (.t 2)), (some 17), none, [], []⟩, ⟨(.load 1 false (.t 17)), (some 18), none, [], []⟩, ⟨(.bin .eql (.t 18) (.c (.int .i64 5))), (some 19), none, [], []⟩, ⟨(.mv (.t 19)), (some 20), none, [], []⟩, ⟨(.faddr 1 (.t 3)), (some 21), (some (20, true)), [], []⟩, ⟨(.load 1 false (.t 21)), (some 22), (some (20, true)), [], []⟩, ⟨(.pick (.t 20) (.t 22) (.c (.bool false))), (some 23), none, [], []⟩, ⟨(.mv (.t 23)), (some 16), none, [], []⟩], [], [], false⟩
def r_aLine_4 : Reg := ⟨[], [⟨(.faddr 2 (.t 3)), (some 24), none, [26], []⟩, ⟨(.load 1 false (.t 24)), (some 25), none, [26], []⟩, ⟨(.callv (.c (.clo 61 [] [])) [(.t 25)]), (some 26), none, [], []⟩, ⟨(.bin .add (.c (.str ⟨#[104, 97, 115, 32]⟩)) (.t 26)), (some 27), none, [], []⟩, ⟨(.mv (.t 27)), (some 4), none, [], []⟩], [26], [], false⟩
def r_aLine_5 : Reg := ⟨[], [⟨(.faddr 0 (.t 2)), (some 29), none, [], []⟩, ⟨(.load 1 false (.t 29)), (some 30), none, [], []⟩, ⟨(.bin .eql (.t 30) (.c (.int .i64 5))), (some 31), none, [], []⟩, ⟨(.mv (.t 31)), (some 28), none, [], []⟩], [], [], false⟩
def r_aLine_6 : Reg := ⟨[], [⟨(.mv (.c (.str ⟨#[110, 111, 110, 101]⟩))), (some 4), none, [], []⟩], [], [], false⟩
def r_aLine_7 : Reg := ⟨[], [⟨(.faddr 0 (.t 2)), (some 33), none, [], []⟩, ⟨(.load 1 false (.t 33)), (some 34), none, [], []⟩, ⟨(.bin .eql (.t 34) (.c (.int .i64 6))), (some 35), none, [], []⟩, ⟨(.mv (.t 35)), (some 32), none, [], []⟩], [], [], false⟩
def r_aLine_8 : Reg := ⟨[], [⟨(.faddr 3 (.t 3)), (some 36), none, [39], []⟩, ⟨(.load 1 false (.t 36)), (some 37), none, [39], []⟩, ⟨(.len false (.t 37)), (some 38), none, [39], []⟩, ⟨(.callv (.c (.clo 56 [] [])) [(.t 38)]), (some 39), none, [], []⟩, ⟨(.bin .add (.c (.str ⟨#[112, 97, 105, 114, 115, 32]⟩)) (.t 39)), (some 40), none, [], []⟩, ⟨(.mv (.t 40)), (some 5), none, [], []⟩], [39], [], false⟩
def r_aLine_9 : Reg := ⟨[], [⟨(.faddr 3 (.t 3)), (some 41), none, [], []⟩, ⟨(.load 1 false (.t 41)), (some 42), none, [], []⟩, ⟨(.len false (.t 42)), (some 43), none, [], []⟩, ⟨(.mv (.c (.int .i64 0))), (some 44), none, [], []⟩], [], [], false⟩
def r_aLine_10 : Reg := ⟨[], [⟨(.bin .lss (.t 44) (.t 43)), (some 45), none, [], []⟩], [], [], false⟩
def r_aLine_11 : Reg := ⟨[], [⟨(.iaddr 2 (.t 42) (.t 44)), (some 46), none, [7], []⟩, ⟨(.load 2 true (.t 46)), (some 47), none, [7], []⟩, ⟨(.alloc 2 87 (.agg [(.str ⟨#[]⟩), (.str ⟨#[]⟩)])), (some 7), none, [], []⟩, ⟨(.store 2 (.t 7) (.t 47)), none, none, [], []⟩], [7], [], false⟩
def r_aLine_12 : Reg := ⟨[⟨(.mv (.t 5)), (some 48), none, [51, 56], []⟩, ⟨(.faddr 0 (.t 7)), (some 49), none, [51, 56], []⟩, ⟨(.load 1 false (.t 49)), (some 50), none, [51, 56], []⟩, ⟨(.callv (.c (.clo 61 [] [])) [(.t 50)]), (some 51), none, [56], []⟩, ⟨(.bin .add (.c (.str ⟨#[32]⟩)) (.t 51)), (some 52), none, [56], []⟩, ⟨(.bin .add (.t 52) (.c (.str ⟨#[61]⟩))), (some 53), none, [56], []⟩, ⟨(.faddr 1 (.t 7)), (some 54), none, [51, 56], []⟩, ⟨(.load 1 false (.t 54)), (some 55), none, [51, 56], []⟩, ⟨(.callv (.c (.clo 61 [] [])) [(.t 55)]), (some 56), none, [], []⟩, ⟨(.bin .add (.t 53) (.t 56)), (some 57), none, [], []⟩], [⟨(.bin .add (.t 48) (.t 57)), (some 58), none, [], []⟩, ⟨(.mv (.t 58)), (some 5), none, [], []⟩], [51, 56], [], true⟩
def r_aLine_13 : Reg := ⟨[], [⟨(.bin .add (.t 44) (.c (.int .i64 1))), (some 59), none, [], []⟩, ⟨(.mv (.t 59)), (some 44), none, [], []⟩], [], [], false⟩
def r_aLine_l14 : IR := (.seq (.reg r_aLine_10)
  (.seq (.cond (.t 45) .skip
  (.exit 1))
  (.seq (.block 2 (.seq (.reg r_aLine_11)
  (.reg r_aLine_12)))
  (.reg r_aLine_13))))
def r_aLine_15 : Reg := ⟨[], [⟨(.mv (.t 5)), (some 60), none, [], []⟩, ⟨(.mv (.t 60)), (some 4), none, [], []⟩], [], [], false⟩
def r_aLine_16 : Reg := ⟨[], [⟨(.mv (.c (.str ⟨#[111, 107]⟩))), (some 4), none, [], []⟩], [], [], false⟩
def ir_aLine : IR := (.seq (.reg r_aLine_0)
  (.seq (.block 0 (.seq (.reg r_aLine_1)
  (.cond (.t 8) (.seq (.reg r_aLine_2)
  .ret)
  (.seq (.reg r_aLine_3)
  (.cond (.t 16) (.seq (.reg r_aLine_4)
  .ret)
  (.seq (.reg r_aLine_5)
  (.cond (.t 28) (.seq (.reg r_aLine_6)
  .ret)
  (.seq (.reg r_aLine_7)
  (.cond (.t 32) (.seq (.reg r_aLine_8)
  (.seq (.seq (.reg r_aLine_9)
  (.block 1 (.loop r_aLine_l14)))
  (.seq (.reg r_aLine_15)
  .ret)))
  .skip)))))))))
  (.seq (.reg r_aLine_16)
  .ret)))
def res_aLine : List RDesc := [(.tmp 4)]
theorem e_aLine_0 (C : FuncId → List AV → AV → Prop) (σ : St) (K : St → Prop) : runReg C r_aLine_0 σ K = runOps C [⟨(.box 6 48 (.t 0)), (some 2), none, [3], []⟩, ⟨(.box 4 51 (.t 1)), (some 3), none, [], []⟩, ⟨(.mv (.c (.str ⟨#[]⟩))), (some 4), none, [], []⟩] (σ.kills [2, 3]) K := rfl
theorem e_aLine_1 (C : FuncId → List AV → AV → Prop) (σ : St) (K : St → Prop) : runReg C r_aLine_1 σ K = runOps C [⟨(.faddr 0 (.t 3)), (some 9), none, [], []⟩, ⟨(.load 1 false (.t 9)), (some 10), none, [], []⟩, ⟨(.bin .neq (.t 10) (.c (.int .i64 0))), (some 11), none, [], []⟩, ⟨(.mv (.t 11)), (some 8), none, [], []⟩] (σ.kills []) K := rfl
theorem e_aLine_2 (C : FuncId → List AV → AV → Prop) (σ : St) (K : St → Prop) : runReg C r_aLine_2 σ K = runOps C [⟨(.faddr 0 (.t 3)), (some 12), none, [14], []⟩, ⟨(.load 1 false (.t 12)), (some 13), none, [14], []⟩, ⟨(.callv (.c (.clo 56 [] [])) [(.t 13)]), (some 14), none, [], []⟩, ⟨(.bin .add (.c (.str ⟨#[101, 114, 114, 111, 114, 32]⟩)) (.t 14)), (some 15), none, [], []⟩, ⟨(.mv (.t 15)), (some 4), none, [], []⟩] (σ.kills [14]) K := rfl
theorem e_aLine_3 (C : FuncId → List AV → AV → Prop) (σ : St) (K : St → Prop) : runReg C r_aLine_3 σ K = runOps C [⟨(.faddr 0 (.t 2)), (some 17), none, [], []⟩, ⟨(.load 1 false (.t 17)), (some 18), none, [], []⟩, ⟨(.bin .eql (.t 18) (.c (.int .i64 5))), (some 19), none, [], []⟩, ⟨(.mv (.t 19)), (some 20), none, [], []⟩, ⟨(.faddr 1 (.t 3)), (some 21), (some (20, true)), [], []⟩, ⟨(.load 1 false (.t 21)), (some 22), (some (20, true)), [], []⟩, ⟨(.pick (.t 20) (.t 22) (.c (.bool false))), (some 23), none, [], []⟩, ⟨(.mv (.t 23)), (some 16), none, [], []⟩] (σ.kills []) K := rfl
theorem e_aLine_4 (C : FuncId → List AV → AV → Prop) (σ : St) (K : St → Prop) : runReg C r_aLine_4 σ K = runOps C [⟨(.faddr 2 (.t 3)), (some 24), none, [26], []⟩, ⟨(.load 1 false (.t 24)), (some 25), none, [26], []⟩, ⟨(.callv (.c (.clo 61 [] [])) [(.t 25)]), (some 26), none, [], []⟩, ⟨(.bin .add (.c (.str ⟨#[104, 97, 115, 32]⟩)) (.t 26)), (some 27), none, [], []⟩, ⟨(.mv (.t 27)), (some 4), none, [], []⟩] (σ.kills [26]) K := rfl
theorem e_aLine_5 (C : FuncId → List AV → AV → Prop) (σ : St) (K : St → Prop) : runReg C r_aLine_5 σ K = runOps C [⟨(.faddr 0 (.t 2)), (some 29), none, [], []⟩, ⟨(.load 1 false (.t 29)), (some 30), none, [], []⟩, ⟨(.bin .eql (.t 30) (.c (.int .i64 5))), (some 31), none, [], []⟩, ⟨(.mv (.t 31)), (some 28), none, [], []⟩] (σ.kills []) K := rfl
theorem e_aLine_6 (C : FuncId → List AV → AV → Prop) (σ : St) (K : St → Prop) : runReg C r_aLine_6 σ K = runOps C [⟨(.mv (.c (.str ⟨#[110, 111, 110, 101]⟩))), (some 4), none, [], []⟩] (σ.kills []) K := rfl
theorem e_aLine_7 (C : FuncId → List AV → AV → Prop) (σ : St) (K : St → Prop) : runReg C r_aLine_7 σ K = runOps C [⟨(.faddr 0 (.t 2)), (some 33), none, [], []⟩, ⟨(.load 1 false (.t 33)), (some 34), none, [], []⟩, ⟨(.bin .eql (.t 34) (.c (.int .i64 6))), (some 35), none, [], []⟩, ⟨(.mv (.t 35)), (some 32), none, [], []⟩] (σ.kills []) K := rfl
theorem e_aLine_8 (C : FuncId → List AV → AV → Prop) (σ : St) (K : St → Prop) : runReg C r_aLine_8 σ K = runOps C [⟨(.faddr 3 (.t 3)), (some 36), none, [39], []⟩, ⟨(.load 1 false (.t 36)), (some 37), none, [39], []⟩, ⟨(.len false (.t 37)), (some 38), none, [39], []⟩, ⟨(.callv (.c (.clo 56 [] [])) [(.t 38)]), (some 39), none, [], []⟩, ⟨(.bin .add (.c (.str ⟨#[112, 97, 105, 114, 115, 32]⟩)) (.t 39)), (some 40), none, [], []⟩, ⟨(.mv (.t 40)), (some 5), none, [], []⟩] (σ.kills [39]) K := rfl
theorem e_aLine_9 (C : FuncId → List AV → AV → Prop) (σ : St) (K : St → Prop) : runReg C r_aLine_9 σ K = runOps C [⟨(.faddr 3 (.t 3)), (some 41), none, [], []⟩, ⟨(.load 1 false (.t 41)), (some 42), none, [], []⟩, ⟨(.len false (.t 42)), (some 43), none, [], []⟩, ⟨(.mv (.c (.int .i64 0))), (some 44), none, [], []⟩] (σ.kills []) K := rfl
theorem e_aLine_10 (C : FuncId → List AV → AV → Prop) (σ : St) (K : St → Prop) : runReg C r_aLine_10 σ K = runOps C [⟨(.bin .lss (.t 44) (.t 43)), (some 45), none, [], []⟩] (σ.kills []) K := rfl
theorem e_aLine_11 (C : FuncId → List AV → AV → Prop) (σ : St) (K : St → Prop) : runReg C r_aLine_11 σ K = runOps C [⟨(.iaddr 2 (.t 42) (.t 44)), (some 46), none, [7], []⟩, ⟨(.load 2 true (.t 46)), (some 47), none, [7], []⟩, ⟨(.alloc 2 87 (.agg [(.str ⟨#[]⟩), (.str ⟨#[]⟩)])), (some 7), none, [], []⟩, ⟨(.store 2 (.t 7) (.t 47)), none, none, [], []⟩] (σ.kills [7]) K := rfl
theorem e_aLine_12 (C : FuncId → List AV → AV → Prop) (σ : St) (K : St → Prop) : runReg C r_aLine_12 σ K = runHead C [] [⟨(.bin .add (.t 48) (.t 57)), (some 58), none, [], []⟩, ⟨(.mv (.t 58)), (some 5), none, [], []⟩] [⟨(.mv (.t 5)), (some 48), none, [51, 56], []⟩, ⟨(.faddr 0 (.t 7)), (some 49), none, [51, 56], []⟩, ⟨(.load 1 false (.t 49)), (some 50), none, [51, 56], []⟩, ⟨(.callv (.c (.clo 61 [] [])) [(.t 50)]), (some 51), none, [56], []⟩, ⟨(.bin .add (.c (.str ⟨#[32]⟩)) (.t 51)), (some 52), none, [56], []⟩, ⟨(.bin .add (.t 52) (.c (.str ⟨#[61]⟩))), (some 53), none, [56], []⟩, ⟨(.faddr 1 (.t 7)), (some 54), none, [51, 56], []⟩, ⟨(.load 1 false (.t 54)), (some 55), none, [51, 56], []⟩, ⟨(.callv (.c (.clo 61 [] [])) [(.t 55)]), (some 56), none, [], []⟩, ⟨(.bin .add (.t 53) (.t 56)), (some 57), none, [], []⟩] (σ.kills [51, 56]) K := rfl
theorem e_aLine_13 (C : FuncId → List AV → AV → Prop) (σ : St) (K : St → Prop) : runReg C r_aLine_13 σ K = runOps C [⟨(.bin .add (.t 44) (.c (.int .i64 1))), (some 59), none, [], []⟩, ⟨(.mv (.t 59)), (some 44), none, [], []⟩] (σ.kills []) K := rfl
theorem e_aLine_15 (C : FuncId → List AV → AV → Prop) (σ : St) (K : St → Prop) : runReg C r_aLine_15 σ K = runOps C [⟨(.mv (.t 5)), (some 60), none, [], []⟩, ⟨(.mv (.t 60)), (some 4), none, [], []⟩] (σ.kills []) K := rfl
theorem e_aLine_16 (C : FuncId → List AV → AV → Prop) (σ : St) (K : St → Prop) : runReg C r_aLine_16 σ K = runOps C [⟨(.mv (.c (.str ⟨#[111, 107]⟩))), (some 4), none, [], []⟩] (σ.kills []) K := rfl
theorem fn_aLine {args : List AV} {r : AV} (ha : args.length.ble Tryd.f63.ntmps = true) (h : run (AFn Tryd.prog) ir_aLine (endQ res_aLine r) (initSt args)) : AFn Tryd.prog 63 args r :=
  AFn.of_code (hint := fun _ => []) (c := Tryd.f63.body.getD .skip) (by kernel_rfl) (by kernel_rfl) Tryd.func63 (by kernel_rfl) (by kernel_rfl) (by kernel_rfl) (of_decide_eq_true (by kernel_rfl)) (Nat.le_of_ble_eq_true ha) (Nat.le_of_ble_eq_true (by kernel_rfl)) (run_ok h)

/-! ### percolate/trace.Event -/
def r_tEvent_0 : Reg := ⟨[], [⟨(.box 15 53 (.t 0)), (some 1), none, [], []⟩, ⟨(.mv (.c (.str ⟨#[]⟩))), (some 2), none, [], []⟩], [1], [], false⟩
def r_tEvent_1 : Reg := ⟨[], [⟨(.mv (.c (.str ⟨#[45]⟩))), (some 3), none, [], []⟩], [], [], false⟩
def r_tEvent_2 : Reg := ⟨[], [⟨(.faddr 14 (.t 1)), (some 4), none, [], []⟩, ⟨(.load 1 false (.t 4)), (some 5), none, [], []⟩], [], [], false⟩
def r_tEvent_3 : Reg := ⟨[], [⟨(.faddr 1 (.t 1)), (some 6), none, [10], []⟩, ⟨(.load 6 true (.t 6)), (some 7), none, [10], []⟩, ⟨(.faddr 7 (.t 1)), (some 8), none, [10], []⟩, ⟨(.load 4 true (.t 8)), (some 9), none, [10], []⟩, ⟨(.callv (.c (.clo 63 [] [])) [(.t 7), (.t 9)]), (some 10), none, [], []⟩, ⟨(.mv (.t 10)), (some 3), none, [], []⟩], [10], [], false⟩
def r_tEvent_4 : Reg := ⟨[⟨(.faddr 0 (.t 1)), (some 11), none, [13, 16, 19, 22, 25, 28, 30, 31], []⟩, ⟨(.load 1 false (.t 11)), (some 12), none, [13, 16, 19, 22, 25, 28, 30, 31], []⟩, ⟨(.callv (.c (.clo 56 [] [])) [(.t 12)]), (some 13), none, [16, 19, 22, 25, 28, 30, 31], []⟩, ⟨(.faddr 11 (.t 1)), (some 14), none, [13, 16, 19, 22, 25, 28, 30, 31], []⟩, ⟨(.load 1 false (.t 14)), (some 15), none, [13, 16, 19, 22, 25, 28, 30, 31], []⟩, ⟨(.callv (.c (.clo 56 [] [])) [(.t 15)]), (some 16), none, [19, 22, 25, 28, 30, 31], []⟩, ⟨(.faddr 12 (.t 1)), (some 17), none, [13, 16, 19, 22, 25, 28, 30, 31], []⟩, ⟨(.load 1 false (.t 17)), (some 18), none, [13, 16, 19, 22, 25, 28, 30, 31], []⟩, ⟨(.callv (.c (.clo 56 [] [])) [(.t 18)]), (some 19), none, [22, 25, 28, 30, 31], []⟩, ⟨(.faddr 13 (.t 1)), (some 20), none, [13, 16, 19, 22, 25, 28, 30, 31], []⟩, ⟨(.load 1 false (.t 20)), (some 21), none, [13, 16, 19, 22, 25, 28, 30, 31], []⟩, ⟨(.callv (.c (.clo 56 [] [])) [(.t 21)]), (some 22), none, [25, 28, 30, 31], []⟩, ⟨(.faddr 14 (.t 1)), (some 23), none, [13, 16, 19, 22, 25, 28, 30, 31], []⟩, ⟨(.load 1 false (.t 23)), (some 24), none, [13, 16, 19, 22, 25, 28, 30, 31], []⟩, ⟨(.callv (.c (.clo 65 [] [])) [(.t 24)]), (some 25), none, [28, 30, 31], []⟩, ⟨(.faddr 1 (.t 1)), (some 26), none, [13, 16, 19, 22, 25, 28, 30, 31], []⟩, ⟨(.load 6 true (.t 26)), (some 27), none, [13, 16, 19, 22, 25, 28, 30, 31], []⟩, ⟨(.callv (.c (.clo 66 [] [])) [(.t 27)]), (some 28), none, [30, 31], []⟩, ⟨(.mv (.t 3)), (some 29), none, [13, 16, 19, 22, 25, 28, 30, 31], []⟩], [⟨(.bsl 1 9 [(.t 13), (.t 16), (.t 19), (.t 22), (.t 25), (.c (.str ⟨#[58]⟩)), (.t 28), (.c (.str ⟨#[58]⟩)), (.t 29)]), (some 30), none, [31], []⟩, ⟨(.callv (.c (.clo 64 [] [])) [(.t 30)]), (some 31), none, [], []⟩, ⟨(.mv (.t 31)), (some 2), none, [], []⟩], [13, 16, 19, 22, 25, 28, 30, 31], [], true⟩
def ir_tEvent : IR := (.seq (.reg r_tEvent_0)
  (.seq (.reg r_tEvent_1)
  (.seq (.seq (.reg r_tEvent_2)
  (.cond (.t 5) (.reg r_tEvent_3)
  .skip))
  (.seq (.reg r_tEvent_4)
  .ret))))
def res_tEvent : List RDesc := [(.tmp 2)]
theorem e_tEvent_0 (C : FuncId → List AV → AV → Prop) (σ : St) (K : St → Prop) : runReg C r_tEvent_0 σ K = runOps C [⟨(.box 15 53 (.t 0)), (some 1), none, [], []⟩, ⟨(.mv (.c (.str ⟨#[]⟩))), (some 2), none, [], []⟩] (σ.kills [1]) K := rfl
theorem e_tEvent_1 (C : FuncId → List AV → AV → Prop) (σ : St) (K : St → Prop) : runReg C r_tEvent_1 σ K = runOps C [⟨(.mv (.c (.str ⟨#[45]⟩))), (some 3), none, [], []⟩] (σ.kills []) K := rfl
theorem e_tEvent_2 (C : FuncId → List AV → AV → Prop) (σ : St) (K : St → Prop) : runReg C r_tEvent_2 σ K = runOps C [⟨(.faddr 14 (.t 1)), (some 4), none, [], []⟩, ⟨(.load 1 false (.t 4)), (some 5), none, [], []⟩] (σ.kills []) K := rfl
theorem e_tEvent_3 (C : FuncId → List AV → AV → Prop) (σ : St) (K : St → Prop) : runReg C r_tEvent_3 σ K = runOps C [⟨(.faddr 1 (.t 1)), (some 6), none, [10], []⟩, ⟨(.load 6 true (.t 6)), (some 7), none, [10], []⟩, ⟨(.faddr 7 (.t 1)), (some 8), none, [10], []⟩, ⟨(.load 4 true (.t 8)), (some 9), none, [10], []⟩, ⟨(.callv (.c (.clo 63 [] [])) [(.t 7), (.t 9)]), (some 10), none, [], []⟩, ⟨(.mv (.t 10)), (some 3), none, [], []⟩] (σ.kills [10]) K := rfl
theorem e_tEvent_4 (C : FuncId → List AV → AV → Prop) (σ : St) (K : St → Prop) : runReg C r_tEvent_4 σ K = runHead C [] [⟨(.bsl 1 9 [(.t 13), (.t 16), (.t 19), (.t 22), (.t 25), (.c (.str ⟨#[58]⟩)), (.t 28), (.c (.str ⟨#[58]⟩)), (.t 29)]), (some 30), none, [31], []⟩, ⟨(.callv (.c (.clo 64 [] [])) [(.t 30)]), (some 31), none, [], []⟩, ⟨(.mv (.t 31)), (some 2), none, [], []⟩] [⟨(.faddr 0 (.t 1)), (some 11), none, [13, 16, 19, 22, 25, 28, 30, 31], []⟩, ⟨(.load 1 false (.t 11)), (some 12), none, [13, 16, 19, 22, 25, 28, 30, 31], []⟩, ⟨(.callv (.c (.clo 56 [] [])) [(.t 12)]), (some 13), none, [16, 19, 22, 25, 28, 30, 31], []⟩, ⟨(.faddr 11 (.t 1)), (some 14), none, [13, 16, 19, 22, 25, 28, 30, 31], []⟩, ⟨(.load 1 false (.t 14)), (some 15), none, [13, 16, 19, 22, 25, 28, 30, 31], []⟩, ⟨(.callv (.c (.clo 56 [] [])) [(.t 15)]), (some 16), none, [19, 22, 25, 28, 30, 31], []⟩, ⟨(.faddr 12 (.t 1)), (some 17), none, [13, 16, 19, 22, 25, 28, 30, 31], []⟩, ⟨(.load 1 false (.t 17)), (some 18), none, [13, 16, 19, 22, 25, 28, 30, 31], []⟩, ⟨(.callv (.c (.clo 56 [] [])) [(.t 18)]), (some 19), none, [22, 25, 28, 30, 31], []⟩, ⟨(.faddr 13 (.t 1)), (some 20), none, [13, 16, 19, 22, 25, 28, 30, 31], []⟩, ⟨(.load 1 false (.t 20)), (some 21), none, [13, 16, 19, 22, 25, 28, 30, 31], []⟩, ⟨(.callv (.c (.clo 56 [] [])) [(.t 21)]), (some 22), none, [25, 28, 30, 31], []⟩, ⟨(.faddr 14 (.t 1)), (some 23), none, [13, 16, 19, 22, 25, 28, 30, 31], []⟩, ⟨(.load 1 false (.t 23)), (some 24), none, [13, 16, 19, 22, 25, 28, 30, 31], []⟩, ⟨(.callv (.c (.clo 65 [] [])) [(.t 24)]), (some 25), none, [28, 30, 31], []⟩, ⟨(.faddr 1 (.t 1)), (some 26), none, [13, 16, 19, 22, 25, 28, 30, 31], []⟩, ⟨(.load 6 true (.t 26)), (some 27), none, [13, 16, 19, 22, 25, 28, 30, 31], []⟩, ⟨(.callv (.c (.clo 66 [] [])) [(.t 27)]), (some 28), none, [30, 31], []⟩, ⟨(.mv (.t 3)), (some 29), none, [13, 16, 19, 22, 25, 28, 30, 31], []⟩] (σ.kills [13, 16, 19, 22, 25, 28, 30, 31]) K := rfl
theorem fn_tEvent {args : List AV} {r : AV} (ha : args.length.ble Tryd.f26.ntmps = true) (h : run (AFn Tryd.prog) ir_tEvent (endQ res_tEvent r) (initSt args)) : AFn Tryd.prog 26 args r :=
  AFn.of_code (hint := fun _ => []) (c := Tryd.f26.body.getD .skip) (by kernel_rfl) (by kernel_rfl) Tryd.func26 (by kernel_rfl) (by kernel_rfl) (by kernel_rfl) (of_decide_eq_true (by kernel_rfl)) (Nat.le_of_ble_eq_true ha) (Nat.le_of_ble_eq_true (by kernel_rfl)) (run_ok h)

/-! ### percolate/trace.told -/
def r_told_0 : Reg := ⟨[], [⟨(.alloc 4 51 (.agg [(.int .i64 0), (.bool false), (.str ⟨#[]⟩), (.sl [])])), (some 2), none, [], []⟩], [2], [], false⟩
def r_told_1 : Reg := ⟨[], [⟨(.mv (.t 0)), (some 8), none, [9], []⟩, ⟨(.callv (.c (.clo 68 [] [])) [(.t 8)]), (some 9), none, [], []⟩, ⟨(.mv (.t 9)), (some 3), none, [], []⟩], [9], [], false⟩
def r_told_2 : Reg := ⟨[], [⟨(.mv (.t 3)), (some 11), none, [], []⟩, ⟨(.iaddr 1 (.t 11) (.c (.int .i64 0))), (some 12), none, [], []⟩, ⟨(.load 1 false (.t 12)), (some 13), none, [], []⟩, ⟨(.bin .eql (.t 13) (.c (.str ⟨#[101, 114, 114, 111, 114]⟩))), (some 14), none, [], []⟩, ⟨(.mv (.t 14)), (some 15), none, [], []⟩, ⟨(.mv (.t 3)), (some 16), (some (15, true)), [], []⟩, ⟨(.len false (.t 16)), (some 17), (some (15, true)), [], []⟩, ⟨(.bin .eql (.t 17) (.c (.int .i64 2))), (some 18), (some (15, true)), [], []⟩, ⟨(.pick (.t 15) (.t 18) (.c (.bool false))), (some 19), none, [], []⟩, ⟨(.mv (.t 19)), (some 10), none, [], []⟩], [], [], false⟩
def r_told_3 : Reg := ⟨[], [⟨(.mv (.t 3)), (some 21), none, [24], []⟩, ⟨(.iaddr 1 (.t 21) (.c (.int .i64 1))), (some 22), none, [24], []⟩, ⟨(.load 1 false (.t 22)), (some 23), none, [24], []⟩, ⟨(.callv (.c (.clo 69 [] [])) [(.t 23)]), (some 24), none, [], []⟩, ⟨(.mv (.t 24)), (some 20), none, [], []⟩, ⟨(.ext 0 (.t 20)), (some 25), none, [], []⟩, ⟨(.ext 1 (.t 20)), (some 26), none, [], []⟩, ⟨(.mv (.t 25)), (some 4), none, [], []⟩, ⟨(.mv (.t 26)), (some 5), none, [], []⟩], [24], [], false⟩
def r_told_4 : Reg := ⟨[], [⟨(.mv (.t 4)), (some 27), none, [], []⟩, ⟨(.faddr 0 (.t 2)), (some 28), none, [], []⟩, ⟨(.store 1 (.t 28) (.t 27)), none, none, [], []⟩], [], [], false⟩
def r_told_5 : Reg := ⟨[], [⟨(.mv (.t 3)), (some 30), none, [], []⟩, ⟨(.iaddr 1 (.t 30) (.c (.int .i64 0))), (some 31), none, [], []⟩, ⟨(.load 1 false (.t 31)), (some 32), none, [], []⟩, ⟨(.bin .eql (.t 32) (.c (.str ⟨#[104, 97, 115]⟩))), (some 33), none, [], []⟩, ⟨(.mv (.t 33)), (some 34), none, [], []⟩, ⟨(.mv (.t 3)), (some 35), (some (34, true)), [], []⟩, ⟨(.len false (.t 35)), (some 36), (some (34, true)), [], []⟩, ⟨(.bin .eql (.t 36) (.c (.int .i64 2))), (some 37), (some (34, true)), [], []⟩, ⟨(.pick (.t 34) (.t 37) (.c (.bool false))), (some 38), none, [], []⟩, ⟨(.mv (.t 38)), (some 29), none, [], []⟩], [], [], false⟩
def r_told_6 : Reg := ⟨[], [⟨(.faddr 1 (.t 2)), (some 39), none, [], []⟩, ⟨(.store 1 (.t 39) (.c (.bool true))), none, none, [], []⟩], [], [], false⟩
def r_told_7 : Reg := ⟨[], [⟨(.mv (.t 3)), (some 41), none, [44], []⟩, ⟨(.iaddr 1 (.t 41) (.c (.int .i64 1))), (some 42), none, [44], []⟩, ⟨(.load 1 false (.t 42)), (some 43), none, [44], []⟩, ⟨(.callv (.c (.clo 111 [] [])) [(.t 43)]), (some 44), none, [], []⟩, ⟨(.mv (.t 44)), (some 40), none, [], []⟩, ⟨(.ext 0 (.t 40)), (some 45), none, [], []⟩, ⟨(.ext 1 (.t 40)), (some 46), none, [], []⟩, ⟨(.faddr 2 (.t 2)), (some 47), none, [], []⟩, ⟨(.store 1 (.t 47) (.t 45)), none, none, [], []⟩], [44], [], false⟩
def r_told_8 : Reg := ⟨[], [⟨(.mv (.t 3)), (some 49), none, [], []⟩, ⟨(.iaddr 1 (.t 49) (.c (.int .i64 0))), (some 50), none, [], []⟩, ⟨(.load 1 false (.t 50)), (some 51), none, [], []⟩, ⟨(.bin .eql (.t 51) (.c (.str ⟨#[112, 97, 105, 114, 115]⟩))), (some 52), none, [], []⟩, ⟨(.mv (.t 52)), (some 53), none, [], []⟩, ⟨(.mv (.t 3)), (some 54), (some (53, true)), [], []⟩, ⟨(.len false (.t 54)), (some 55), (some (53, true)), [], []⟩, ⟨(.bin .gtr (.t 55) (.c (.int .i64 1))), (some 56), (some (53, true)), [], []⟩, ⟨(.pick (.t 53) (.t 56) (.c (.bool false))), (some 57), none, [], []⟩, ⟨(.mv (.t 57)), (some 48), none, [], []⟩], [], [], false⟩
def r_told_9 : Reg := ⟨[], [⟨(.mv (.t 3)), (some 58), none, [], []⟩, ⟨(.slc false 1 (.t 58) (some (.c (.int .i64 2))) none), (some 59), none, [], []⟩, ⟨(.len false (.t 59)), (some 60), none, [], []⟩, ⟨(.mv (.c (.int .i64 0))), (some 61), none, [], []⟩], [], [], false⟩
def r_told_10 : Reg := ⟨[], [⟨(.bin .lss (.t 61) (.t 60)), (some 62), none, [], []⟩], [], [], false⟩
def r_told_11 : Reg := ⟨[], [⟨(.iaddr 1 (.t 59) (.t 61)), (some 63), none, [], []⟩, ⟨(.load 1 false (.t 63)), (some 64), none, [], []⟩, ⟨(.mv (.t 64)), (some 7), none, [], []⟩], [], [], false⟩
def r_told_12 : Reg := ⟨[⟨(.faddr 3 (.t 2)), (some 65), none, [68, 69], []⟩, ⟨(.load 1 false (.t 65)), (some 66), none, [68, 69], []⟩, ⟨(.mv (.t 7)), (some 67), none, [68, 69], []⟩, ⟨(.callv (.c (.clo 112 [] [])) [(.t 67)]), (some 68), none, [69], []⟩, ⟨(.bsl 2 87 [(.t 68)]), (some 69), none, [], []⟩], [⟨(.append 2 87 32 (.t 66) (.t 69)), (some 70), none, [], []⟩, ⟨(.faddr 3 (.t 2)), (some 71), none, [], []⟩, ⟨(.store 1 (.t 71) (.t 70)), none, none, [], [2]⟩], [68, 69], [], true⟩
def r_told_13 : Reg := ⟨[], [⟨(.bin .add (.t 61) (.c (.int .i64 1))), (some 72), none, [], []⟩, ⟨(.mv (.t 72)), (some 61), none, [], []⟩], [], [], false⟩
def r_told_l14 : IR := (.seq (.reg r_told_10)
  (.seq (.cond (.t 62) .skip
  (.exit 1))
  (.seq (.block 2 (.seq (.reg r_told_11)
  (.reg r_told_12)))
  (.reg r_told_13))))
def r_told_15 : Reg := ⟨[], [⟨(.load 4 true (.t 2)), (some 73), none, [], []⟩, ⟨(.store 4 (.t 2) (.t 73)), none, none, [], []⟩], [], [], false⟩
def ir_told : IR := (.seq (.reg r_told_0)
  (.seq (.reg r_told_1)
  (.seq (.block 0 (.seq (.reg r_told_2)
  (.cond (.t 10) (.seq (.reg r_told_3)
  (.reg r_told_4))
  (.seq (.reg r_told_5)
  (.cond (.t 29) (.seq (.reg r_told_6)
  (.reg r_told_7))
  (.seq (.reg r_told_8)
  (.cond (.t 48) (.seq (.reg r_told_9)
  (.block 1 (.loop r_told_l14)))
  .skip)))))))
  (.seq (.reg r_told_15)
  .ret))))
def res_told : List RDesc := [(.cell 2 4 true)]
theorem e_told_0 (C : FuncId → List AV → AV → Prop) (σ : St) (K : St → Prop) : runReg C r_told_0 σ K = runOps C [⟨(.alloc 4 51 (.agg [(.int .i64 0), (.bool false), (.str ⟨#[]⟩), (.sl [])])), (some 2), none, [], []⟩] (σ.kills [2]) K := rfl
theorem e_told_1 (C : FuncId → List AV → AV → Prop) (σ : St) (K : St → Prop) : runReg C r_told_1 σ K = runOps C [⟨(.mv (.t 0)), (some 8), none, [9], []⟩, ⟨(.callv (.c (.clo 68 [] [])) [(.t 8)]), (some 9), none, [], []⟩, ⟨(.mv (.t 9)), (some 3), none, [], []⟩] (σ.kills [9]) K := rfl
theorem e_told_2 (C : FuncId → List AV → AV → Prop) (σ : St) (K : St → Prop) : runReg C r_told_2 σ K = runOps C [⟨(.mv (.t 3)), (some 11), none, [], []⟩, ⟨(.iaddr 1 (.t 11) (.c (.int .i64 0))), (some 12), none, [], []⟩, ⟨(.load 1 false (.t 12)), (some 13), none, [], []⟩, ⟨(.bin .eql (.t 13) (.c (.str ⟨#[101, 114, 114, 111, 114]⟩))), (some 14), none, [], []⟩, ⟨(.mv (.t 14)), (some 15), none, [], []⟩, ⟨(.mv (.t 3)), (some 16), (some (15, true)), [], []⟩, ⟨(.len false (.t 16)), (some 17), (some (15, true)), [], []⟩, ⟨(.bin .eql (.t 17) (.c (.int .i64 2))), (some 18), (some (15, true)), [], []⟩, ⟨(.pick (.t 15) (.t 18) (.c (.bool false))), (some 19), none, [], []⟩, ⟨(.mv (.t 19)), (some 10), none, [], []⟩] (σ.kills []) K := rfl
theorem e_told_3 (C : FuncId → List AV → AV → Prop) (σ : St) (K : St → Prop) : runReg C r_told_3 σ K = runOps C [⟨(.mv (.t 3)), (some 21), none, [24], []⟩, ⟨(.iaddr 1 (.t 21) (.c (.int .i64 1))), (some 22), none, [24], []⟩, ⟨(.load 1 false (.t 22)), (some 23), none, [24], []⟩, ⟨(.callv (.c (.clo 69 [] [])) [(.t 23)]), (some 24), none, [], []⟩, ⟨(.mv (.t 24)), (some 20), none, [], []⟩, ⟨(.ext 0 (.t 20)), (some 25), none, [], []⟩, ⟨(.ext 1 (.t 20)), (some 26), none, [], []⟩, ⟨(.mv (.t 25)), (some 4), none, [], []⟩, ⟨(.mv (.t 26)), (some 5), none, [], []⟩] (σ.kills [24]) K := rfl
theorem e_told_4 (C : FuncId → List AV → AV → Prop) (σ : St) (K : St → Prop) : runReg C r_told_4 σ K = runOps C [⟨(.mv (.t 4)), (some 27), none, [], []⟩, ⟨(.faddr 0 (.t 2)), (some 28), none, [], []⟩, ⟨(.store 1 (.t 28) (.t 27)), none, none, [], []⟩] (σ.kills []) K := rfl
theorem e_told_5 (C : FuncId → List AV → AV → Prop) (σ : St) (K : St → Prop) : runReg C r_told_5 σ K = runOps C [⟨(.mv (.t 3)), (some 30), none, [], []⟩, ⟨(.iaddr 1 (.t 30) (.c (.int .i64 0))), (some 31), none, [], []⟩, ⟨(.load 1 false (.t 31)), (some 32), none, [], []⟩, ⟨(.bin .eql (.t 32) (.c (.str ⟨#[104, 97, 115]⟩))), (some 33), none, [], []⟩, ⟨(.mv (.t 33)), (some 34), none, [], []⟩, ⟨(.mv (.t 3)), (some 35), (some (34, true)), [], []⟩, ⟨(.len false (.t 35)), (some 36), (some (34, true)), [], []⟩, ⟨(.bin .eql (.t 36) (.c (.int .i64 2))), (some 37), (some (34, true)), [], []⟩, ⟨(.pick (.t 34) (.t 37) (.c (.bool false))), (some 38), none, [], []⟩, ⟨(.mv (.t 38)), (some 29), none, [], []⟩] (σ.kills []) K := rfl
theorem e_told_6 (C : FuncId → List AV → AV → Prop) (σ : St) (K : St → Prop) : runReg C r_told_6 σ K = runOps C [⟨(.faddr 1 (.t 2)), (some 39), none, [], []⟩, ⟨(.store 1 (.t 39) (.c (.bool true))), none, none, [], []⟩] (σ.kills []) K := rfl
theorem e_told_7 (C : FuncId → List AV → AV → Prop) (σ : St) (K : St → Prop) : runReg C r_told_7 σ K = runOps C [⟨(.mv (.t 3)), (some 41), none, [44], []⟩, ⟨(.iaddr 1 (.t 41) (.c (.int .i64 1))), (some 42), none, [44], []⟩, ⟨(.load 1 false (.t 42)), (some 43), none, [44], []⟩, ⟨(.callv (.c (.clo 111 [] [])) [(.t 43)]), (some 44), none, [], []⟩, ⟨(.mv (.t 44)), (some 40), none, [], []⟩, ⟨(.ext 0 (.t 40)), (some 45), none, [], []⟩, ⟨(.ext 1 (.t 40)), (some 46), none, [], []⟩, ⟨(.faddr 2 (.t 2)), (some 47), none, [], []⟩, ⟨(.store 1 (.t 47) (.t 45)), none, none, [], []⟩] (σ.kills [44]) K := rfl
theorem e_told_8 (C : FuncId → List AV → AV → Prop) (σ : St) (K : St → Prop) : runReg C r_told_8 σ K = runOps C [⟨(.mv (.t 3)), (some 49), none, [], []⟩, ⟨(.iaddr 1 (.t 49) (.c (.int .i64 0))), (some 50), none, [], []⟩, ⟨(.load 1 false (.t 50)), (some 51), none, [], []⟩, ⟨(.bin .eql (.t 51) (.c (.str ⟨#[112, 97, 105, 114, 115]⟩))), (some 52), none, [], []⟩, ⟨(.mv (.t 52)), (some 53), none, [], []⟩, ⟨(.mv (.t 3)), (some 54), (some (53, true)), [], []⟩, ⟨(.len false (.t 54)), (some 55), (some (53, true)), [], []⟩, ⟨(.bin .gtr (.t 55) (.c (.int .i64 1))), (some 56), (some (53, true)), [], []⟩, ⟨(.pick (.t 53) (.t 56) (.c (.bool false))), (some 57), none, [], []⟩, ⟨(.mv (.t 57)), (some 48), none, [], []⟩] (σ.kills []) K := rfl
theorem e_told_9 (C : FuncId → List AV → AV → Prop) (σ : St) (K : St → Prop) : runReg C r_told_9 σ K = runOps C [⟨(.mv (.t 3)), (some 58), none, [], []⟩, ⟨(.slc false 1 (.t 58) (some (.c (.int .i64 2))) none), (some 59), none, [], []⟩, ⟨(.len false (.t 59)), (some 60), none, [], []⟩, ⟨(.mv (.c (.int .i64 0))), (some 61), none, [], []⟩] (σ.kills []) K := rfl
theorem e_told_10 (C : FuncId → List AV → AV → Prop) (σ : St) (K : St → Prop) : runReg C r_told_10 σ K = runOps C [⟨(.bin .lss (.t 61) (.t 60)), (some 62), none, [], []⟩] (σ.kills []) K := rfl
theorem e_told_11 (C : FuncId → List AV → AV → Prop) (σ : St) (K : St → Prop) : runReg C r_told_11 σ K = runOps C [⟨(.iaddr 1 (.t 59) (.t 61)), (some 63), none, [], []⟩, ⟨(.load 1 false (.t 63)), (some 64), none, [], []⟩, ⟨(.mv (.t 64)), (some 7), none, [], []⟩] (σ.kills []) K := rfl
theorem e_told_12 (C : FuncId → List AV → AV → Prop) (σ : St) (K : St → Prop) : runReg C r_told_12 σ K = runHead C [] [⟨(.append 2 87 32 (.t 66) (.t 69)), (some 70), none, [], []⟩, ⟨(.faddr 3 (.t 2)), (some 71), none, [], []⟩, ⟨(.store 1 (.t 71) (.t 70)), none, none, [], [2]⟩] [⟨(.faddr 3 (.t 2)), (some 65), none, [68, 69], []⟩, ⟨(.load 1 false (.t 65)), (some 66), none, [68, 69], []⟩, ⟨(.mv (.t 7)), (some 67), none, [68, 69], []⟩, ⟨(.callv (.c (.clo 112 [] [])) [(.t 67)]), (some 68), none, [69], []⟩, ⟨(.bsl 2 87 [(.t 68)]), (some 69), none, [], []⟩] (σ.kills [68, 69]) K := rfl
theorem e_told_13 (C : FuncId → List AV → AV → Prop) (σ : St) (K : St → Prop) : runReg C r_told_13 σ K = runOps C [⟨(.bin .add (.t 61) (.c (.int .i64 1))), (some 72), none, [], []⟩, ⟨(.mv (.t 72)), (some 61), none, [], []⟩] (σ.kills []) K := rfl
theorem e_told_15 (C : FuncId → List AV → AV → Prop) (σ : St) (K : St → Prop) : runReg C r_told_15 σ K = runOps C [⟨(.load 4 true (.t 2)), (some 73), none, [], []⟩, ⟨(.store 4 (.t 2) (.t 73)), none, none, [], []⟩] (σ.kills []) K := rfl
theorem fn_told {args : List AV} {r : AV} (ha : args.length.ble Tryd.f71.ntmps = true) (h : run (AFn Tryd.prog) ir_told (endQ res_told r) (initSt args)) : AFn Tryd.prog 71 args r :=
  AFn.of_code (hint := fun _ => []) (c := Tryd.f71.body.getD .skip) (by kernel_rfl) (by kernel_rfl) Tryd.func71 (by kernel_rfl) (by kernel_rfl) (by kernel_rfl) (of_decide_eq_true (by kernel_rfl)) (Nat.le_of_ble_eq_true ha) (Nat.le_of_ble_eq_true (by kernel_rfl)) (run_ok h)

/-! ### percolate/percolateref09.Same -/
def r_same9_0 : Reg := ⟨[], [⟨(.mv (.c (.bool false))), (some 4), none, [], []⟩], [], [], false⟩
def r_same9_1 : Reg := ⟨[], [⟨(.mv (.t 0)), (some 6), none, [], []⟩, ⟨(.len false (.t 6)), (some 7), none, [], []⟩, ⟨(.mv (.t 1)), (some 8), none, [], []⟩, ⟨(.len false (.t 8)), (some 9), none, [], []⟩, ⟨(.bin .neq (.t 7) (.t 9)), (some 10), none, [], []⟩], [], [], false⟩
def r_same9_2 : Reg := ⟨[], [⟨(.mv (.c (.bool false))), (some 4), none, [], []⟩], [], [], false⟩
def r_same9_3 : Reg := ⟨[], [⟨(.mv (.c (.int .i64 0))), (some 5), none, [], []⟩], [], [], false⟩
def r_same9_4 : Reg := ⟨[], [⟨(.mv (.t 5)), (some 11), none, [], []⟩, ⟨(.mv (.t 0)), (some 12), none, [], []⟩, ⟨(.len false (.t 12)), (some 13), none, [], []⟩, ⟨(.bin .lss (.t 11) (.t 13)), (some 14), none, [], []⟩], [], [], false⟩
def r_same9_5 : Reg := ⟨[⟨(.mv (.t 0)), (some 17), none, [], []⟩, ⟨(.mv (.t 5)), (some 18), none, [], []⟩, ⟨(.iaddr 2 (.t 17) (.t 18)), (some 19), none, [], []⟩, ⟨(.load 2 true (.t 19)), (some 20), none, [], []⟩, ⟨(.mv (.t 1)), (some 21), none, [], []⟩, ⟨(.mv (.t 5)), (some 22), none, [], []⟩, ⟨(.iaddr 2 (.t 21) (.t 22)), (some 23), none, [], []⟩, ⟨(.load 2 true (.t 23)), (some 24), none, [], []⟩], [⟨(.feq true [(0, 1), (1, 1)] (.t 20) (.t 24)), (some 25), none, [], []⟩], [], [], true⟩
def r_same9_6 : Reg := ⟨[], [⟨(.mv (.c (.bool false))), (some 4), none, [], []⟩], [], [], false⟩
def r_same9_7 : Reg := ⟨[], [⟨(.mv (.t 5)), (some 15), none, [], []⟩, ⟨(.bin .add (.t 15) (.c (.int .i64 1))), (some 16), none, [], []⟩, ⟨(.mv (.t 16)), (some 5), none, [], []⟩], [], [], false⟩
def r_same9_l8 : IR := (.seq (.seq (.reg r_same9_4)
  (.cond (.t 14) .skip
  (.exit 0)))
  (.seq (.block 1 (.seq (.reg r_same9_5)
  (.cond (.t 25) (.seq (.reg r_same9_6)
  .ret)
  .skip)))
  (.reg r_same9_7)))
def r_same9_9 : Reg := ⟨[], [⟨(.mv (.c (.bool true))), (some 4), none, [], []⟩], [], [], false⟩
def ir_same9 : IR := (.seq (.reg r_same9_0)
  (.seq (.seq (.reg r_same9_1)
  (.cond (.t 10) (.seq (.reg r_same9_2)
  .ret)
  .skip))
  (.seq (.seq (.reg r_same9_3)
  (.block 0 (.loop r_same9_l8)))
  (.seq (.reg r_same9_9)
  .ret))))
def res_same9 : List RDesc := [(.tmp 4)]
theorem e_same9_0 (C : FuncId → List AV → AV → Prop) (σ : St) (K : St → Prop) : runReg C r_same9_0 σ K = runOps C [⟨(.mv (.c (.bool false))), (some 4), none, [], []⟩] (σ.kills []) K := rfl
theorem e_same9_1 (C : FuncId → List AV → AV → Prop) (σ : St) (K : St → Prop) : runReg C r_same9_1 σ K = runOps C [⟨(.mv (.t 0)), (some 6), none, [], []⟩, ⟨(.len false (.t 6)), (some 7), none, [], []⟩, ⟨(.mv (.t 1)), (some 8), none, [], []⟩, ⟨(.len false (.t 8)), (some 9), none, [], []⟩, ⟨(.bin .neq (.t 7) (.t 9)), (some 10), none, [], []⟩] (σ.kills []) K := rfl
theorem e_same9_2 (C : FuncId → List AV → AV → Prop) (σ : St) (K : St → Prop) : runReg C r_same9_2 σ K = runOps C [⟨(.mv (.c (.bool false))), (some 4), none, [], []⟩] (σ.kills []) K := rfl
theorem e_same9_3 (C : FuncId → List AV → AV → Prop) (σ : St) (K : St → Prop) : runReg C r_same9_3 σ K = runOps C [⟨(.mv (.c (.int .i64 0))), (some 5), none, [], []⟩] (σ.kills []) K := rfl
theorem e_same9_4 (C : FuncId → List AV → AV → Prop) (σ : St) (K : St → Prop) : runReg C r_same9_4 σ K = runOps C [⟨(.mv (.t 5)), (some 11), none, [], []⟩, ⟨(.mv (.t 0)), (some 12), none, [], []⟩, ⟨(.len false (.t 12)), (some 13), none, [], []⟩, ⟨(.bin .lss (.t 11) (.t 13)), (some 14), none, [], []⟩] (σ.kills []) K := rfl
theorem e_same9_5 (C : FuncId → List AV → AV → Prop) (σ : St) (K : St → Prop) : runReg C r_same9_5 σ K = runHead C [] [⟨(.feq true [(0, 1), (1, 1)] (.t 20) (.t 24)), (some 25), none, [], []⟩] [⟨(.mv (.t 0)), (some 17), none, [], []⟩, ⟨(.mv (.t 5)), (some 18), none, [], []⟩, ⟨(.iaddr 2 (.t 17) (.t 18)), (some 19), none, [], []⟩, ⟨(.load 2 true (.t 19)), (some 20), none, [], []⟩, ⟨(.mv (.t 1)), (some 21), none, [], []⟩, ⟨(.mv (.t 5)), (some 22), none, [], []⟩, ⟨(.iaddr 2 (.t 21) (.t 22)), (some 23), none, [], []⟩, ⟨(.load 2 true (.t 23)), (some 24), none, [], []⟩] (σ.kills []) K := rfl
theorem e_same9_6 (C : FuncId → List AV → AV → Prop) (σ : St) (K : St → Prop) : runReg C r_same9_6 σ K = runOps C [⟨(.mv (.c (.bool false))), (some 4), none, [], []⟩] (σ.kills []) K := rfl
theorem e_same9_7 (C : FuncId → List AV → AV → Prop) (σ : St) (K : St → Prop) : runReg C r_same9_7 σ K = runOps C [⟨(.mv (.t 5)), (some 15), none, [], []⟩, ⟨(.bin .add (.t 15) (.c (.int .i64 1))), (some 16), none, [], []⟩, ⟨(.mv (.t 16)), (some 5), none, [], []⟩] (σ.kills []) K := rfl
theorem e_same9_9 (C : FuncId → List AV → AV → Prop) (σ : St) (K : St → Prop) : runReg C r_same9_9 σ K = runOps C [⟨(.mv (.c (.bool true))), (some 4), none, [], []⟩] (σ.kills []) K := rfl
theorem fn_same9 {args : List AV} {r : AV} (ha : args.length.ble Tryd.f116.ntmps = true) (h : run (AFn Tryd.prog) ir_same9 (endQ res_same9 r) (initSt args)) : AFn Tryd.prog 116 args r :=
  AFn.of_code (hint := fun _ => []) (c := Tryd.f116.body.getD .skip) (by kernel_rfl) (by kernel_rfl) Tryd.func116 (by kernel_rfl) (by kernel_rfl) (by kernel_rfl) (of_decide_eq_true (by kernel_rfl)) (Nat.le_of_ble_eq_true ha) (Nat.le_of_ble_eq_true (by kernel_rfl)) (run_ok h)

/-! ### percolate/percolateref10.Same -/
def r_same10_0 : Reg := ⟨[], [⟨(.box 4 51 (.t 0)), (some 2), none, [3], []⟩, ⟨(.box 4 51 (.t 1)), (some 3), none, [], []⟩, ⟨(.mv (.c (.bool false))), (some 4), none, [], []⟩], [2, 3], [], false⟩
def r_same10_1 : Reg := ⟨[], [⟨(.faddr 0 (.t 2)), (some 5), none, [29], []⟩, ⟨(.load 1 false (.t 5)), (some 6), none, [29], []⟩, ⟨(.faddr 0 (.t 3)), (some 7), none, [29], []⟩, ⟨(.load 1 false (.t 7)), (some 8), none, [29], []⟩, ⟨(.bin .eql (.t 6) (.t 8)), (some 9), none, [29], []⟩, ⟨(.mv (.t 9)), (some 10), none, [29], []⟩, ⟨(.faddr 1 (.t 2)), (some 11), (some (10, true)), [29], []⟩, ⟨(.load 1 false (.t 11)), (some 12), (some (10, true)), [29], []⟩, ⟨(.faddr 1 (.t 3)), (some 13), (some (10, true)), [29], []⟩, ⟨(.load 1 false (.t 13)), (some 14), (some (10, true)), [29], []⟩, ⟨(.beq false (.t 12) (.t 14)), (some 15), (some (10, true)), [29], []⟩, ⟨(.pick (.t 10) (.t 15) (.c (.bool false))), (some 16), none, [29], []⟩, ⟨(.mv (.t 16)), (some 17), none, [29], []⟩, ⟨(.faddr 2 (.t 2)), (some 18), (some (17, true)), [29], []⟩, ⟨(.load 1 false (.t 18)), (some 19), (some (17, true)), [29], []⟩, ⟨(.faddr 2 (.t 3)), (some 20), (some (17, true)), [29], []⟩, ⟨(.load 1 false (.t 20)), (some 21), (some (17, true)), [29], []⟩, ⟨(.bin .eql (.t 19) (.t 21)), (some 22), (some (17, true)), [29], []⟩, ⟨(.pick (.t 17) (.t 22) (.c (.bool false))), (some 23), none, [29], []⟩, ⟨(.mv (.t 23)), (some 24), none, [29], []⟩, ⟨(.faddr 3 (.t 2)), (some 25), (some (24, true)), [29], []⟩, ⟨(.load 1 false (.t 25)), (some 26), (some (24, true)), [29], []⟩, ⟨(.faddr 3 (.t 3)), (some 27), (some (24, true)), [29], []⟩, ⟨(.load 1 false (.t 27)), (some 28), (some (24, true)), [29], []⟩, ⟨(.callv (.c (.clo 116 [] [])) [(.t 26), (.t 28)]), (some 29), (some (24, true)), [], []⟩, ⟨(.pick (.t 24) (.t 29) (.c (.bool false))), (some 30), none, [], []⟩, ⟨(.mv (.t 30)), (some 4), none, [], []⟩], [29], [], false⟩
def ir_same10 : IR := (.seq (.reg r_same10_0)
  (.seq (.reg r_same10_1)
  .ret))
def res_same10 : List RDesc := [(.tmp 4)]
theorem e_same10_0 (C : FuncId → List AV → AV → Prop) (σ : St) (K : St → Prop) : runReg C r_same10_0 σ K = runOps C [⟨(.box 4 51 (.t 0)), (some 2), none, [3], []⟩, ⟨(.box 4 51 (.t 1)), (some 3), none, [], []⟩, ⟨(.mv (.c (.bool false))), (some 4), none, [], []⟩] (σ.kills [2, 3]) K := rfl
theorem e_same10_1 (C : FuncId → List AV → AV → Prop) (σ : St) (K : St → Prop) : runReg C r_same10_1 σ K = runOps C [⟨(.faddr 0 (.t 2)), (some 5), none, [29], []⟩, ⟨(.load 1 false (.t 5)), (some 6), none, [29], []⟩, ⟨(.faddr 0 (.t 3)), (some 7), none, [29], []⟩, ⟨(.load 1 false (.t 7)), (some 8), none, [29], []⟩, ⟨(.bin .eql (.t 6) (.t 8)), (some 9), none, [29], []⟩, ⟨(.mv (.t 9)), (some 10), none, [29], []⟩, ⟨(.faddr 1 (.t 2)), (some 11), (some (10, true)), [29], []⟩, ⟨(.load 1 false (.t 11)), (some 12), (some (10, true)), [29], []⟩, ⟨(.faddr 1 (.t 3)), (some 13), (some (10, true)), [29], []⟩, ⟨(.load 1 false (.t 13)), (some 14), (some (10, true)), [29], []⟩, ⟨(.beq false (.t 12) (.t 14)), (some 15), (some (10, true)), [29], []⟩, ⟨(.pick (.t 10) (.t 15) (.c (.bool false))), (some 16), none, [29], []⟩, ⟨(.mv (.t 16)), (some 17), none, [29], []⟩, ⟨(.faddr 2 (.t 2)), (some 18), (some (17, true)), [29], []⟩, ⟨(.load 1 false (.t 18)), (some 19), (some (17, true)), [29], []⟩, ⟨(.faddr 2 (.t 3)), (some 20), (some (17, true)), [29], []⟩, ⟨(.load 1 false (.t 20)), (some 21), (some (17, true)), [29], []⟩, ⟨(.bin .eql (.t 19) (.t 21)), (some 22), (some (17, true)), [29], []⟩, ⟨(.pick (.t 17) (.t 22) (.c (.bool false))), (some 23), none, [29], []⟩, ⟨(.mv (.t 23)), (some 24), none, [29], []⟩, ⟨(.faddr 3 (.t 2)), (some 25), (some (24, true)), [29], []⟩, ⟨(.load 1 false (.t 25)), (some 26), (some (24, true)), [29], []⟩, ⟨(.faddr 3 (.t 3)), (some 27), (some (24, true)), [29], []⟩, ⟨(.load 1 false (.t 27)), (some 28), (some (24, true)), [29], []⟩, ⟨(.callv (.c (.clo 116 [] [])) [(.t 26), (.t 28)]), (some 29), (some (24, true)), [], []⟩, ⟨(.pick (.t 24) (.t 29) (.c (.bool false))), (some 30), none, [], []⟩, ⟨(.mv (.t 30)), (some 4), none, [], []⟩] (σ.kills [29]) K := rfl
theorem fn_same10 {args : List AV} {r : AV} (ha : args.length.ble Tryd.f78.ntmps = true) (h : run (AFn Tryd.prog) ir_same10 (endQ res_same10 r) (initSt args)) : AFn Tryd.prog 78 args r :=
  AFn.of_code (hint := fun _ => []) (c := Tryd.f78.body.getD .skip) (by kernel_rfl) (by kernel_rfl) Tryd.func78 (by kernel_rfl) (by kernel_rfl) (by kernel_rfl) (of_decide_eq_true (by kernel_rfl)) (Nat.le_of_ble_eq_true ha) (Nat.le_of_ble_eq_true (by kernel_rfl)) (run_ok h)

/-! ### percolate/percolateref38.Same -/
def r_same38_0 : Reg := ⟨[], [⟨(.box 15 53 (.t 0)), (some 2), none, [3], []⟩, ⟨(.box 15 53 (.t 1)), (some 3), none, [], []⟩, ⟨(.mv (.c (.bool false))), (some 4), none, [], []⟩], [2, 3], [], false⟩
def r_same38_1 : Reg := ⟨[], [⟨(.faddr 0 (.t 2)), (some 5), none, [22], []⟩, ⟨(.load 1 false (.t 5)), (some 6), none, [22], []⟩, ⟨(.faddr 0 (.t 3)), (some 7), none, [22], []⟩, ⟨(.load 1 false (.t 7)), (some 8), none, [22], []⟩, ⟨(.bin .eql (.t 6) (.t 8)), (some 9), none, [22], []⟩, ⟨(.mv (.t 9)), (some 10), none, [22], []⟩, ⟨(.faddr 1 (.t 2)), (some 11), (some (10, true)), [22], []⟩, ⟨(.load 6 true (.t 11)), (some 12), (some (10, true)), [22], []⟩, ⟨(.faddr 1 (.t 3)), (some 13), (some (10, true)), [22], []⟩, ⟨(.load 6 true (.t 13)), (some 14), (some (10, true)), [22], []⟩, ⟨(.feq false [(0, 0), (1, 1), (2, 1), (3, 2), (4, 1), (5, 0)] (.t 12) (.t 14)), (some 15), (some (10, true)), [22], []⟩, ⟨(.pick (.t 10) (.t 15) (.c (.bool false))), (some 16), none, [22], []⟩, ⟨(.mv (.t 16)), (some 17), none, [22], []⟩, ⟨(.faddr 7 (.t 2)), (some 18), (some (17, true)), [22], []⟩, ⟨(.load 4 true (.t 18)), (some 19), (some (17, true)), [22], []⟩, ⟨(.faddr 7 (.t 3)), (some 20), (some (17, true)), [22], []⟩, ⟨(.load 4 true (.t 20)), (some 21), (some (17, true)), [22], []⟩, ⟨(.callv (.c (.clo 78 [] [])) [(.t 19), (.t 21)]), (some 22), (some (17, true)), [], []⟩, ⟨(.pick (.t 17) (.t 22) (.c (.bool false))), (some 23), none, [], []⟩, ⟨(.mv (.t 23)), (some 24), none, [], []⟩, ⟨(.faddr 11 (.t 2)), (some 25), (some (24, true)), [], []⟩, ⟨(.load 1 false (.t 25)), (some 26), (some (24, true)), [], []⟩, ⟨(.faddr 11 (.t 3)), (some 27), (some (24, true)), [], []⟩, ⟨(.load 1 false (.t 27)), (some 28), (some (24, true)), [], []⟩, ⟨(.bin .eql (.t 26) (.t 28)), (some 29), (some (24, true)), [], []⟩, ⟨(.pick (.t 24) (.t 29) (.c (.bool false))), (some 30), none, [], []⟩, ⟨(.mv (.t 30)), (some 31), none, [], []⟩, ⟨(.faddr 12 (.t 2)), (some 32), (some (31, true)), [], []⟩, ⟨(.load 1 false (.t 32)), (some 33), (some (31, true)), [], []⟩, ⟨(.faddr 12 (.t 3)), (some 34), (some (31, true)), [], []⟩, ⟨(.load 1 false (.t 34)), (some 35), (some (31, true)), [], []⟩, ⟨(.bin .eql (.t 33) (.t 35)), (some 36), (some (31, true)), [], []⟩, ⟨(.pick (.t 31) (.t 36) (.c (.bool false))), (some 37), none, [], []⟩, ⟨(.mv (.t 37)), (some 38), none, [], []⟩, ⟨(.faddr 13 (.t 2)), (some 39), (some (38, true)), [], []⟩, ⟨(.load 1 false (.t 39)), (some 40), (some (38, true)), [], []⟩, ⟨(.faddr 13 (.t 3)), (some 41), (some (38, true)), [], []⟩, ⟨(.load 1 false (.t 41)), (some 42), (some (38, true)), [], []⟩, ⟨(.bin .eql (.t 40) (.t 42)), (some 43), (some (38, true)), [], []⟩, ⟨(.pick (.t 38) (.t 43) (.c (.bool false))), (some 44), none, [], []⟩, ⟨(.mv (.t 44)), (some 45), none, [], []⟩, ⟨(.faddr 14 (.t 2)), (some 46), (some (45, true)), [], []⟩, ⟨(.load 1 false (.t 46)), (some 47), (some (45, true)), [], []⟩, ⟨(.faddr 14 (.t 3)), (some 48), (some (45, true)), [], []⟩, ⟨(.load 1 false (.t 48)), (some 49), (some (45, true)), [], []⟩, ⟨(.beq false (.t 47) (.t 49)), (some 50), (some (45, true)), [], []⟩, ⟨(.pick (.t 45) (.t 50) (.c (.bool false))), (some 51), none, [], []⟩, ⟨(.mv (.t 51)), (some 4), none, [], []⟩], [22], [], false⟩
def ir_same38 : IR := (.seq (.reg r_same38_0)
  (.seq (.reg r_same38_1)
  .ret))
def res_same38 : List RDesc := [(.tmp 4)]
theorem e_same38_0 (C : FuncId → List AV → AV → Prop) (σ : St) (K : St → Prop) : runReg C r_same38_0 σ K = runOps C [⟨(.box 15 53 (.t 0)), (some 2), none, [3], []⟩, ⟨(.box 15 53 (.t 1)), (some 3), none, [], []⟩, ⟨(.mv (.c (.bool false))), (some 4), none, [], []⟩] (σ.kills [2, 3]) K := rfl
theorem e_same38_1 (C : FuncId → List AV → AV → Prop) (σ : St) (K : St → Prop) : runReg C r_same38_1 σ K = runOps C [⟨(.faddr 0 (.t 2)), (some 5), none, [22], []⟩, ⟨(.load 1 false (.t 5)), (some 6), none, [22], []⟩, ⟨(.faddr 0 (.t 3)), (some 7), none, [22], []⟩, ⟨(.load 1 false (.t 7)), (some 8), none, [22], []⟩, ⟨(.bin .eql (.t 6) (.t 8)), (some 9), none, [22], []⟩, ⟨(.mv (.t 9)), (some 10), none, [22], []⟩, ⟨(.faddr 1 (.t 2)), (some 11), (some (10, true)), [22], []⟩, ⟨(.load 6 true (.t 11)), (some 12), (some (10, true)), [22], []⟩, ⟨(.faddr 1 (.t 3)), (some 13), (some (10, true)), [22], []⟩, ⟨(.load 6 true (.t 13)), (some 14), (some (10, true)), [22], []⟩, ⟨(.feq false [(0, 0), (1, 1), (2, 1), (3, 2), (4, 1), (5, 0)] (.t 12) (.t 14)), (some 15), (some (10, true)), [22], []⟩, ⟨(.pick (.t 10) (.t 15) (.c (.bool false))), (some 16), none, [22], []⟩, ⟨(.mv (.t 16)), (some 17), none, [22], []⟩, ⟨(.faddr 7 (.t 2)), (some 18), (some (17, true)), [22], []⟩, ⟨(.load 4 true (.t 18)), (some 19), (some (17, true)), [22], []⟩, ⟨(.faddr 7 (.t 3)), (some 20), (some (17, true)), [22], []⟩, ⟨(.load 4 true (.t 20)), (some 21), (some (17, true)), [22], []⟩, ⟨(.callv (.c (.clo 78 [] [])) [(.t 19), (.t 21)]), (some 22), (some (17, true)), [], []⟩, ⟨(.pick (.t 17) (.t 22) (.c (.bool false))), (some 23), none, [], []⟩, ⟨(.mv (.t 23)), (some 24), none, [], []⟩, ⟨(.faddr 11 (.t 2)), (some 25), (some (24, true)), [], []⟩, ⟨(.load 1 false (.t 25)), (some 26), (some (24, true)), [], []⟩, ⟨(.faddr 11 (.t 3)), (some 27), (some (24, true)), [], []⟩, ⟨(.load 1 false (.t 27)), (some 28), (some (24, true)), [], []⟩, ⟨(.bin .eql (.t 26) (.t 28)), (some 29), (some (24, true)), [], []⟩, ⟨(.pick (.t 24) (.t 29) (.c (.bool false))), (some 30), none, [], []⟩, ⟨(.mv (.t 30)), (some 31), none, [], []⟩, ⟨(.faddr 12 (.t 2)), (some 32), (some (31, true)), [], []⟩, ⟨(.load 1 false (.t 32)), (some 33), (some (31, true)), [], []⟩, ⟨(.faddr 12 (.t 3)), (some 34), (some (31, true)), [], []⟩, ⟨(.load 1 false (.t 34)), (some 35), (some (31, true)), [], []⟩, ⟨(.bin .eql (.t 33) (.t 35)), (some 36), (some (31, true)), [], []⟩, ⟨(.pick (.t 31) (.t 36) (.c (.bool false))), (some 37), none, [], []⟩, ⟨(.mv (.t 37)), (some 38), none, [], []⟩, ⟨(.faddr 13 (.t 2)), (some 39), (some (38, true)), [], []⟩, ⟨(.load 1 false (.t 39)), (some 40), (some (38, true)), [], []⟩, ⟨(.faddr 13 (.t 3)), (some 41), (some (38, true)), [], []⟩, ⟨(.load 1 false (.t 41)), (some 42), (some (38, true)), [], []⟩, ⟨(.bin .eql (.t 40) (.t 42)), (some 43), (some (38, true)), [], []⟩, ⟨(.pick (.t 38) (.t 43) (.c (.bool false))), (some 44), none, [], []⟩, ⟨(.mv (.t 44)), (some 45), none, [], []⟩, ⟨(.faddr 14 (.t 2)), (some 46), (some (45, true)), [], []⟩, ⟨(.load 1 false (.t 46)), (some 47), (some (45, true)), [], []⟩, ⟨(.faddr 14 (.t 3)), (some 48), (some (45, true)), [], []⟩, ⟨(.load 1 false (.t 48)), (some 49), (some (45, true)), [], []⟩, ⟨(.beq false (.t 47) (.t 49)), (some 50), (some (45, true)), [], []⟩, ⟨(.pick (.t 45) (.t 50) (.c (.bool false))), (some 51), none, [], []⟩, ⟨(.mv (.t 51)), (some 4), none, [], []⟩] (σ.kills [22]) K := rfl
theorem fn_same38 {args : List AV} {r : AV} (ha : args.length.ble Tryd.f30.ntmps = true) (h : run (AFn Tryd.prog) ir_same38 (endQ res_same38 r) (initSt args)) : AFn Tryd.prog 30 args r :=
  AFn.of_code (hint := fun _ => []) (c := Tryd.f30.body.getD .skip) (by kernel_rfl) (by kernel_rfl) Tryd.func30 (by kernel_rfl) (by kernel_rfl) (by kernel_rfl) (of_decide_eq_true (by kernel_rfl)) (Nat.le_of_ble_eq_true ha) (Nat.le_of_ble_eq_true (by kernel_rfl)) (run_ok h)

/-! ### percolate/model.Right -/
def r_mRight_0 : Reg := ⟨[], [⟨(.mv (.c (.bool false))), (some 2), none, [], []⟩], [], [], false⟩
def r_mRight_1 : Reg := ⟨[], [⟨(.mv (.t 0)), (some 5), none, [], []⟩, ⟨(.len false (.t 5)), (some 6), none, [], []⟩, ⟨(.mv (.c (.int .i64 0))), (some 7), none, [], []⟩], [], [], false⟩
def r_mRight_2 : Reg := ⟨[], [⟨(.bin .lss (.t 7) (.t 6)), (some 8), none, [], []⟩], [], [], false⟩
def r_mRight_3 : Reg := ⟨[], [⟨(.mv (.t 7)), (some 9), none, [4], []⟩, ⟨(.iaddr 2 (.t 5) (.t 7)), (some 10), none, [4], []⟩, ⟨(.load 2 true (.t 10)), (some 11), none, [4], []⟩, ⟨(.alloc 2 87 (.agg [(.str ⟨#[]⟩), (.str ⟨#[]⟩)])), (some 4), none, [], []⟩, ⟨(.mv (.t 9)), (some 3), none, [], []⟩, ⟨(.store 2 (.t 4) (.t 11)), none, none, [], []⟩], [4], [], false⟩
def r_mRight_4 : Reg := ⟨[⟨(.faddr 0 (.t 4)), (some 12), none, [14, 19], []⟩, ⟨(.load 1 false (.t 12)), (some 13), none, [14, 19], []⟩, ⟨(.callv (.c (.clo 113 [] [])) [(.t 13)]), (some 14), none, [19], []⟩, ⟨(.un .not (.t 14)), (some 15), none, [19], []⟩, ⟨(.mv (.t 15)), (some 16), none, [19], []⟩, ⟨(.faddr 1 (.t 4)), (some 17), (some (16, false)), [19], []⟩, ⟨(.load 1 false (.t 17)), (some 18), (some (16, false)), [19], []⟩, ⟨(.callv (.c (.clo 73 [] [])) [(.t 18)]), (some 19), (some (16, false)), [], []⟩, ⟨(.un .not (.t 19)), (some 20), (some (16, false)), [], []⟩, ⟨(.pick (.t 16) (.c (.bool true)) (.t 20)), (some 21), none, [], []⟩, ⟨(.mv (.t 21)), (some 22), none, [], []⟩, ⟨(.mv (.t 3)), (some 23), (some (22, false)), [], []⟩, ⟨(.bin .gtr (.t 23) (.c (.int .i64 0))), (some 24), (some (22, false)), [], []⟩, ⟨(.mv (.t 24)), (some 25), (some (22, false)), [], []⟩, ⟨(.mv (.t 0)), (some 26), (some (25, true)), [], []⟩, ⟨(.mv (.t 3)), (some 27), (some (25, true)), [], []⟩, ⟨(.bin .sub (.t 27) (.c (.int .i64 1))), (some 28), (some (25, true)), [], []⟩, ⟨(.iaddr 2 (.t 26) (.t 28)), (some 29), (some (25, true)), [], []⟩, ⟨(.faddr 0 (.t 29)), (some 30), (some (25, true)), [], []⟩, ⟨(.load 1 false (.t 30)), (some 31), (some (25, true)), [], []⟩, ⟨(.faddr 0 (.t 4)), (some 32), (some (25, true)), [], []⟩, ⟨(.load 1 false (.t 32)), (some 33), (some (25, true)), [], []⟩], [⟨(.bin .geq (.t 31) (.t 33)), (some 34), (some (25, true)), [], []⟩, ⟨(.pick (.t 25) (.t 34) (.c (.bool false))), (some 35), (some (22, false)), [], []⟩, ⟨(.pick (.t 22) (.c (.bool true)) (.t 35)), (some 36), none, [], []⟩], [14, 19], [], true⟩
def r_mRight_5 : Reg := ⟨[], [⟨(.mv (.c (.bool false))), (some 2), none, [], []⟩], [], [], false⟩
def r_mRight_6 : Reg := ⟨[], [⟨(.bin .add (.t 7) (.c (.int .i64 1))), (some 37), none, [], []⟩, ⟨(.mv (.t 37)), (some 7), none, [], []⟩], [], [], false⟩
def r_mRight_l7 : IR := (.seq (.reg r_mRight_2)
  (.seq (.cond (.t 8) .skip
  (.exit 0))
  (.seq (.block 1 (.seq (.reg r_mRight_3)
  (.seq (.reg r_mRight_4)
  (.cond (.t 36) (.seq (.reg r_mRight_5)
  .ret)
  .skip))))
  (.reg r_mRight_6))))
def r_mRight_8 : Reg := ⟨[], [⟨(.mv (.c (.bool true))), (some 2), none, [], []⟩], [], [], false⟩
def ir_mRight : IR := (.seq (.reg r_mRight_0)
  (.seq (.seq (.reg r_mRight_1)
  (.block 0 (.loop r_mRight_l7)))
  (.seq (.reg r_mRight_8)
  .ret)))
def res_mRight : List RDesc := [(.tmp 2)]
theorem e_mRight_0 (C : FuncId → List AV → AV → Prop) (σ : St) (K : St → Prop) : runReg C r_mRight_0 σ K = runOps C [⟨(.mv (.c (.bool false))), (some 2), none, [], []⟩] (σ.kills []) K := rfl
theorem e_mRight_1 (C : FuncId → List AV → AV → Prop) (σ : St) (K : St → Prop) : runReg C r_mRight_1 σ K = runOps C [⟨(.mv (.t 0)), (some 5), none, [], []⟩, ⟨(.len false (.t 5)), (some 6), none, [], []⟩, ⟨(.mv (.c (.int .i64 0))), (some 7), none, [], []⟩] (σ.kills []) K := rfl
theorem e_mRight_2 (C : FuncId → List AV → AV → Prop) (σ : St) (K : St → Prop) : runReg C r_mRight_2 σ K = runOps C [⟨(.bin .lss (.t 7) (.t 6)), (some 8), none, [], []⟩] (σ.kills []) K := rfl
theorem e_mRight_3 (C : FuncId → List AV → AV → Prop) (σ : St) (K : St → Prop) : runReg C r_mRight_3 σ K = runOps C [⟨(.mv (.t 7)), (some 9), none, [4], []⟩, ⟨(.iaddr 2 (.t 5) (.t 7)), (some 10), none, [4], []⟩, ⟨(.load 2 true (.t 10)), (some 11), none, [4], []⟩, ⟨(.alloc 2 87 (.agg [(.str ⟨#[]⟩), (.str ⟨#[]⟩)])), (some 4), none, [], []⟩, ⟨(.mv (.t 9)), (some 3), none, [], []⟩, ⟨(.store 2 (.t 4) (.t 11)), none, none, [], []⟩] (σ.kills [4]) K := rfl
theorem e_mRight_4 (C : FuncId → List AV → AV → Prop) (σ : St) (K : St → Prop) : runReg C r_mRight_4 σ K = runHead C [] [⟨(.bin .geq (.t 31) (.t 33)), (some 34), (some (25, true)), [], []⟩, ⟨(.pick (.t 25) (.t 34) (.c (.bool false))), (some 35), (some (22, false)), [], []⟩, ⟨(.pick (.t 22) (.c (.bool true)) (.t 35)), (some 36), none, [], []⟩] [⟨(.faddr 0 (.t 4)), (some 12), none, [14, 19], []⟩, ⟨(.load 1 false (.t 12)), (some 13), none, [14, 19], []⟩, ⟨(.callv (.c (.clo 113 [] [])) [(.t 13)]), (some 14), none, [19], []⟩, ⟨(.un .not (.t 14)), (some 15), none, [19], []⟩, ⟨(.mv (.t 15)), (some 16), none, [19], []⟩, ⟨(.faddr 1 (.t 4)), (some 17), (some (16, false)), [19], []⟩, ⟨(.load 1 false (.t 17)), (some 18), (some (16, false)), [19], []⟩, ⟨(.callv (.c (.clo 73 [] [])) [(.t 18)]), (some 19), (some (16, false)), [], []⟩, ⟨(.un .not (.t 19)), (some 20), (some (16, false)), [], []⟩, ⟨(.pick (.t 16) (.c (.bool true)) (.t 20)), (some 21), none, [], []⟩, ⟨(.mv (.t 21)), (some 22), none, [], []⟩, ⟨(.mv (.t 3)), (some 23), (some (22, false)), [], []⟩, ⟨(.bin .gtr (.t 23) (.c (.int .i64 0))), (some 24), (some (22, false)), [], []⟩, ⟨(.mv (.t 24)), (some 25), (some (22, false)), [], []⟩, ⟨(.mv (.t 0)), (some 26), (some (25, true)), [], []⟩, ⟨(.mv (.t 3)), (some 27), (some (25, true)), [], []⟩, ⟨(.bin .sub (.t 27) (.c (.int .i64 1))), (some 28), (some (25, true)), [], []⟩, ⟨(.iaddr 2 (.t 26) (.t 28)), (some 29), (some (25, true)), [], []⟩, ⟨(.faddr 0 (.t 29)), (some 30), (some (25, true)), [], []⟩, ⟨(.load 1 false (.t 30)), (some 31), (some (25, true)), [], []⟩, ⟨(.faddr 0 (.t 4)), (some 32), (some (25, true)), [], []⟩, ⟨(.load 1 false (.t 32)), (some 33), (some (25, true)), [], []⟩] (σ.kills [14, 19]) K := rfl
theorem e_mRight_5 (C : FuncId → List AV → AV → Prop) (σ : St) (K : St → Prop) : runReg C r_mRight_5 σ K = runOps C [⟨(.mv (.c (.bool false))), (some 2), none, [], []⟩] (σ.kills []) K := rfl
theorem e_mRight_6 (C : FuncId → List AV → AV → Prop) (σ : St) (K : St → Prop) : runReg C r_mRight_6 σ K = runOps C [⟨(.bin .add (.t 7) (.c (.int .i64 1))), (some 37), none, [], []⟩, ⟨(.mv (.t 37)), (some 7), none, [], []⟩] (σ.kills []) K := rfl
theorem e_mRight_8 (C : FuncId → List AV → AV → Prop) (σ : St) (K : St → Prop) : runReg C r_mRight_8 σ K = runOps C [⟨(.mv (.c (.bool true))), (some 2), none, [], []⟩] (σ.kills []) K := rfl
theorem fn_mRight {args : List AV} {r : AV} (ha : args.length.ble Tryd.f72.ntmps = true) (h : run (AFn Tryd.prog) ir_mRight (endQ res_mRight r) (initSt args)) : AFn Tryd.prog 72 args r :=
  AFn.of_code (hint := fun _ => []) (c := Tryd.f72.body.getD .skip) (by kernel_rfl) (by kernel_rfl) Tryd.func72 (by kernel_rfl) (by kernel_rfl) (by kernel_rfl) (of_decide_eq_true (by kernel_rfl)) (Nat.le_of_ble_eq_true ha) (Nat.le_of_ble_eq_true (by kernel_rfl)) (run_ok h)

attribute [local go_sem ↓] ir_yes
attribute [local go_sem] res_yes e_yes_0 e_yes_1 e_yes_2 e_yes_3
attribute [local go_sem ↓] ir_aLine
attribute [local go_sem] res_aLine e_aLine_0 e_aLine_1 e_aLine_2 e_aLine_3 e_aLine_4 e_aLine_5 e_aLine_6 e_aLine_7 e_aLine_8 e_aLine_9 e_aLine_10 e_aLine_11 e_aLine_12 e_aLine_13 e_aLine_15 e_aLine_16
attribute [local go_sem ↓] ir_tEvent
attribute [local go_sem] res_tEvent e_tEvent_0 e_tEvent_1 e_tEvent_2 e_tEvent_3 e_tEvent_4
attribute [local go_sem ↓] ir_told
attribute [local go_sem] res_told e_told_0 e_told_1 e_told_2 e_told_3 e_told_4 e_told_5 e_told_6 e_told_7 e_told_8 e_told_9 e_told_10 e_told_11 e_told_12 e_told_13 e_told_15
attribute [local go_sem ↓] ir_same9
attribute [local go_sem] res_same9 e_same9_0 e_same9_1 e_same9_2 e_same9_3 e_same9_4 e_same9_5 e_same9_6 e_same9_7 e_same9_9
attribute [local go_sem ↓] ir_same10
attribute [local go_sem] res_same10 e_same10_0 e_same10_1
attribute [local go_sem ↓] ir_same38
attribute [local go_sem] res_same38 e_same38_0 e_same38_1
attribute [local go_sem ↓] ir_mRight
attribute [local go_sem] res_mRight e_mRight_0 e_mRight_1 e_mRight_2 e_mRight_3 e_mRight_4 e_mRight_5 e_mRight_6 e_mRight_8

theorem yes_ok : AFn Tryd.prog 65 [.bool true] (.str (⟨#[121, 101, 115]⟩ : ByteArray)) := by
  refine fn_yes rfl ?_
  simp (maxSteps := 4000000) only [go_sem, ↓reduceIte, reduceCtorEq, Nat.reduceEqDiff, Nat.reduceBEq, Nat.reduceAdd, Nat.reduceSub, Nat.reduceMul, Nat.reduceLT, Nat.reduceLeDiff, Nat.reduceBNe, Int.reduceBEq, Int.reduceBNe, Int.reduceLT, Int.reduceLE, Msg.a, Par.a, Nd.a, Opr.a, nul]
theorem aLine_put : AFn Tryd.prog 63 [opA.a, ansZ] (.str (⟨#[111, 107]⟩ : ByteArray)) := by
  refine fn_aLine rfl ?_
  simp (maxSteps := 4000000) only [go_sem, ↓reduceIte, reduceCtorEq, Nat.reduceEqDiff, Nat.reduceBEq, Nat.reduceAdd, Nat.reduceSub, Nat.reduceMul, Nat.reduceLT, Nat.reduceLeDiff, Nat.reduceBNe, Int.reduceBEq, Int.reduceBNe, Int.reduceLT, Int.reduceLE, Msg.a, Par.a, Nd.a, Opr.a, nul, opA, ansZ]
theorem opA_right : opA.right = true := by decide +kernel
theorem opA_line : lineX opA = (⟨#[112, 117, 116, 32, 97, 32, 49]⟩ : ByteArray) := by
  unfold lineX lineO
  rw [if_pos opA_right]
  decide +kernel
theorem d0 : decS 0 = (⟨#[48]⟩ : ByteArray) := dec1 0 (by omega)
theorem d1 : decS 1 = (⟨#[49]⟩ : ByteArray) := dec1 1 (by omega)
theorem d2 : decS 2 = (⟨#[50]⟩ : ByteArray) := dec1 2 (by omega)
theorem d3 : decS 3 = (⟨#[51]⟩ : ByteArray) := dec1 3 (by omega)
theorem tEvent_a : AFn Tryd.prog 26 [evtA] (.str (⟨#[48, 32, 49, 32, 51, 32, 51, 32, 121, 101, 115, 32, 58, 32, 112, 117, 116, 32, 97, 32, 49, 32, 58, 32, 111, 107]⟩ : ByteArray)) := by
  refine fn_tEvent rfl ?_
  have c0 := dec_ok 0 ⟨by omega, by omega⟩
  have c1 := dec_ok 1 ⟨by omega, by omega⟩
  have c3 := dec_ok 3 ⟨by omega, by omega⟩
  rw [d0] at c0
  rw [d1] at c1
  rw [d3] at c3
  have cl := oLineX opA (by decide)
  rw [opA_line] at cl
  have ca := aLine_put
  have cj := tLine_ok [(⟨#[48]⟩ : ByteArray), (⟨#[49]⟩ : ByteArray), (⟨#[51]⟩ : ByteArray), (⟨#[51]⟩ : ByteArray), (⟨#[121, 101, 115]⟩ : ByteArray), (⟨#[58]⟩ : ByteArray), (⟨#[112, 117, 116, 32, 97, 32, 49]⟩ : ByteArray), (⟨#[58]⟩ : ByteArray), (⟨#[111, 107]⟩ : ByteArray)] 100 (by decide) (by decide) (by
    intro x hx
    simp only [List.mem_cons, List.not_mem_nil, or_false] at hx
    rcases hx with rfl | rfl | rfl | rfl | rfl | rfl | rfl | rfl | rfl <;> decide)
  rw [show joinB [(⟨#[48]⟩ : ByteArray), (⟨#[49]⟩ : ByteArray), (⟨#[51]⟩ : ByteArray), (⟨#[51]⟩ : ByteArray), (⟨#[121, 101, 115]⟩ : ByteArray), (⟨#[58]⟩ : ByteArray), (⟨#[112, 117, 116, 32, 97, 32, 49]⟩ : ByteArray), (⟨#[58]⟩ : ByteArray), (⟨#[111, 107]⟩ : ByteArray)] (⟨#[32]⟩ : ByteArray) = (⟨#[48, 32, 49, 32, 51, 32, 51, 32, 121, 101, 115, 32, 58, 32, 112, 117, 116, 32, 97, 32, 49, 32, 58, 32, 111, 107]⟩ : ByteArray) by decide +kernel] at cj
  simp only [opA, Opr.a, ansZ] at cl ca
  (repeat (first | simp (maxSteps := 4000000) only [go_sem, ↓reduceIte, reduceCtorEq, Nat.reduceEqDiff, Nat.reduceBEq, Nat.reduceAdd, Nat.reduceSub, Nat.reduceMul, Nat.reduceLT, Nat.reduceLeDiff, Nat.reduceBNe, Int.reduceBEq, Int.reduceBNe, Int.reduceLT, Int.reduceLE, Msg.a, Par.a, Nd.a, Opr.a, nul, evtA] | refine calling (ca) ?_ | refine callingH (ca) ?_ | refine calling (c0) ?_ | refine callingH (c0) ?_ | refine calling (c1) ?_ | refine callingH (c1) ?_ | refine calling (c3) ?_ | refine callingH (c3) ?_ | refine calling (yes_ok) ?_ | refine callingH (yes_ok) ?_ | refine calling (cl) ?_ | refine callingH (cl) ?_ | refine calling (cj) ?_ | refine callingH (cj) ?_ | refine And.intro (by omega) ?_ | refine And.intro (fun d hd => by (repeat (rcases hd with rfl | hd; · exact ⟨rfl, rfl⟩)); cases hd) ?_))
theorem told_a : AFn Tryd.prog 71 [.str (⟨#[111, 107]⟩ : ByteArray)] ansZ := by
  refine fn_told rfl ?_
  have hw : (splitL (⟨#[111, 107]⟩ : ByteArray) ⟨#[32]⟩).map AV.str = [AV.str (⟨#[111, 107]⟩ : ByteArray)] := by rw [splitL_wl]; rfl
  have hl : (splitL (⟨#[111, 107]⟩ : ByteArray) ⟨#[32]⟩).length = 1 := by
    have := congrArg List.length hw
    simpa using this
  have c0 := words_ok (⟨#[111, 107]⟩ : ByteArray) (by decide) (by rw [hl]; decide)
  rw [hw] at c0
  have tn : Int.toNat 0 = 0 := rfl
  have l1 : ((1 : Nat) : Int) = 1 := rfl
  have b1 : ((⟨#[111, 107]⟩ : ByteArray).toList == (⟨#[101, 114, 114, 111, 114]⟩ : ByteArray).toList) = false := by decide +kernel
  have b2 : ((⟨#[111, 107]⟩ : ByteArray).toList == (⟨#[104, 97, 115]⟩ : ByteArray).toList) = false := by decide +kernel
  have b3 : ((⟨#[111, 107]⟩ : ByteArray).toList == (⟨#[112, 97, 105, 114, 115]⟩ : ByteArray).toList) = false := by decide +kernel
  (repeat (first | simp (maxSteps := 4000000) only [go_sem, ↓reduceIte, reduceCtorEq, Nat.reduceEqDiff, Nat.reduceBEq, Nat.reduceAdd, Nat.reduceSub, Nat.reduceMul, Nat.reduceLT, Nat.reduceLeDiff, Nat.reduceBNe, Int.reduceBEq, Int.reduceBNe, Int.reduceLT, Int.reduceLE, Msg.a, Par.a, Nd.a, Opr.a, nul, ansZ, tn, l1, b1, b2, b3, List.take_succ_cons, List.take_zero, List.take_nil] | refine calling (c0) ?_ | refine callingH (c0) ?_ | refine And.intro (by omega) ?_ | refine And.intro (fun d hd => by (repeat (rcases hd with rfl | hd; · exact ⟨rfl, rfl⟩)); cases hd) ?_))
theorem same9_a : AFn Tryd.prog 116 [.sl [], .sl []] (.bool true) := by
  refine fn_same9 rfl ?_
  simp (maxSteps := 4000000) only [go_sem, ↓reduceIte, reduceCtorEq, Nat.reduceEqDiff, Nat.reduceBEq, Nat.reduceAdd, Nat.reduceSub, Nat.reduceMul, Nat.reduceLT, Nat.reduceLeDiff, Nat.reduceBNe, Int.reduceBEq, Int.reduceBNe, Int.reduceLT, Int.reduceLE, Msg.a, Par.a, Nd.a, Opr.a, nul, bne_self_eq_false]
  refine run_loop (fun k σ => σ.T 0 = .sl [] ∧ σ.T 5 = .int .i64 0) (k := 0) ⟨?_, ?_⟩ ?_
  · simp (maxSteps := 4000000) only [go_sem, ↓reduceIte, reduceCtorEq, Nat.reduceEqDiff, Nat.reduceBEq, Nat.reduceAdd, Nat.reduceSub, Nat.reduceMul, Nat.reduceLT, Nat.reduceLeDiff, Nat.reduceBNe, Int.reduceBEq, Int.reduceBNe, Int.reduceLT, Int.reduceLE, Msg.a, Par.a, Nd.a, Opr.a, nul]
  · simp (maxSteps := 4000000) only [go_sem, ↓reduceIte, reduceCtorEq, Nat.reduceEqDiff, Nat.reduceBEq, Nat.reduceAdd, Nat.reduceSub, Nat.reduceMul, Nat.reduceLT, Nat.reduceLeDiff, Nat.reduceBNe, Int.reduceBEq, Int.reduceBNe, Int.reduceLT, Int.reduceLE, Msg.a, Par.a, Nd.a, Opr.a, nul]
  rintro k σ ⟨t0, t5⟩
  simp only [r_same9_l8]
  have l0 : ((0 : Nat) : Int) = 0 := rfl
  simp (maxSteps := 4000000) only [go_sem, ↓reduceIte, reduceCtorEq, Nat.reduceEqDiff, Nat.reduceBEq, Nat.reduceAdd, Nat.reduceSub, Nat.reduceMul, Nat.reduceLT, Nat.reduceLeDiff, Nat.reduceBNe, Int.reduceBEq, Int.reduceBNe, Int.reduceLT, Int.reduceLE, Msg.a, Par.a, Nd.a, Opr.a, nul, t0, t5, List.length_nil, l0]
theorem mRight_a : AFn Tryd.prog 72 [.sl []] (.bool true) := by
  refine fn_mRight rfl ?_
  simp (maxSteps := 4000000) only [go_sem, ↓reduceIte, reduceCtorEq, Nat.reduceEqDiff, Nat.reduceBEq, Nat.reduceAdd, Nat.reduceSub, Nat.reduceMul, Nat.reduceLT, Nat.reduceLeDiff, Nat.reduceBNe, Int.reduceBEq, Int.reduceBNe, Int.reduceLT, Int.reduceLE, Msg.a, Par.a, Nd.a, Opr.a, nul]
  refine run_loop (fun k σ => σ.T 6 = .int .i64 0 ∧ σ.T 7 = .int .i64 0) (k := 0) ⟨?_, ?_⟩ ?_
  · simp (maxSteps := 4000000) only [go_sem, ↓reduceIte, reduceCtorEq, Nat.reduceEqDiff, Nat.reduceBEq, Nat.reduceAdd, Nat.reduceSub, Nat.reduceMul, Nat.reduceLT, Nat.reduceLeDiff, Nat.reduceBNe, Int.reduceBEq, Int.reduceBNe, Int.reduceLT, Int.reduceLE, Msg.a, Par.a, Nd.a, Opr.a, nul]
    rfl
  · simp (maxSteps := 4000000) only [go_sem, ↓reduceIte, reduceCtorEq, Nat.reduceEqDiff, Nat.reduceBEq, Nat.reduceAdd, Nat.reduceSub, Nat.reduceMul, Nat.reduceLT, Nat.reduceLeDiff, Nat.reduceBNe, Int.reduceBEq, Int.reduceBNe, Int.reduceLT, Int.reduceLE, Msg.a, Par.a, Nd.a, Opr.a, nul]
  rintro k σ ⟨t6, t7⟩
  simp only [r_mRight_l7]
  simp (maxSteps := 4000000) only [go_sem, ↓reduceIte, reduceCtorEq, Nat.reduceEqDiff, Nat.reduceBEq, Nat.reduceAdd, Nat.reduceSub, Nat.reduceMul, Nat.reduceLT, Nat.reduceLeDiff, Nat.reduceBNe, Int.reduceBEq, Int.reduceBNe, Int.reduceLT, Int.reduceLE, Msg.a, Par.a, Nd.a, Opr.a, nul, t6, t7]
theorem same10_a : AFn Tryd.prog 78 [ansZ, ansZ] (.bool true) := by
  refine fn_same10 rfl ?_
  have c := same9_a
  (repeat (first | simp (maxSteps := 4000000) only [go_sem, ↓reduceIte, reduceCtorEq, Nat.reduceEqDiff, Nat.reduceBEq, Nat.reduceAdd, Nat.reduceSub, Nat.reduceMul, Nat.reduceLT, Nat.reduceLeDiff, Nat.reduceBNe, Int.reduceBEq, Int.reduceBNe, Int.reduceLT, Int.reduceLE, Msg.a, Par.a, Nd.a, Opr.a, nul, ansZ, beq_self_eq_true] | refine calling (c) ?_ | refine callingH (c) ?_ | refine And.intro (by omega) ?_ | refine And.intro (fun d hd => by (repeat (rcases hd with rfl | hd; · exact ⟨rfl, rfl⟩)); cases hd) ?_))
theorem same38_a : AFn Tryd.prog 30 [evtA, evtA] (.bool true) := by
  refine fn_same38 rfl ?_
  have c := same10_a
  have he : valF (Opr.a opA).av (Opr.a opA).av [(0, 0), (1, 1), (2, 1), (3, 2), (4, 1), (5, 0)] = true := by
    simp [Opr.a, AV.av, valF, cellEq]
  simp only [opA, Opr.a, AV.av] at he
  simp only [ansZ] at c
  (repeat (first | simp (maxSteps := 4000000) only [go_sem, ↓reduceIte, reduceCtorEq, Nat.reduceEqDiff, Nat.reduceBEq, Nat.reduceAdd, Nat.reduceSub, Nat.reduceMul, Nat.reduceLT, Nat.reduceLeDiff, Nat.reduceBNe, Int.reduceBEq, Int.reduceBNe, Int.reduceLT, Int.reduceLE, Msg.a, Par.a, Nd.a, Opr.a, nul, evtA, beq_self_eq_true, he] | refine calling (c) ?_ | refine callingH (c) ?_ | refine And.intro (by omega) ?_ | refine And.intro (fun d hd => by (repeat (rcases hd with rfl | hd; · exact ⟨rfl, rfl⟩)); cases hd) ?_))
end Go.Proofs.YtkdbphhekpdmhaaDoor
