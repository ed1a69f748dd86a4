/-
  Part 14 of a proof: SqK, GaF.
-/
import Derived.Test.YtelmejaiapdgnaaDoorGO13
namespace Go.Proofs.YtelmejaiapdgnaaDoor
attribute [local go_sem] ev0 ev1 ev2 ev3 ev4 evA stHOk.eq_1 stHOk.eq_2 stHSt.eq_1 stHSt.eq_2 okV valV fzV okF valF okBld valBld mxOk.eq_1 mxOk.eq_2 mxVal.eq_1 mxVal.eq_2 cellFit.eq_1 cellFit.eq_2 cellFit.eq_3 cellEq.eq_1 cellEq.eq_2 cellEq.eq_3 upd_at AV.flatB AV.flatBs binIok binIV binSok binSV cellsOk.eq_1 cellsOk.eq_2 cellsVal.eq_1 cellsVal.eq_2 objCells.eq_1 objCells.eq_2 objZ.eq_1 objZ.eq_2 objProt.eq_1 objProt.eq_2 oneObj ptrOk.eq_1 ptrOk.eq_2 ptrOk.eq_3 ptrCells.eq_1 ptrCells.eq_2 ptrCells.eq_3 lenOk.eq_1 lenOk.eq_2 lenOk.eq_3 lenOk.eq_4 lenVal.eq_1 lenVal.eq_2 lenVal.eq_3 lenVal.eq_4 faOk.eq_1 faOk.eq_2 faOk.eq_3 faVal.eq_1 faVal.eq_2 faVal.eq_3 iaOk.eq_1 iaOk.eq_2 iaOk.eq_3 iaVal.eq_1 iaVal.eq_2 iaVal.eq_3 slcLen.eq_1 slcLen.eq_2 slcLen.eq_3 slcLen.eq_4 bdOk.eq_1 bdOk.eq_2 bdVal.eq_1 bdVal.eq_2 slcOk.eq_1 slcOk.eq_2 slcOk.eq_3 slcOk.eq_4 slcVal.eq_1 slcVal.eq_2 slcVal.eq_3 slcVal.eq_4 slcFz.eq_1 slcFz.eq_2 loK.eq_1 loK.eq_2 loK.eq_3 rsVal.eq_1 rsVal.eq_2 rsVal.eq_3 byOk.eq_1 byOk.eq_2 byOk.eq_3 byOk.eq_4 byOk.eq_5 byOk.eq_6 byOk.eq_7 byOk.eq_8 byVal.eq_1 byVal.eq_2 byVal.eq_3 byFz.eq_1 byFz.eq_2 byFz.eq_3 byOks byVals byFzs allOne resSt.eq_1 resSt.eq_2 resName.eq_1 resName.eq_2 stOk.eq_1 stOk.eq_2 stArr.eq_1 stArr.eq_2 stSt.eq_1 stSt.eq_2 AV.patch nameOk_none gB.eq_1 gB.eq_2 gB.eq_3 gIs.eq_1 gIs.eq_2 gIs.eq_3 retV resV resVs evalV cellsV St.byval List.getD_cons_zero List.getD_cons_succ List.getD_nil List.map_cons List.map_nil List.length_cons List.length_nil List.take_succ_cons List.take_zero List.drop_succ_cons List.drop_zero List.headD_cons List.set_cons_zero List.append_nil List.nil_append List.cons_append List.contains_cons List.contains_nil List.elem_cons List.elem_nil List.all_cons List.all_nil List.getElem?_cons_zero List.getElem?_cons_succ List.filterMap_cons List.filterMap_nil Option.isSome_some Option.isSome_none Option.map_some Option.map_none Option.some.injEq AV.int.injEq AV.bool.injEq AV.str.injEq AV.tup.injEq AV.agg.injEq AV.sl.injEq List.cons.injEq Bool.false_eq_true Bool.true_eq_false Bool.not_true Bool.not_false Bool.and_true Bool.true_and Bool.or_false Bool.or_true Bool.false_or Bool.true_or Bool.or_self Bool.and_self Bool.not_eq_true' Bool.not_eq_false' Bool.not_not beq_self_eq_true true_and and_true false_and and_false and_self not_true_eq_false not_false_eq_true forall_const true_implies false_implies implies_true imp_self Nat.lt_add_one Nat.le_refl Nat.zero_le Nat.add_zero Nat.zero_add decide_true decide_false decide_eq_true_eq decide_eq_false_iff_not exists_eq_left exists_eq_left' ge_iff_le gt_iff_lt ite_branch ite_branch' nilOk.eq_1 nilOk.eq_2 nilMay.eq_1 nilMay.eq_2 AV.isSl.eq_1 objTy'.eq_1 objTy'.eq_2 apSt.eq_1 apArr.eq_1 apArr.eq_2 apTwo.eq_1 apTwo.eq_2 apSt2.eq_1 apArr2.eq_1 apArr2.eq_2 slOf.eq_1 fitsV List.mem_cons List.not_mem_nil Bool.false_and Bool.and_false primOk.eq_1 primOk.eq_2 primOk.eq_3 primOk.eq_4 primOk.eq_5 primVal.eq_1 primVal.eq_2 primVal.eq_3 primVal.eq_4 primVal.eq_5 mOk.eq_1 mOk.eq_2 mVal.eq_1 mVal.eq_2 mFz.eq_1 mFz.eq_2 mOks mVals mFzs mCalOk.eq_1 mCalOk.eq_2 mFn.eq_1 mFn.eq_2 mArgs.eq_1 mArgs.eq_2 ckOk.eq_1 ckOk.eq_2 cloOk.eq_1 ptrAt.eq_1 sh.eq_1 sh.eq_2 sh.eq_3 sh.eq_4 sh.eq_5 sh.eq_6 retM shH_small evM entOk.eq_1 entOk.eq_2 ents.eq_1 ents.eq_2 kI.eq_1 mpOk.eq_1 mpR.eq_1 lkV.eq_1 lkV.eq_2 remp.eq_2 evP pvOk.eq_1 pvOk.eq_2 pvVal.eq_1 pvVal.eq_2 plOk.eq_1 plOk.eq_2 plOk.eq_3 plV.eq_1 plV.eq_2 plF.eq_1 plF.eq_2 plVal.eq_1 plVal.eq_2 plFz.eq_1 plFz.eq_2 lpOk.eq_1 lpOk.eq_2 lpVal.eq_1 lpVal.eq_2 lpFz.eq_1 lpFz.eq_2 stpOk.eq_1 stpOk.eq_2 stpSt.eq_1 stpSt.eq_2 stpArr.eq_1 keepS.eq_1 keepS.eq_2
section
/-
  The document's effects and messages, sizes, and lists that are one, on the plain machine.
-/
open Go.RowKit
set_option linter.unusedVariables false
set_option linter.unusedSimpArgs false
set_option maxRecDepth 100000
attribute [local go_sem ↓] runOp headOp
theorem gM {l : List Msg} {j : Nat} {x : Msg} (hx : l[j]? = some x) : (l.map Msg.a).getD j .und = .agg [.int .i64 x.stamp, .int .i64 x.kind, .str x.key, .str x.hi, .bool x.op, .str x.val] := by
  rw [List.getD_eq_getElem?_getD, List.getElem?_map, hx]; rfl
theorem wS {j : Nat} (h : j ≤ 1000000000000) : IntKind.i64.wrap ((j : Int) + 1) = ((j + 1 : Nat) : Int) := by rw [IntWalk.i64_in _ (by omega)]; rfl
theorem getM {l : List Msg} {j : Nat} (h : j < l.length) : ∃ x, l[j]? = some x := ⟨_, List.getElem?_eq_getElem h⟩
/-! ### percolate/percolateref05.Size -/
def r_rSize_0 : Reg := ⟨[], [⟨(.box 6 54 (.t 0)), (some 1), none, [], []⟩, ⟨(.mv (.c (.int .i64 0))), (some 2), none, [], []⟩], [1], [], false⟩
def t_rSize_1 : List ROp := [⟨(.faddr 1 (.t 1)), (some 3), none, [], []⟩, ⟨(.load 1 false (.t 3)), (some 4), none, [], []⟩, ⟨(.bin .eql (.t 4) (.c (.int .i64 4))), (some 5), none, [], []⟩]
def r_rSize_1 : Reg := ⟨[], t_rSize_1, [], [], false⟩
def r_rSize_2 : Reg := ⟨[], [⟨(.mv (.c (.int .i64 36))), (some 2), none, [], []⟩], [], [], false⟩
def t_rSize_3 : List ROp := [⟨(.faddr 2 (.t 1)), (some 6), none, [], []⟩, ⟨(.load 1 false (.t 6)), (some 7), none, [], []⟩, ⟨(.len true (.t 7)), (some 8), none, [], []⟩, ⟨(.bin .add (.c (.int .i64 4)) (.t 8)), (some 9), none, [], []⟩, ⟨(.faddr 5 (.t 1)), (some 10), none, [], []⟩, ⟨(.load 1 false (.t 10)), (some 11), none, [], []⟩, ⟨(.len true (.t 11)), (some 12), none, [], []⟩, ⟨(.bin .add (.t 9) (.t 12)), (some 13), none, [], []⟩, ⟨(.mv (.t 13)), (some 2), none, [], []⟩]
def r_rSize_3 : Reg := ⟨[], t_rSize_3, [], [], false⟩
def ir_rSize : IR := (.seq (.reg r_rSize_0)
  (.seq (.seq (.reg r_rSize_1)
  (.cond (.t 5) (.seq (.reg r_rSize_2)
  .ret)
  .skip))
  (.seq (.reg r_rSize_3)
  .ret)))
def res_rSize : List RDesc := [(.tmp 2)]
theorem e_rSize_0 (C : FuncId → List AV → AV → Prop) (σ : St) (K : St → Prop) : runReg C r_rSize_0 σ K = runOps C [⟨(.box 6 54 (.t 0)), (some 1), none, [], []⟩, ⟨(.mv (.c (.int .i64 0))), (some 2), none, [], []⟩] (σ.kills [1]) K := rfl
theorem e_rSize_1 (C : FuncId → List AV → AV → Prop) (σ : St) (K : St → Prop) : runReg C r_rSize_1 σ K = runOps C t_rSize_1 (σ.kills []) K := rfl
theorem e_rSize_2 (C : FuncId → List AV → AV → Prop) (σ : St) (K : St → Prop) : runReg C r_rSize_2 σ K = runOps C [⟨(.mv (.c (.int .i64 36))), (some 2), none, [], []⟩] (σ.kills []) K := rfl
theorem e_rSize_3 (C : FuncId → List AV → AV → Prop) (σ : St) (K : St → Prop) : runReg C r_rSize_3 σ K = runOps C t_rSize_3 (σ.kills []) K := rfl
theorem fn_rSize {args : List AV} {r : AV} (ha : args.length.ble Tryd.f29.ntmps = true) (h : run (AFn Tryd.prog) ir_rSize (endQ res_rSize r) (initSt args)) : AFn Tryd.prog 29 args r :=
  AFn.of_code (pv := false) (hint := fun _ => []) (c := Tryd.f29.body.getD .skip) (by kernel_rfl) (by kernel_rfl) Tryd.func29 (by kernel_rfl) (by kernel_rfl) (by kernel_rfl) (of_decide_eq_true (by kernel_rfl)) (Nat.le_of_ble_eq_true ha) (Nat.le_of_ble_eq_true (by kernel_rfl)) (run_ok h)
/-! ### percolate/percolateref18.Size -/
def r_r18Size_0 : Reg := ⟨[], [⟨(.mv (.c (.int .i64 0))), (some 2), none, [], []⟩], [], [], false⟩
def r_r18Size_1 : Reg := ⟨[], [⟨(.mv (.c (.int .i64 0))), (some 3), none, [], []⟩], [], [], false⟩
def r_r18Size_2 : Reg := ⟨[], [⟨(.mv (.c (.int .i64 0))), (some 4), none, [], []⟩], [], [], false⟩
def t_r18Size_3 : List ROp := [⟨(.mv (.t 4)), (some 5), none, [], []⟩, ⟨(.mv (.t 0)), (some 6), none, [], []⟩, ⟨(.len false (.t 6)), (some 7), none, [], []⟩, ⟨(.bin .lss (.t 5) (.t 7)), (some 8), none, [], []⟩]
def r_r18Size_3 : Reg := ⟨[], t_r18Size_3, [], [], false⟩
def t_r18Size_4 : List ROp := [⟨(.mv (.t 3)), (some 11), none, [16], []⟩, ⟨(.mv (.t 0)), (some 12), none, [16], []⟩, ⟨(.mv (.t 4)), (some 13), none, [16], []⟩, ⟨(.iaddr 6 (.t 12) (.t 13)), (some 14), none, [16], []⟩, ⟨(.load 6 true (.t 14)), (some 15), none, [16], []⟩, ⟨(.callv (.c (.clo 29 [] [])) [(.t 15)]), (some 16), none, [], []⟩, ⟨(.bin .add (.t 11) (.t 16)), (some 17), none, [], []⟩, ⟨(.mv (.t 17)), (some 3), none, [], []⟩]
def r_r18Size_4 : Reg := ⟨[], t_r18Size_4, [16], [], false⟩
def t_r18Size_5 : List ROp := [⟨(.mv (.t 4)), (some 9), none, [], []⟩, ⟨(.bin .add (.t 9) (.c (.int .i64 1))), (some 10), none, [], []⟩, ⟨(.mv (.t 10)), (some 4), none, [], []⟩]
def r_r18Size_5 : Reg := ⟨[], t_r18Size_5, [], [], false⟩
def r_r18Size_l6 : IR := (.seq (.seq (.reg r_r18Size_3)
  (.cond (.t 8) .skip
  (.exit 0)))
  (.seq (.block 1 (.reg r_r18Size_4))
  (.reg r_r18Size_5)))
def r_r18Size_7 : Reg := ⟨[], [⟨(.mv (.t 3)), (some 18), none, [], []⟩, ⟨(.mv (.t 18)), (some 2), none, [], []⟩], [], [], false⟩
def ir_r18Size : IR := (.seq (.reg r_r18Size_0)
  (.seq (.reg r_r18Size_1)
  (.seq (.seq (.reg r_r18Size_2)
  (.block 0 (.loop r_r18Size_l6)))
  (.seq (.reg r_r18Size_7)
  .ret))))
def res_r18Size : List RDesc := [(.tmp 2)]
theorem e_r18Size_0 (C : FuncId → List AV → AV → Prop) (σ : St) (K : St → Prop) : runReg C r_r18Size_0 σ K = runOps C [⟨(.mv (.c (.int .i64 0))), (some 2), none, [], []⟩] (σ.kills []) K := rfl
theorem e_r18Size_1 (C : FuncId → List AV → AV → Prop) (σ : St) (K : St → Prop) : runReg C r_r18Size_1 σ K = runOps C [⟨(.mv (.c (.int .i64 0))), (some 3), none, [], []⟩] (σ.kills []) K := rfl
theorem e_r18Size_2 (C : FuncId → List AV → AV → Prop) (σ : St) (K : St → Prop) : runReg C r_r18Size_2 σ K = runOps C [⟨(.mv (.c (.int .i64 0))), (some 4), none, [], []⟩] (σ.kills []) K := rfl
theorem e_r18Size_3 (C : FuncId → List AV → AV → Prop) (σ : St) (K : St → Prop) : runReg C r_r18Size_3 σ K = runOps C t_r18Size_3 (σ.kills []) K := rfl
theorem e_r18Size_4 (C : FuncId → List AV → AV → Prop) (σ : St) (K : St → Prop) : runReg C r_r18Size_4 σ K = runOps C t_r18Size_4 (σ.kills [16]) K := rfl
theorem e_r18Size_5 (C : FuncId → List AV → AV → Prop) (σ : St) (K : St → Prop) : runReg C r_r18Size_5 σ K = runOps C t_r18Size_5 (σ.kills []) K := rfl
theorem e_r18Size_7 (C : FuncId → List AV → AV → Prop) (σ : St) (K : St → Prop) : runReg C r_r18Size_7 σ K = runOps C [⟨(.mv (.t 3)), (some 18), none, [], []⟩, ⟨(.mv (.t 18)), (some 2), none, [], []⟩] (σ.kills []) K := rfl
theorem fn_r18Size {args : List AV} {r : AV} (ha : args.length.ble Tryd.f22.ntmps = true) (h : run (AFn Tryd.prog) ir_r18Size (endQ res_r18Size r) (initSt args)) : AFn Tryd.prog 22 args r :=
  AFn.of_code (pv := false) (hint := fun _ => []) (c := Tryd.f22.body.getD .skip) (by kernel_rfl) (by kernel_rfl) Tryd.func22 (by kernel_rfl) (by kernel_rfl) (by kernel_rfl) (of_decide_eq_true (by kernel_rfl)) (Nat.le_of_ble_eq_true ha) (Nat.le_of_ble_eq_true (by kernel_rfl)) (run_ok h)
/-! ### percolate/message.Size -/
def r_mSize_0 : Reg := ⟨[], [⟨(.box 6 54 (.t 0)), (some 1), none, [], []⟩, ⟨(.mv (.c (.int .i64 0))), (some 2), none, [], []⟩], [1], [], false⟩
def t_mSize_1 : List ROp := [⟨(.faddr 1 (.t 1)), (some 3), none, [], []⟩, ⟨(.load 1 false (.t 3)), (some 4), none, [], []⟩, ⟨(.bin .eql (.t 4) (.c (.int .i64 4))), (some 5), none, [], []⟩]
def r_mSize_1 : Reg := ⟨[], t_mSize_1, [], [], false⟩
def r_mSize_2 : Reg := ⟨[], [⟨(.mv (.c (.int .i64 36))), (some 2), none, [], []⟩], [], [], false⟩
def t_mSize_3 : List ROp := [⟨(.faddr 2 (.t 1)), (some 6), none, [], []⟩, ⟨(.load 1 false (.t 6)), (some 7), none, [], []⟩, ⟨(.len true (.t 7)), (some 8), none, [], []⟩, ⟨(.bin .add (.c (.int .i64 4)) (.t 8)), (some 9), none, [], []⟩, ⟨(.faddr 5 (.t 1)), (some 10), none, [], []⟩, ⟨(.load 1 false (.t 10)), (some 11), none, [], []⟩, ⟨(.len true (.t 11)), (some 12), none, [], []⟩, ⟨(.bin .add (.t 9) (.t 12)), (some 13), none, [], []⟩, ⟨(.mv (.t 13)), (some 2), none, [], []⟩]
def r_mSize_3 : Reg := ⟨[], t_mSize_3, [], [], false⟩
def ir_mSize : IR := (.seq (.reg r_mSize_0)
  (.seq (.seq (.reg r_mSize_1)
  (.cond (.t 5) (.seq (.reg r_mSize_2)
  .ret)
  .skip))
  (.seq (.reg r_mSize_3)
  .ret)))
def res_mSize : List RDesc := [(.tmp 2)]
theorem e_mSize_0 (C : FuncId → List AV → AV → Prop) (σ : St) (K : St → Prop) : runReg C r_mSize_0 σ K = runOps C [⟨(.box 6 54 (.t 0)), (some 1), none, [], []⟩, ⟨(.mv (.c (.int .i64 0))), (some 2), none, [], []⟩] (σ.kills [1]) K := rfl
theorem e_mSize_1 (C : FuncId → List AV → AV → Prop) (σ : St) (K : St → Prop) : runReg C r_mSize_1 σ K = runOps C t_mSize_1 (σ.kills []) K := rfl
theorem e_mSize_2 (C : FuncId → List AV → AV → Prop) (σ : St) (K : St → Prop) : runReg C r_mSize_2 σ K = runOps C [⟨(.mv (.c (.int .i64 36))), (some 2), none, [], []⟩] (σ.kills []) K := rfl
theorem e_mSize_3 (C : FuncId → List AV → AV → Prop) (σ : St) (K : St → Prop) : runReg C r_mSize_3 σ K = runOps C t_mSize_3 (σ.kills []) K := rfl
theorem fn_mSize {args : List AV} {r : AV} (ha : args.length.ble Tryd.f28.ntmps = true) (h : run (AFn Tryd.prog) ir_mSize (endQ res_mSize r) (initSt args)) : AFn Tryd.prog 28 args r :=
  AFn.of_code (pv := false) (hint := fun _ => []) (c := Tryd.f28.body.getD .skip) (by kernel_rfl) (by kernel_rfl) Tryd.func28 (by kernel_rfl) (by kernel_rfl) (by kernel_rfl) (of_decide_eq_true (by kernel_rfl)) (Nat.le_of_ble_eq_true ha) (Nat.le_of_ble_eq_true (by kernel_rfl)) (run_ok h)
/-! ### percolate/buffer.Size -/
def r_bSize_0 : Reg := ⟨[], [⟨(.mv (.c (.int .i64 0))), (some 2), none, [], []⟩], [], [], false⟩
def r_bSize_1 : Reg := ⟨[], [⟨(.mv (.c (.int .i64 0))), (some 3), none, [], []⟩], [], [], false⟩
def t_bSize_2 : List ROp := [⟨(.mv (.t 0)), (some 6), none, [], []⟩, ⟨(.len false (.t 6)), (some 7), none, [], []⟩, ⟨(.mv (.c (.int .i64 0))), (some 8), none, [], []⟩]
def r_bSize_2 : Reg := ⟨[], t_bSize_2, [], [], false⟩
def r_bSize_3 : Reg := ⟨[], [⟨(.bin .lss (.t 8) (.t 7)), (some 9), none, [], []⟩], [], [], false⟩
def t_bSize_4 : List ROp := [⟨(.iaddr 6 (.t 6) (.t 8)), (some 10), none, [5], []⟩, ⟨(.load 6 true (.t 10)), (some 11), none, [5], []⟩, ⟨(.alloc 6 54 (.agg [(.int .i64 0), (.int .i64 0), (.str ⟨#[]⟩), (.str ⟨#[]⟩), (.bool false), (.str ⟨#[]⟩)])), (some 5), none, [], []⟩, ⟨(.store 6 (.t 5) (.t 11)), none, none, [], []⟩]
def r_bSize_4 : Reg := ⟨[], t_bSize_4, [5], [], false⟩
def t_bSize_5 : List ROp := [⟨(.mv (.t 3)), (some 12), none, [14], []⟩, ⟨(.load 6 true (.t 5)), (some 13), none, [14], []⟩, ⟨(.callv (.c (.clo 28 [] [])) [(.t 13)]), (some 14), none, [], []⟩, ⟨(.bin .add (.t 12) (.t 14)), (some 15), none, [], []⟩, ⟨(.mv (.t 15)), (some 3), none, [], []⟩]
def r_bSize_5 : Reg := ⟨[], t_bSize_5, [14], [], false⟩
def r_bSize_6 : Reg := ⟨[], [⟨(.bin .add (.t 8) (.c (.int .i64 1))), (some 16), none, [], []⟩, ⟨(.mv (.t 16)), (some 8), none, [], []⟩], [], [], false⟩
def r_bSize_l7 : IR := (.seq (.reg r_bSize_3)
  (.seq (.cond (.t 9) .skip
  (.exit 0))
  (.seq (.block 1 (.seq (.reg r_bSize_4)
  (.reg r_bSize_5)))
  (.reg r_bSize_6))))
def r_bSize_8 : Reg := ⟨[], [⟨(.mv (.t 3)), (some 17), none, [], []⟩, ⟨(.mv (.t 17)), (some 2), none, [], []⟩], [], [], false⟩
def ir_bSize : IR := (.seq (.reg r_bSize_0)
  (.seq (.reg r_bSize_1)
  (.seq (.seq (.reg r_bSize_2)
  (.block 0 (.loop r_bSize_l7)))
  (.seq (.reg r_bSize_8)
  .ret))))
def res_bSize : List RDesc := [(.tmp 2)]
theorem e_bSize_0 (C : FuncId → List AV → AV → Prop) (σ : St) (K : St → Prop) : runReg C r_bSize_0 σ K = runOps C [⟨(.mv (.c (.int .i64 0))), (some 2), none, [], []⟩] (σ.kills []) K := rfl
theorem e_bSize_1 (C : FuncId → List AV → AV → Prop) (σ : St) (K : St → Prop) : runReg C r_bSize_1 σ K = runOps C [⟨(.mv (.c (.int .i64 0))), (some 3), none, [], []⟩] (σ.kills []) K := rfl
theorem e_bSize_2 (C : FuncId → List AV → AV → Prop) (σ : St) (K : St → Prop) : runReg C r_bSize_2 σ K = runOps C t_bSize_2 (σ.kills []) K := rfl
theorem e_bSize_3 (C : FuncId → List AV → AV → Prop) (σ : St) (K : St → Prop) : runReg C r_bSize_3 σ K = runOps C [⟨(.bin .lss (.t 8) (.t 7)), (some 9), none, [], []⟩] (σ.kills []) K := rfl
theorem e_bSize_4 (C : FuncId → List AV → AV → Prop) (σ : St) (K : St → Prop) : runReg C r_bSize_4 σ K = runOps C t_bSize_4 (σ.kills [5]) K := rfl
theorem e_bSize_5 (C : FuncId → List AV → AV → Prop) (σ : St) (K : St → Prop) : runReg C r_bSize_5 σ K = runOps C t_bSize_5 (σ.kills [14]) K := rfl
theorem e_bSize_6 (C : FuncId → List AV → AV → Prop) (σ : St) (K : St → Prop) : runReg C r_bSize_6 σ K = runOps C [⟨(.bin .add (.t 8) (.c (.int .i64 1))), (some 16), none, [], []⟩, ⟨(.mv (.t 16)), (some 8), none, [], []⟩] (σ.kills []) K := rfl
theorem e_bSize_8 (C : FuncId → List AV → AV → Prop) (σ : St) (K : St → Prop) : runReg C r_bSize_8 σ K = runOps C [⟨(.mv (.t 3)), (some 17), none, [], []⟩, ⟨(.mv (.t 17)), (some 2), none, [], []⟩] (σ.kills []) K := rfl
theorem fn_bSize {args : List AV} {r : AV} (ha : args.length.ble Tryd.f20.ntmps = true) (h : run (AFn Tryd.prog) ir_bSize (endQ res_bSize r) (initSt args)) : AFn Tryd.prog 20 args r :=
  AFn.of_code (pv := false) (hint := fun _ => []) (c := Tryd.f20.body.getD .skip) (by kernel_rfl) (by kernel_rfl) Tryd.func20 (by kernel_rfl) (by kernel_rfl) (by kernel_rfl) (of_decide_eq_true (by kernel_rfl)) (Nat.le_of_ble_eq_true ha) (Nat.le_of_ble_eq_true (by kernel_rfl)) (run_ok h)
attribute [local go_sem ↓] ir_rSize
attribute [local go_sem] res_rSize e_rSize_0 e_rSize_1 t_rSize_1 e_rSize_2 e_rSize_3 t_rSize_3
attribute [local go_sem ↓] ir_r18Size
attribute [local go_sem] res_r18Size e_r18Size_0 e_r18Size_1 e_r18Size_2 e_r18Size_3 t_r18Size_3 e_r18Size_4 t_r18Size_4 e_r18Size_5 t_r18Size_5 e_r18Size_7
attribute [local go_sem ↓] ir_mSize
attribute [local go_sem] res_mSize e_mSize_0 e_mSize_1 t_mSize_1 e_mSize_2 e_mSize_3 t_mSize_3
attribute [local go_sem ↓] ir_bSize
attribute [local go_sem] res_bSize e_bSize_0 e_bSize_1 e_bSize_2 t_bSize_2 e_bSize_3 e_bSize_4 t_bSize_4 e_bSize_5 t_bSize_5 e_bSize_6 e_bSize_8
def KOk (l : List Msg) : Prop := l.length ≤ 1000000 ∧ ∀ m, m ∈ l → m.key.size ≤ 1000000 ∧ m.hi.size ≤ 1000000 ∧ m.val.size ≤ 1000000
theorem refSize (m : Msg) (h1 : m.key.size ≤ 1000000) (h2 : m.val.size ≤ 1000000) : AFn Tryd.prog 29 [m.a] (.int .i64 (m.size : Int)) := by
  refine fn_rSize rfl ?_
  cases h : (m.kind == 4) with
  | true =>
    have h' : m.kind = 4 := by simpa using h
    simp (maxSteps := 4000000) only [go_sem, ↓reduceIte, reduceCtorEq, Nat.reduceEqDiff, Nat.reduceBEq, Nat.reduceAdd, Nat.reduceSub, Nat.reduceMul, Nat.reduceLT, Nat.reduceLeDiff, Nat.reduceBNe, Int.reduceBEq, Int.reduceBNe, Int.reduceLT, Int.reduceLE, Spn.a, Msg.a, Eff.a, h]
    simp [Msg.size, h']
  | false =>
    have h' : m.kind ≠ 4 := by simpa using h
    have w1 : IntKind.i64.wrap (4 + (m.key.size : Int)) = 4 + (m.key.size : Int) := IntWalk.i64_in _ (by omega)
    have w2 : IntKind.i64.wrap (4 + (m.key.size : Int) + (m.val.size : Int)) = 4 + (m.key.size : Int) + (m.val.size : Int) := IntWalk.i64_in _ (by omega)
    simp (maxSteps := 4000000) only [go_sem, ↓reduceIte, reduceCtorEq, Nat.reduceEqDiff, Nat.reduceBEq, Nat.reduceAdd, Nat.reduceSub, Nat.reduceMul, Nat.reduceLT, Nat.reduceLeDiff, Nat.reduceBNe, Int.reduceBEq, Int.reduceBNe, Int.reduceLT, Int.reduceLE, Spn.a, Msg.a, Eff.a, h, w1, w2]
    simp [Msg.size, h']
theorem msgSize (m : Msg) (h1 : m.key.size ≤ 1000000) (h2 : m.val.size ≤ 1000000) : AFn Tryd.prog 28 [m.a] (.int .i64 (m.size : Int)) := by
  refine fn_mSize rfl ?_
  cases h : (m.kind == 4) with
  | true =>
    have h' : m.kind = 4 := by simpa using h
    simp (maxSteps := 4000000) only [go_sem, ↓reduceIte, reduceCtorEq, Nat.reduceEqDiff, Nat.reduceBEq, Nat.reduceAdd, Nat.reduceSub, Nat.reduceMul, Nat.reduceLT, Nat.reduceLeDiff, Nat.reduceBNe, Int.reduceBEq, Int.reduceBNe, Int.reduceLT, Int.reduceLE, Spn.a, Msg.a, Eff.a, h]
    simp [Msg.size, h']
  | false =>
    have h' : m.kind ≠ 4 := by simpa using h
    have w1 : IntKind.i64.wrap (4 + (m.key.size : Int)) = 4 + (m.key.size : Int) := IntWalk.i64_in _ (by omega)
    have w2 : IntKind.i64.wrap (4 + (m.key.size : Int) + (m.val.size : Int)) = 4 + (m.key.size : Int) + (m.val.size : Int) := IntWalk.i64_in _ (by omega)
    simp (maxSteps := 4000000) only [go_sem, ↓reduceIte, reduceCtorEq, Nat.reduceEqDiff, Nat.reduceBEq, Nat.reduceAdd, Nat.reduceSub, Nat.reduceMul, Nat.reduceLT, Nat.reduceLeDiff, Nat.reduceBNe, Int.reduceBEq, Int.reduceBNe, Int.reduceLT, Int.reduceLE, Spn.a, Msg.a, Eff.a, h, w1, w2]
    simp [Msg.size, h']
theorem take_one {l : List Msg} {j : Nat} {x : Msg} (hx : l[j]? = some x) : l.take (j + 1) = l.take j ++ [x] := by
  rw [List.take_add_one, hx]; rfl
theorem size_le (m : Msg) (h1 : m.key.size ≤ 1000000) (h2 : m.val.size ≤ 1000000) : m.size ≤ 2000036 := by
  unfold Msg.size; split <;> omega
theorem sizes_le : ∀ {l : List Msg}, (∀ m, m ∈ l → m.key.size ≤ 1000000 ∧ m.hi.size ≤ 1000000 ∧ m.val.size ≤ 1000000) → sizes l ≤ l.length * 2000036
  | [], _ => Nat.zero_le _
  | m :: l, h => by
    rw [sizes_cons, List.length_cons]
    have h1 := sizes_le (l := l) fun x hx => h x (List.mem_cons_of_mem _ hx)
    have h2 := size_le m (h m (List.mem_cons_self ..)).1 (h m (List.mem_cons_self ..)).2.2
    omega
theorem sizes_take {l : List Msg} (h : KOk l) (j : Nat) : sizes (l.take j) ≤ 2000036000000 := by
  have h1 := sizes_le (l := l.take j) fun x hx => h.2 x (List.mem_of_mem_take hx)
  have h2 := h.1
  have h3 : (l.take j).length ≤ l.length := by rw [List.length_take]; omega
  omega
def szInv (l : List Msg) (k : Nat) (σ : St) : Prop :=
  ∃ j : Nat, j ≤ l.length ∧ k = l.length - j ∧ σ.T 0 = .sl (l.map Msg.a) ∧ σ.T 3 = .int .i64 ((sizes (l.take j) : Nat) : Int) ∧ σ.T 4 = .int .i64 j
theorem ref18Size (l : List Msg) (hl : KOk l) : AFn Tryd.prog 22 [.sl (l.map Msg.a)] (.int .i64 (sizes l : Int)) := by
  refine fn_r18Size rfl ?_
  simp (maxSteps := 4000000) only [go_sem, ↓reduceIte, reduceCtorEq, Nat.reduceEqDiff, Nat.reduceBEq, Nat.reduceAdd, Nat.reduceSub, Nat.reduceMul, Nat.reduceLT, Nat.reduceLeDiff, Nat.reduceBNe, Int.reduceBEq, Int.reduceBNe, Int.reduceLT, Int.reduceLE, Spn.a, Msg.a, Eff.a]
  refine run_loop (szInv l) (k := l.length) ⟨0, by omega, rfl, ?_, ?_, ?_⟩ ?_
  · simp (maxSteps := 4000000) only [go_sem, ↓reduceIte, reduceCtorEq, Nat.reduceEqDiff, Nat.reduceBEq, Nat.reduceAdd, Nat.reduceSub, Nat.reduceMul, Nat.reduceLT, Nat.reduceLeDiff, Nat.reduceBNe, Int.reduceBEq, Int.reduceBNe, Int.reduceLT, Int.reduceLE, Spn.a, Msg.a, Eff.a]
  · simp (maxSteps := 4000000) only [go_sem, ↓reduceIte, reduceCtorEq, Nat.reduceEqDiff, Nat.reduceBEq, Nat.reduceAdd, Nat.reduceSub, Nat.reduceMul, Nat.reduceLT, Nat.reduceLeDiff, Nat.reduceBNe, Int.reduceBEq, Int.reduceBNe, Int.reduceLT, Int.reduceLE, Spn.a, Msg.a, Eff.a]
    rfl
  · simp (maxSteps := 4000000) only [go_sem, ↓reduceIte, reduceCtorEq, Nat.reduceEqDiff, Nat.reduceBEq, Nat.reduceAdd, Nat.reduceSub, Nat.reduceMul, Nat.reduceLT, Nat.reduceLeDiff, Nat.reduceBNe, Int.reduceBEq, Int.reduceBNe, Int.reduceLT, Int.reduceLE, Spn.a, Msg.a, Eff.a]
    rfl
  rintro k σ ⟨j, hj, rfl, t0, t3, t4⟩
  simp only [r_r18Size_l6]
  by_cases hlt : j < l.length
  · have hlt' : (j : Int) < (l.length : Int) := by omega
    obtain ⟨x, hx⟩ := getM hlt
    have hm := hl.2 x (List.mem_of_getElem? hx)
    have hw := wS (j := j) (by have := hl.1; omega)
    have hw2 : IntKind.i64.wrap (((sizes (l.take j) : Nat) : Int) + (x.size : Int)) = ((sizes (l.take (j + 1)) : Nat) : Int) := by
      rw [IntWalk.i64_in _ (by have := sizes_take hl j; have := size_le x hm.1 hm.2.2; omega), take_one hx, sizes_app, sizes_cons]; simp [sizes]
    simp (maxSteps := 4000000) only [go_sem, ↓reduceIte, reduceCtorEq, Nat.reduceEqDiff, Nat.reduceBEq, Nat.reduceAdd, Nat.reduceSub, Nat.reduceMul, Nat.reduceLT, Nat.reduceLeDiff, Nat.reduceBNe, Int.reduceBEq, Int.reduceBNe, Int.reduceLT, Int.reduceLE, Spn.a, Msg.a, Eff.a, t0, t3, t4, hlt', gM hx, List.length_map, Int.toNat_natCast]
    refine ⟨by omega, ?_⟩
    (first | refine calling (refSize x hm.1 hm.2.2) ?_ | refine callingH (refSize x hm.1 hm.2.2) ?_)
    simp (maxSteps := 4000000) only [go_sem, ↓reduceIte, reduceCtorEq, Nat.reduceEqDiff, Nat.reduceBEq, Nat.reduceAdd, Nat.reduceSub, Nat.reduceMul, Nat.reduceLT, Nat.reduceLeDiff, Nat.reduceBNe, Int.reduceBEq, Int.reduceBNe, Int.reduceLT, Int.reduceLE, Spn.a, Msg.a, Eff.a, t0, t3, t4, hw, hw2]
    refine ⟨l.length - (j + 1), by omega, j + 1, by omega, rfl, ?_, ?_, ?_⟩ <;>
      (simp (maxSteps := 4000000) only [go_sem, ↓reduceIte, reduceCtorEq, Nat.reduceEqDiff, Nat.reduceBEq, Nat.reduceAdd, Nat.reduceSub, Nat.reduceMul, Nat.reduceLT, Nat.reduceLeDiff, Nat.reduceBNe, Int.reduceBEq, Int.reduceBNe, Int.reduceLT, Int.reduceLE, Spn.a, Msg.a, Eff.a, t0, t3, t4, hw, hw2])
  · have hlt' : ¬ (j : Int) < (l.length : Int) := by omega
    simp (maxSteps := 4000000) only [go_sem, ↓reduceIte, reduceCtorEq, Nat.reduceEqDiff, Nat.reduceBEq, Nat.reduceAdd, Nat.reduceSub, Nat.reduceMul, Nat.reduceLT, Nat.reduceLeDiff, Nat.reduceBNe, Int.reduceBEq, Int.reduceBNe, Int.reduceLT, Int.reduceLE, Spn.a, Msg.a, Eff.a, t0, t3, t4, hlt', List.length_map]
    rw [List.take_of_length_le (by omega)]
def bszInv (l : List Msg) (k : Nat) (σ : St) : Prop :=
  ∃ j : Nat, j ≤ l.length ∧ k = l.length - j ∧ σ.T 6 = .sl (l.map Msg.a) ∧ σ.T 7 = .int .i64 l.length ∧ σ.T 3 = .int .i64 ((sizes (l.take j) : Nat) : Int) ∧ σ.T 8 = .int .i64 j
theorem bufSize (l : List Msg) (hl : KOk l) : AFn Tryd.prog 20 [.sl (l.map Msg.a)] (.int .i64 (sizes l : Int)) := by
  refine fn_bSize rfl ?_
  simp (maxSteps := 4000000) only [go_sem, ↓reduceIte, reduceCtorEq, Nat.reduceEqDiff, Nat.reduceBEq, Nat.reduceAdd, Nat.reduceSub, Nat.reduceMul, Nat.reduceLT, Nat.reduceLeDiff, Nat.reduceBNe, Int.reduceBEq, Int.reduceBNe, Int.reduceLT, Int.reduceLE, Spn.a, Msg.a, Eff.a]
  refine run_loop (bszInv l) (k := l.length) ⟨0, by omega, rfl, ?_, ?_, ?_, ?_⟩ ?_
  · simp (maxSteps := 4000000) only [go_sem, ↓reduceIte, reduceCtorEq, Nat.reduceEqDiff, Nat.reduceBEq, Nat.reduceAdd, Nat.reduceSub, Nat.reduceMul, Nat.reduceLT, Nat.reduceLeDiff, Nat.reduceBNe, Int.reduceBEq, Int.reduceBNe, Int.reduceLT, Int.reduceLE, Spn.a, Msg.a, Eff.a]
  · simp (maxSteps := 4000000) only [go_sem, ↓reduceIte, reduceCtorEq, Nat.reduceEqDiff, Nat.reduceBEq, Nat.reduceAdd, Nat.reduceSub, Nat.reduceMul, Nat.reduceLT, Nat.reduceLeDiff, Nat.reduceBNe, Int.reduceBEq, Int.reduceBNe, Int.reduceLT, Int.reduceLE, Spn.a, Msg.a, Eff.a, List.length_map]
  · simp (maxSteps := 4000000) only [go_sem, ↓reduceIte, reduceCtorEq, Nat.reduceEqDiff, Nat.reduceBEq, Nat.reduceAdd, Nat.reduceSub, Nat.reduceMul, Nat.reduceLT, Nat.reduceLeDiff, Nat.reduceBNe, Int.reduceBEq, Int.reduceBNe, Int.reduceLT, Int.reduceLE, Spn.a, Msg.a, Eff.a]
    rfl
  · simp (maxSteps := 4000000) only [go_sem, ↓reduceIte, reduceCtorEq, Nat.reduceEqDiff, Nat.reduceBEq, Nat.reduceAdd, Nat.reduceSub, Nat.reduceMul, Nat.reduceLT, Nat.reduceLeDiff, Nat.reduceBNe, Int.reduceBEq, Int.reduceBNe, Int.reduceLT, Int.reduceLE, Spn.a, Msg.a, Eff.a]
    rfl
  rintro k σ ⟨j, hj, rfl, t6, t7, t3, t8⟩
  simp only [r_bSize_l7]
  by_cases hlt : j < l.length
  · have hlt' : (j : Int) < (l.length : Int) := by omega
    obtain ⟨x, hx⟩ := getM hlt
    have hm := hl.2 x (List.mem_of_getElem? hx)
    have hw := wS (j := j) (by have := hl.1; omega)
    have hw2 : IntKind.i64.wrap (((sizes (l.take j) : Nat) : Int) + (x.size : Int)) = ((sizes (l.take (j + 1)) : Nat) : Int) := by
      rw [IntWalk.i64_in _ (by have := sizes_take hl j; have := size_le x hm.1 hm.2.2; omega), take_one hx, sizes_app, sizes_cons]; simp [sizes]
    simp (maxSteps := 4000000) only [go_sem, ↓reduceIte, reduceCtorEq, Nat.reduceEqDiff, Nat.reduceBEq, Nat.reduceAdd, Nat.reduceSub, Nat.reduceMul, Nat.reduceLT, Nat.reduceLeDiff, Nat.reduceBNe, Int.reduceBEq, Int.reduceBNe, Int.reduceLT, Int.reduceLE, Spn.a, Msg.a, Eff.a, t6, t7, t3, t8, hlt', gM hx, List.length_map, Int.toNat_natCast]
    refine ⟨by omega, ?_⟩
    (first | refine calling (msgSize x hm.1 hm.2.2) ?_ | refine callingH (msgSize x hm.1 hm.2.2) ?_)
    simp (maxSteps := 4000000) only [go_sem, ↓reduceIte, reduceCtorEq, Nat.reduceEqDiff, Nat.reduceBEq, Nat.reduceAdd, Nat.reduceSub, Nat.reduceMul, Nat.reduceLT, Nat.reduceLeDiff, Nat.reduceBNe, Int.reduceBEq, Int.reduceBNe, Int.reduceLT, Int.reduceLE, Spn.a, Msg.a, Eff.a, t6, t7, t3, t8, hw, hw2]
    refine ⟨l.length - (j + 1), by omega, j + 1, by omega, rfl, ?_, ?_, ?_, ?_⟩ <;>
      (simp (maxSteps := 4000000) only [go_sem, ↓reduceIte, reduceCtorEq, Nat.reduceEqDiff, Nat.reduceBEq, Nat.reduceAdd, Nat.reduceSub, Nat.reduceMul, Nat.reduceLT, Nat.reduceLeDiff, Nat.reduceBNe, Int.reduceBEq, Int.reduceBNe, Int.reduceLT, Int.reduceLE, Spn.a, Msg.a, Eff.a, t6, t7, t3, t8, hw, hw2])
  · have hlt' : ¬ (j : Int) < (l.length : Int) := by omega
    simp (maxSteps := 4000000) only [go_sem, ↓reduceIte, reduceCtorEq, Nat.reduceEqDiff, Nat.reduceBEq, Nat.reduceAdd, Nat.reduceSub, Nat.reduceMul, Nat.reduceLT, Nat.reduceLeDiff, Nat.reduceBNe, Int.reduceBEq, Int.reduceBNe, Int.reduceLT, Int.reduceLE, Spn.a, Msg.a, Eff.a, t6, t7, t3, t8, hlt', List.length_map]
    rw [List.take_of_length_le (by omega)]
end
section
/-
  A tree in numbers, by the code: walked.
-/
open Go.RowKit
set_option linter.unusedVariables false
set_option linter.unusedSimpArgs false
set_option maxRecDepth 100000
attribute [local go_sem ↓] runOp headOp
/-! ### percolate/gauge.high -/
def r_gHi_0 : Reg := ⟨[], [⟨(.mv (.c (.int .i64 0))), (some 2), none, [], []⟩], [], [], false⟩
def r_gHi_1 : Reg := ⟨[], [⟨(.mv (.c (.int .i64 0))), (some 3), none, [], []⟩], [], [], false⟩
def t_gHi_2 : List ROp := [⟨(.mv (.t 0)), (some 6), none, [], []⟩, ⟨(.len false (.t 6)), (some 7), none, [], []⟩, ⟨(.mv (.c (.int .i64 0))), (some 8), none, [], []⟩]
def r_gHi_2 : Reg := ⟨[], t_gHi_2, [], [], false⟩
def r_gHi_3 : Reg := ⟨[], [⟨(.bin .lss (.t 8) (.t 7)), (some 9), none, [], []⟩], [], [], false⟩
def t_gHi_4 : List ROp := [⟨(.iaddr 10 (.t 6) (.t 8)), (some 10), none, [5], []⟩, ⟨(.load 10 true (.t 10)), (some 11), none, [5], []⟩, ⟨(.alloc 10 34 (.agg [(.int .i64 0), (.int .i64 0), (.sl []), (.sl []), (.str ⟨#[]⟩), (.bool false), (.int .i64 0), (.int .i64 0), (.sl []), (.sl [])])), (some 5), none, [], []⟩, ⟨(.store 10 (.t 5) (.t 11)), none, none, [], []⟩]
def r_gHi_4 : Reg := ⟨[], t_gHi_4, [5], [], false⟩
def t_gHi_5 : List ROp := [⟨(.faddr 1 (.t 5)), (some 12), none, [], []⟩, ⟨(.load 1 false (.t 12)), (some 13), none, [], []⟩, ⟨(.bin .geq (.t 13) (.c (.int .i64 0))), (some 14), none, [], []⟩, ⟨(.mv (.t 14)), (some 15), none, [], []⟩, ⟨(.faddr 1 (.t 5)), (some 16), (some (15, true)), [], []⟩, ⟨(.load 1 false (.t 16)), (some 17), (some (15, true)), [], []⟩, ⟨(.bin .leq (.t 17) (.c (.int .i64 60))), (some 18), (some (15, true)), [], []⟩, ⟨(.pick (.t 15) (.t 18) (.c (.bool false))), (some 19), none, [], []⟩]
def r_gHi_5 : Reg := ⟨[], t_gHi_5, [], [], false⟩
def t_gHi_6 : List ROp := [⟨(.mv (.t 3)), (some 20), none, [], []⟩, ⟨(.faddr 1 (.t 5)), (some 21), none, [], []⟩, ⟨(.load 1 false (.t 21)), (some 22), none, [], []⟩, ⟨(.bin .add (.t 22) (.c (.int .i64 1))), (some 23), none, [], []⟩, ⟨(.mx true (.t 20) (.t 23)), (some 24), none, [], []⟩, ⟨(.mv (.t 24)), (some 3), none, [], []⟩]
def r_gHi_6 : Reg := ⟨[], t_gHi_6, [], [], false⟩
def r_gHi_7 : Reg := ⟨[], [⟨(.bin .add (.t 8) (.c (.int .i64 1))), (some 25), none, [], []⟩, ⟨(.mv (.t 25)), (some 8), none, [], []⟩], [], [], false⟩
def r_gHi_l8 : IR := (.seq (.reg r_gHi_3)
  (.seq (.cond (.t 9) .skip
  (.exit 0))
  (.seq (.block 1 (.seq (.reg r_gHi_4)
  (.seq (.reg r_gHi_5)
  (.cond (.t 19) (.reg r_gHi_6)
  .skip))))
  (.reg r_gHi_7))))
def r_gHi_9 : Reg := ⟨[], [⟨(.mv (.t 3)), (some 26), none, [], []⟩, ⟨(.mv (.t 26)), (some 2), none, [], []⟩], [], [], false⟩
def ir_gHi : IR := (.seq (.reg r_gHi_0)
  (.seq (.reg r_gHi_1)
  (.seq (.seq (.reg r_gHi_2)
  (.block 0 (.loop r_gHi_l8)))
  (.seq (.reg r_gHi_9)
  .ret))))
def res_gHi : List RDesc := [(.tmp 2)]
theorem e_gHi_0 (C : FuncId → List AV → AV → Prop) (σ : St) (K : St → Prop) : runReg C r_gHi_0 σ K = runOps C [⟨(.mv (.c (.int .i64 0))), (some 2), none, [], []⟩] (σ.kills []) K := rfl
theorem e_gHi_1 (C : FuncId → List AV → AV → Prop) (σ : St) (K : St → Prop) : runReg C r_gHi_1 σ K = runOps C [⟨(.mv (.c (.int .i64 0))), (some 3), none, [], []⟩] (σ.kills []) K := rfl
theorem e_gHi_2 (C : FuncId → List AV → AV → Prop) (σ : St) (K : St → Prop) : runReg C r_gHi_2 σ K = runOps C t_gHi_2 (σ.kills []) K := rfl
theorem e_gHi_3 (C : FuncId → List AV → AV → Prop) (σ : St) (K : St → Prop) : runReg C r_gHi_3 σ K = runOps C [⟨(.bin .lss (.t 8) (.t 7)), (some 9), none, [], []⟩] (σ.kills []) K := rfl
theorem e_gHi_4 (C : FuncId → List AV → AV → Prop) (σ : St) (K : St → Prop) : runReg C r_gHi_4 σ K = runOps C t_gHi_4 (σ.kills [5]) K := rfl
theorem e_gHi_5 (C : FuncId → List AV → AV → Prop) (σ : St) (K : St → Prop) : runReg C r_gHi_5 σ K = runOps C t_gHi_5 (σ.kills []) K := rfl
theorem e_gHi_6 (C : FuncId → List AV → AV → Prop) (σ : St) (K : St → Prop) : runReg C r_gHi_6 σ K = runOps C t_gHi_6 (σ.kills []) K := rfl
theorem e_gHi_7 (C : FuncId → List AV → AV → Prop) (σ : St) (K : St → Prop) : runReg C r_gHi_7 σ K = runOps C [⟨(.bin .add (.t 8) (.c (.int .i64 1))), (some 25), none, [], []⟩, ⟨(.mv (.t 25)), (some 8), none, [], []⟩] (σ.kills []) K := rfl
theorem e_gHi_9 (C : FuncId → List AV → AV → Prop) (σ : St) (K : St → Prop) : runReg C r_gHi_9 σ K = runOps C [⟨(.mv (.t 3)), (some 26), none, [], []⟩, ⟨(.mv (.t 26)), (some 2), none, [], []⟩] (σ.kills []) K := rfl
theorem fn_gHi {args : List AV} {r : AV} (ha : args.length.ble Tryd.f19.ntmps = true) (h : run (AFn Tryd.prog) ir_gHi (endQ res_gHi r) (initSt args)) : AFn Tryd.prog 19 args r :=
  AFn.of_code (pv := false) (hint := fun _ => []) (c := Tryd.f19.body.getD .skip) (by kernel_rfl) (by kernel_rfl) Tryd.func19 (by kernel_rfl) (by kernel_rfl) (by kernel_rfl) (of_decide_eq_true (by kernel_rfl)) (Nat.le_of_ble_eq_true ha) (Nat.le_of_ble_eq_true (by kernel_rfl)) (run_ok h)
/-! ### percolate/gauge.Of -/
def t_gOf_0 : List ROp := [⟨(.alloc 9 37 (.agg [(.int .i64 0), (.int .i64 0), (.int .i64 0), (.int .i64 0), (.int .i64 0), (.int .i64 0), (.int .i64 0), (.cst (.slice none 0 0)), (.cst (.slice none 0 0))])), (some 2), none, [], []⟩]
def r_gOf_0 : Reg := ⟨[], t_gOf_0, [2], [], false⟩
def t_gOf_1 : List ROp := [⟨(.mv (.t 0)), (some 6), none, [9, 3], []⟩, ⟨(.len false (.t 6)), (some 7), none, [9, 3], []⟩, ⟨(.mv (.t 0)), (some 8), none, [9, 3], []⟩, ⟨(.callv (.c (.clo 19 [] [])) [(.t 8)]), (some 9), none, [3], []⟩, ⟨(.bld [(.int .i64 0), (.int .i64 0), (.int .i64 0), (.int .i64 0), (.int .i64 0), (.int .i64 0), (.int .i64 0), (.cst (.slice none 0 0)), (.cst (.slice none 0 0))] [⟨0, 1, (.t 7)⟩, ⟨2, 1, (.t 9)⟩]), (some 10), none, [3], []⟩, ⟨(.alloc 9 37 (.agg [(.int .i64 0), (.int .i64 0), (.int .i64 0), (.int .i64 0), (.int .i64 0), (.int .i64 0), (.int .i64 0), (.cst (.slice none 0 0)), (.cst (.slice none 0 0))])), (some 3), none, [], []⟩, ⟨(.store 9 (.t 3) (.t 10)), none, none, [], []⟩]
def r_gOf_1 : Reg := ⟨[], t_gOf_1, [9, 3], [], false⟩
def h_gOf_2 : List ROp := [⟨(.faddr 2 (.t 3)), (some 11), none, [13, 16], []⟩, ⟨(.load 1 false (.t 11)), (some 12), none, [13, 16], []⟩, ⟨(.call 2 [(.c (.int .i64 8)), (.c (.int .i64 1)), (.c (.int .i64 3)), (.c (.int .i64 0)), (.t 12)]), (some 13), none, [16], []⟩, ⟨(.faddr 2 (.t 3)), (some 14), none, [13, 16], []⟩, ⟨(.load 1 false (.t 14)), (some 15), none, [13, 16], []⟩, ⟨(.call 2 [(.c (.int .i64 8)), (.c (.int .i64 1)), (.c (.int .i64 3)), (.c (.int .i64 0)), (.t 15)]), (some 16), none, [13, 3], []⟩, ⟨(.faddr 7 (.t 3)), (some 17), none, [16], []⟩]
def r_gOf_2 : Reg := ⟨h_gOf_2, [], [13, 16], [], true⟩
def r_gOf_3 : List XOp := [(.op [] ⟨(.faddr 8 (.t 3)), (some 18), none, [], []⟩), (.op [] ⟨(.storep 1 (.t 18) (.t 16)), none, none, [], []⟩)]
def t_gOf_4 : List ROp := [⟨(.mv (.t 0)), (some 19), none, [], []⟩, ⟨(.len false (.t 19)), (some 20), none, [], []⟩, ⟨(.mv (.c (.int .i64 0))), (some 21), none, [], []⟩]
def r_gOf_4 : Reg := ⟨[], t_gOf_4, [], [], false⟩
def r_gOf_5 : Reg := ⟨[], [⟨(.bin .lss (.t 21) (.t 20)), (some 22), none, [], []⟩], [], [], false⟩
def t_gOf_6 : List ROp := [⟨(.iaddr 10 (.t 19) (.t 21)), (some 23), none, [5], []⟩, ⟨(.loadp 10 true (.t 23)), (some 24), none, [5], []⟩, ⟨(.alloc 10 34 (.agg [(.int .i64 0), (.int .i64 0), (.cst (.slice none 0 0)), (.cst (.slice none 0 0)), (.str ⟨#[]⟩), (.bool false), (.int .i64 0), (.int .i64 0), (.cst (.slice none 0 0)), (.cst (.slice none 0 0))])), (some 5), none, [], []⟩, ⟨(.store 10 (.t 5) (.t 24)), none, none, [], []⟩]
def r_gOf_6 : Reg := ⟨[], t_gOf_6, [5], [], false⟩
def t_gOf_7 : List ROp := [⟨(.faddr 3 (.t 3)), (some 25), none, [], []⟩, ⟨(.load 1 false (.t 25)), (some 26), none, [], []⟩, ⟨(.faddr 9 (.t 5)), (some 27), none, [], []⟩, ⟨(.loadp 1 false (.t 27)), (some 28), none, [], []⟩, ⟨(.len false (.t 28)), (some 29), none, [], []⟩, ⟨(.bin .add (.t 26) (.t 29)), (some 30), none, [], []⟩, ⟨(.faddr 3 (.t 3)), (some 31), none, [], []⟩, ⟨(.store 1 (.t 31) (.t 30)), none, none, [], []⟩]
def r_gOf_7 : Reg := ⟨[], t_gOf_7, [], [], false⟩
def t_gOf_8 : List ROp := [⟨(.faddr 4 (.t 3)), (some 32), none, [], []⟩, ⟨(.load 1 false (.t 32)), (some 33), none, [], []⟩, ⟨(.faddr 8 (.t 5)), (some 34), none, [], []⟩, ⟨(.loadp 1 false (.t 34)), (some 35), none, [], []⟩, ⟨(.len false (.t 35)), (some 36), none, [], []⟩, ⟨(.bin .add (.t 33) (.t 36)), (some 37), none, [], []⟩, ⟨(.faddr 4 (.t 3)), (some 38), none, [], []⟩, ⟨(.store 1 (.t 38) (.t 37)), none, none, [], []⟩]
def r_gOf_8 : Reg := ⟨[], t_gOf_8, [], [], false⟩
def t_gOf_9 : List ROp := [⟨(.bin .add (.t 40) (.t 43)), (some 44), none, [], []⟩, ⟨(.faddr 5 (.t 3)), (some 45), none, [], []⟩, ⟨(.store 1 (.t 45) (.t 44)), none, none, [], [3]⟩]
def h_gOf_9 : List ROp := [⟨(.faddr 5 (.t 3)), (some 39), none, [43], []⟩, ⟨(.load 1 false (.t 39)), (some 40), none, [43], []⟩, ⟨(.faddr 8 (.t 5)), (some 41), none, [43], []⟩, ⟨(.loadp 1 false (.t 41)), (some 42), none, [43], []⟩, ⟨(.callv (.c (.clo 20 [] [])) [(.t 42)]), (some 43), none, [], []⟩]
def r_gOf_9 : Reg := ⟨h_gOf_9, t_gOf_9, [43], [], true⟩
def t_gOf_10 : List ROp := [⟨(.faddr 1 (.t 5)), (some 46), none, [], []⟩, ⟨(.load 1 false (.t 46)), (some 47), none, [], []⟩, ⟨(.bin .eql (.t 47) (.c (.int .i64 0))), (some 48), none, [], []⟩]
def r_gOf_10 : Reg := ⟨[], t_gOf_10, [], [], false⟩
def t_gOf_11 : List ROp := [⟨(.faddr 1 (.t 3)), (some 49), none, [], []⟩, ⟨(.load 1 false (.t 49)), (some 50), none, [], []⟩, ⟨(.bin .add (.t 50) (.c (.int .i64 1))), (some 51), none, [], []⟩, ⟨(.faddr 1 (.t 3)), (some 52), none, [], []⟩, ⟨(.store 1 (.t 52) (.t 51)), none, none, [], []⟩]
def r_gOf_11 : Reg := ⟨[], t_gOf_11, [], [], false⟩
def t_gOf_12 : List ROp := [⟨(.faddr 9 (.t 5)), (some 53), none, [], []⟩, ⟨(.loadp 1 false (.t 53)), (some 54), none, [], []⟩, ⟨(.len false (.t 54)), (some 55), none, [], []⟩, ⟨(.bin .eql (.t 55) (.c (.int .i64 0))), (some 56), none, [], []⟩]
def r_gOf_12 : Reg := ⟨[], t_gOf_12, [], [], false⟩
def t_gOf_13 : List ROp := [⟨(.faddr 6 (.t 3)), (some 57), none, [], []⟩, ⟨(.load 1 false (.t 57)), (some 58), none, [], []⟩, ⟨(.bin .add (.t 58) (.c (.int .i64 1))), (some 59), none, [], []⟩, ⟨(.faddr 6 (.t 3)), (some 60), none, [], []⟩, ⟨(.store 1 (.t 60) (.t 59)), none, none, [], []⟩]
def r_gOf_13 : Reg := ⟨[], t_gOf_13, [], [], false⟩
def t_gOf_14 : List ROp := [⟨(.faddr 1 (.t 5)), (some 61), none, [], []⟩, ⟨(.load 1 false (.t 61)), (some 62), none, [], []⟩, ⟨(.bin .geq (.t 62) (.c (.int .i64 0))), (some 63), none, [], []⟩, ⟨(.mv (.t 63)), (some 64), none, [], []⟩, ⟨(.faddr 1 (.t 5)), (some 65), (some (64, true)), [], []⟩, ⟨(.load 1 false (.t 65)), (some 66), (some (64, true)), [], []⟩, ⟨(.faddr 2 (.t 3)), (some 67), (some (64, true)), [], []⟩, ⟨(.load 1 false (.t 67)), (some 68), (some (64, true)), [], []⟩, ⟨(.bin .lss (.t 66) (.t 68)), (some 69), (some (64, true)), [], []⟩, ⟨(.pick (.t 64) (.t 69) (.c (.bool false))), (some 70), none, [], []⟩]
def r_gOf_14 : Reg := ⟨[], t_gOf_14, [], [], false⟩
def t_gOf_15 : List ROp := [⟨(.faddr 7 (.t 3)), (some 71), none, [], []⟩, ⟨(.loadp 1 false (.t 71)), (some 72), none, [], []⟩, ⟨(.faddr 1 (.t 5)), (some 73), none, [], []⟩, ⟨(.load 1 false (.t 73)), (some 74), none, [], []⟩, ⟨(.iaddr 1 (.t 72) (.t 74)), (some 75), none, [], []⟩, ⟨(.load 1 false (.t 75)), (some 76), none, [], []⟩, ⟨(.bin .add (.t 76) (.c (.int .i64 1))), (some 77), none, [], []⟩, ⟨(.iaddr 1 (.t 72) (.t 74)), (some 78), none, [], []⟩, ⟨(.store 1 (.t 78) (.t 77)), none, none, [], []⟩]
def r_gOf_15 : Reg := ⟨[], t_gOf_15, [], [], false⟩
def t_gOf_16 : List ROp := [⟨(.bin .add (.t 84) (.t 87)), (some 88), none, [], []⟩, ⟨(.iaddr 1 (.t 80) (.t 82)), (some 89), none, [], []⟩, ⟨(.store 1 (.t 89) (.t 88)), none, none, [], [80]⟩]
def h_gOf_16 : List ROp := [⟨(.faddr 8 (.t 3)), (some 79), none, [], []⟩, ⟨(.loadp 1 false (.t 79)), (some 80), none, [], []⟩, ⟨(.faddr 1 (.t 5)), (some 81), none, [], []⟩, ⟨(.load 1 false (.t 81)), (some 82), none, [], []⟩, ⟨(.iaddr 1 (.t 80) (.t 82)), (some 83), none, [], []⟩, ⟨(.load 1 false (.t 83)), (some 84), none, [], []⟩, ⟨(.faddr 8 (.t 5)), (some 85), none, [], []⟩, ⟨(.loadp 1 false (.t 85)), (some 86), none, [], []⟩, ⟨(.len false (.t 86)), (some 87), none, [], []⟩]
def r_gOf_16 : Reg := ⟨h_gOf_16, t_gOf_16, [], [], true⟩
def r_gOf_17 : Reg := ⟨[], [⟨(.bin .add (.t 21) (.c (.int .i64 1))), (some 90), none, [], []⟩, ⟨(.mv (.t 90)), (some 21), none, [], []⟩], [], [], false⟩
def r_gOf_l18 : IR := (.seq (.reg r_gOf_5)
  (.seq (.cond (.t 22) .skip
  (.exit 0))
  (.seq (.block 1 (.seq (.seq (.reg r_gOf_6)
  (.gini [⟨5, 2, 542, 1, 9⟩, ⟨5, 3, 543, 1, 3⟩, ⟨5, 8, 540, 6, 54⟩, ⟨5, 9, 541, 2, 46⟩]))
  (.seq (.reg r_gOf_7)
  (.seq (.reg r_gOf_8)
  (.seq (.reg r_gOf_9)
  (.seq (.seq (.reg r_gOf_10)
  (.cond (.t 48) (.seq (.reg r_gOf_11)
  (.seq (.reg r_gOf_12)
  (.cond (.t 56) (.reg r_gOf_13)
  .skip)))
  .skip))
  (.seq (.reg r_gOf_14)
  (.cond (.t 70) (.seq (.reg r_gOf_15)
  (.reg r_gOf_16))
  .skip))))))))
  (.reg r_gOf_17))))
def r_gOf_19 : Reg := ⟨[], [⟨(.loadp 9 true (.t 3)), (some 91), none, [], []⟩, ⟨(.store 9 (.t 2) (.t 91)), none, none, [], []⟩], [], [], false⟩
def ir_gOf (P : Program) : IR := (.seq (.seq (.reg r_gOf_0)
  (.gini [⟨2, 7, 523, 1, 3⟩, ⟨2, 8, 516, 1, 3⟩]))
  (.seq (.seq (.reg r_gOf_1)
  (.gini [⟨3, 7, 531, 1, 3⟩, ⟨3, 8, 524, 1, 3⟩]))
  (.seq (.regp P r_gOf_2 1 3 17 13 r_gOf_3)
  (.seq (.seq (.reg r_gOf_4)
  (.block 0 (.loop r_gOf_l18)))
  (.seq (.reg r_gOf_19)
  .ret)))))
def res_gOf : List RDesc := [(.cell 2 9 true)]
theorem e_gOf_0 (C : FuncId → List AV → AV → Prop) (σ : St) (K : St → Prop) : runReg C r_gOf_0 σ K = runOps C t_gOf_0 (σ.kills [2]) K := rfl
theorem e_gOf_1 (C : FuncId → List AV → AV → Prop) (σ : St) (K : St → Prop) : runReg C r_gOf_1 σ K = runOps C t_gOf_1 (σ.kills [9, 3]) K := rfl
theorem e_gOf_2 (P : Program) (C : FuncId → List AV → AV → Prop) (l : List XOp) (σ : St) (K : St → Prop) : runRegP P C r_gOf_2 1 3 17 13 l σ K = runHead C [] [] h_gOf_2 (σ.kills [13, 16]) fun σ => stpSrc 17 13 3 σ ∧ runXs P C (.op [] ⟨.storep 1 (.t 17) (.t 13), none, none, [], []⟩ :: l) σ K := rfl
theorem e_gOf_4 (C : FuncId → List AV → AV → Prop) (σ : St) (K : St → Prop) : runReg C r_gOf_4 σ K = runOps C t_gOf_4 (σ.kills []) K := rfl
theorem e_gOf_5 (C : FuncId → List AV → AV → Prop) (σ : St) (K : St → Prop) : runReg C r_gOf_5 σ K = runOps C [⟨(.bin .lss (.t 21) (.t 20)), (some 22), none, [], []⟩] (σ.kills []) K := rfl
theorem e_gOf_6 (C : FuncId → List AV → AV → Prop) (σ : St) (K : St → Prop) : runReg C r_gOf_6 σ K = runOps C t_gOf_6 (σ.kills [5]) K := rfl
theorem e_gOf_7 (C : FuncId → List AV → AV → Prop) (σ : St) (K : St → Prop) : runReg C r_gOf_7 σ K = runOps C t_gOf_7 (σ.kills []) K := rfl
theorem e_gOf_8 (C : FuncId → List AV → AV → Prop) (σ : St) (K : St → Prop) : runReg C r_gOf_8 σ K = runOps C t_gOf_8 (σ.kills []) K := rfl
theorem e_gOf_9 (C : FuncId → List AV → AV → Prop) (σ : St) (K : St → Prop) : runReg C r_gOf_9 σ K = runHead C [] t_gOf_9 h_gOf_9 (σ.kills [43]) K := rfl
theorem e_gOf_10 (C : FuncId → List AV → AV → Prop) (σ : St) (K : St → Prop) : runReg C r_gOf_10 σ K = runOps C t_gOf_10 (σ.kills []) K := rfl
theorem e_gOf_11 (C : FuncId → List AV → AV → Prop) (σ : St) (K : St → Prop) : runReg C r_gOf_11 σ K = runOps C t_gOf_11 (σ.kills []) K := rfl
theorem e_gOf_12 (C : FuncId → List AV → AV → Prop) (σ : St) (K : St → Prop) : runReg C r_gOf_12 σ K = runOps C t_gOf_12 (σ.kills []) K := rfl
theorem e_gOf_13 (C : FuncId → List AV → AV → Prop) (σ : St) (K : St → Prop) : runReg C r_gOf_13 σ K = runOps C t_gOf_13 (σ.kills []) K := rfl
theorem e_gOf_14 (C : FuncId → List AV → AV → Prop) (σ : St) (K : St → Prop) : runReg C r_gOf_14 σ K = runOps C t_gOf_14 (σ.kills []) K := rfl
theorem e_gOf_15 (C : FuncId → List AV → AV → Prop) (σ : St) (K : St → Prop) : runReg C r_gOf_15 σ K = runOps C t_gOf_15 (σ.kills []) K := rfl
theorem e_gOf_16 (C : FuncId → List AV → AV → Prop) (σ : St) (K : St → Prop) : runReg C r_gOf_16 σ K = runHead C [] t_gOf_16 h_gOf_16 (σ.kills []) K := rfl
theorem e_gOf_17 (C : FuncId → List AV → AV → Prop) (σ : St) (K : St → Prop) : runReg C r_gOf_17 σ K = runOps C [⟨(.bin .add (.t 21) (.c (.int .i64 1))), (some 90), none, [], []⟩, ⟨(.mv (.t 90)), (some 21), none, [], []⟩] (σ.kills []) K := rfl
theorem e_gOf_19 (C : FuncId → List AV → AV → Prop) (σ : St) (K : St → Prop) : runReg C r_gOf_19 σ K = runOps C [⟨(.loadp 9 true (.t 3)), (some 91), none, [], []⟩, ⟨(.store 9 (.t 2) (.t 91)), none, none, [], []⟩] (σ.kills []) K := rfl
theorem fn_gOf {args : List AV} {r : AV} (ha : args.length.ble Tryd.f10.ntmps = true) (h : run (AFn Tryd.prog) (ir_gOf Tryd.prog) (endQ res_gOf r) (initSt args)) : AFn Tryd.prog 10 args r :=
  AFn.of_code (pv := true) (hint := fun _ => []) (c := Tryd.f10.body.getD .skip) (by kernel_rfl) (by kernel_rfl) Tryd.func10 (by kernel_rfl) (by kernel_rfl) (by kernel_rfl) (of_decide_eq_true (by kernel_rfl)) (Nat.le_of_ble_eq_true ha) (Nat.le_of_ble_eq_true (by kernel_rfl)) (run_ok h)
attribute [local go_sem ↓] ir_gHi
attribute [local go_sem] res_gHi e_gHi_0 e_gHi_1 e_gHi_2 t_gHi_2 e_gHi_3 e_gHi_4 t_gHi_4 e_gHi_5 t_gHi_5 e_gHi_6 t_gHi_6 e_gHi_7 e_gHi_9
attribute [local go_sem ↓] ir_gOf
attribute [local go_sem] res_gOf e_gOf_0 t_gOf_0 e_gOf_1 t_gOf_1 e_gOf_2 h_gOf_2 e_gOf_4 t_gOf_4 e_gOf_5 e_gOf_6 t_gOf_6 e_gOf_7 t_gOf_7 e_gOf_8 t_gOf_8 e_gOf_9 t_gOf_9 h_gOf_9 e_gOf_10 t_gOf_10 e_gOf_11 t_gOf_11 e_gOf_12 t_gOf_12 e_gOf_13 t_gOf_13 e_gOf_14 t_gOf_14 e_gOf_15 t_gOf_15 e_gOf_16 t_gOf_16 h_gOf_16 e_gOf_17 e_gOf_19 r_gOf_3
/-- few enough things in a node -/
structure Nd.Gd (x : Nd) : Prop where
  rows : x.rows.length ≤ 1000
  msgs : x.msgs.length ≤ 1000
  kok : KOk x.msgs
theorem sumN_snoc {α : Type} (f : α → Nat) : ∀ (l : List α) (x : α), sumN f (l ++ [x]) = sumN f l + f x
  | [], x => by simp [sumN]
  | y :: l, x => by
    show f y + sumN f (l ++ [x]) = f y + sumN f l + f x
    rw [sumN_snoc f l x]; omega
theorem sumN_le {α : Type} {f : α → Nat} {b : Nat} : ∀ {l : List α}, (∀ x, x ∈ l → f x ≤ b) → sumN f l ≤ l.length * b
  | [], _ => by simp [sumN]
  | y :: l, h => by
    have h1 := h y (List.mem_cons_self ..)
    have h2 := sumN_le (l := l) (f := f) (b := b) fun x hx => h x (List.mem_cons_of_mem _ hx)
    show f y + sumN f l ≤ (l.length + 1) * b
    rw [Nat.add_mul]; omega
def hiS (h : Nat) (n : Nd) : Nat := if 0 ≤ n.level ∧ n.level ≤ 60 then max h (n.level.toNat + 1) else h
def hiG : Nat → List Nd → Nat
  | h, [] => h
  | h, n :: l => hiG (hiS h n) l
theorem hiS_le {h : Nat} (hh : h ≤ 61) (n : Nd) : hiS h n ≤ 61 := by unfold hiS; split <;> omega
theorem hiG_le : ∀ (l : List Nd) {h : Nat}, h ≤ 61 → hiG h l ≤ 61
  | [], _, hh => hh
  | n :: l, h, hh => hiG_le l (hiS_le hh n)
def ghI (l : List Nd) (R : Nat) (k : Nat) (σ : St) : Prop :=
  ∃ (i h : Nat), i ≤ l.length ∧ k = l.length - i ∧ h ≤ 61 ∧ hiG h (l.drop i) = R ∧ σ.T 3 = .int .i64 h ∧ σ.T 6 = .sl (l.map Nd.a) ∧ σ.T 7 = .int .i64 l.length ∧ σ.T 8 = .int .i64 i
set_option maxHeartbeats 4000000 in
theorem gHi_ok (l : List Nd) (hl : l.length ≤ 1000000) : AFn Tryd.prog 19 [.sl (l.map Nd.a)] (.int .i64 (hiG 0 l)) := by
  refine fn_gHi rfl ?_
  obtain ⟨R, hR⟩ : ∃ R, hiG 0 l = R := ⟨_, rfl⟩
  rw [hR]
  simp (maxSteps := 4000000) only [go_sem, ↓reduceIte, reduceCtorEq, Nat.reduceEqDiff, Nat.reduceBEq, Nat.reduceAdd, Nat.reduceSub, Nat.reduceMul, Nat.reduceLT, Nat.reduceLeDiff, Nat.reduceBNe, Int.reduceBEq, Int.reduceBNe, Int.reduceLT, Int.reduceLE, Msg.a, Par.a, evG, evP, Nat.reduceMod, Nat.reduceDiv, Nat.reduceSub, Nat.reduceLeDiff, Nat.reduceMul, Nat.reduceAdd, List.length_map]
  refine run_loop (ghI l R) (k := l.length) ⟨0, 0, Nat.zero_le _, rfl, Nat.zero_le _, hR, ?_, ?_, ?_, ?_⟩ ?_
  · (simp (maxSteps := 4000000) only [go_sem, ↓reduceIte, reduceCtorEq, Nat.reduceEqDiff, Nat.reduceBEq, Nat.reduceAdd, Nat.reduceSub, Nat.reduceMul, Nat.reduceLT, Nat.reduceLeDiff, Nat.reduceBNe, Int.reduceBEq, Int.reduceBNe, Int.reduceLT, Int.reduceLE, Msg.a, Par.a, evG, evP, Nat.reduceMod, Nat.reduceDiv, Nat.reduceSub, Nat.reduceLeDiff, Nat.reduceMul, Nat.reduceAdd]) <;> rfl
  · simp (maxSteps := 4000000) only [go_sem, ↓reduceIte, reduceCtorEq, Nat.reduceEqDiff, Nat.reduceBEq, Nat.reduceAdd, Nat.reduceSub, Nat.reduceMul, Nat.reduceLT, Nat.reduceLeDiff, Nat.reduceBNe, Int.reduceBEq, Int.reduceBNe, Int.reduceLT, Int.reduceLE, Msg.a, Par.a, evG, evP, Nat.reduceMod, Nat.reduceDiv, Nat.reduceSub, Nat.reduceLeDiff, Nat.reduceMul, Nat.reduceAdd]
  · simp (maxSteps := 4000000) only [go_sem, ↓reduceIte, reduceCtorEq, Nat.reduceEqDiff, Nat.reduceBEq, Nat.reduceAdd, Nat.reduceSub, Nat.reduceMul, Nat.reduceLT, Nat.reduceLeDiff, Nat.reduceBNe, Int.reduceBEq, Int.reduceBNe, Int.reduceLT, Int.reduceLE, Msg.a, Par.a, evG, evP, Nat.reduceMod, Nat.reduceDiv, Nat.reduceSub, Nat.reduceLeDiff, Nat.reduceMul, Nat.reduceAdd, List.length_map]
  · (simp (maxSteps := 4000000) only [go_sem, ↓reduceIte, reduceCtorEq, Nat.reduceEqDiff, Nat.reduceBEq, Nat.reduceAdd, Nat.reduceSub, Nat.reduceMul, Nat.reduceLT, Nat.reduceLeDiff, Nat.reduceBNe, Int.reduceBEq, Int.reduceBNe, Int.reduceLT, Int.reduceLE, Msg.a, Par.a, evG, evP, Nat.reduceMod, Nat.reduceDiv, Nat.reduceSub, Nat.reduceLeDiff, Nat.reduceMul, Nat.reduceAdd]) <;> rfl
  clear hR
  rintro k σ ⟨i, h, hi, rfl, hh, hR, t3, t6, t7, t8⟩
  simp only [r_gHi_l8]
  by_cases hlt : i < l.length
  case neg =>
    have hlt' : ¬ (i : Int) < (l.length : Int) := by omega
    have e : l.drop i = [] := List.drop_eq_nil_of_le (by omega)
    rw [e, hiG] at hR
    subst hR
    simp (maxSteps := 4000000) only [go_sem, ↓reduceIte, reduceCtorEq, Nat.reduceEqDiff, Nat.reduceBEq, Nat.reduceAdd, Nat.reduceSub, Nat.reduceMul, Nat.reduceLT, Nat.reduceLeDiff, Nat.reduceBNe, Int.reduceBEq, Int.reduceBNe, Int.reduceLT, Int.reduceLE, Msg.a, Par.a, evG, evP, Nat.reduceMod, Nat.reduceDiv, Nat.reduceSub, Nat.reduceLeDiff, Nat.reduceMul, Nat.reduceAdd, t3, t7, t8, hlt']
  have hlt' : (i : Int) < (l.length : Int) := by omega
  obtain ⟨x, hx⟩ := get_lt hlt
  have hge := at_map (f := Nd.a) hx
  simp only [Nd.a] at hge
  have hw := wrapS (j := i) (by omega)
  have dk : l.drop i = x :: l.drop (i + 1) := by rw [List.drop_eq_getElem_cons hlt, (List.getElem?_eq_some_iff.1 hx).2]
  rw [dk, hiG] at hR
  have fin : ∀ (σ' : St), σ'.T 3 = .int .i64 (hiS h x : Nat) → σ'.T 6 = .sl (l.map Nd.a) → σ'.T 7 = .int .i64 l.length → σ'.T 8 = .int .i64 ((i + 1 : Nat) : Int) → ∃ m, m < l.length - i ∧ ghI l R m σ' := fun σ' a1 a2 a3 a4 =>
    ⟨l.length - (i + 1), by omega, i + 1, hiS h x, by omega, rfl, hiS_le hh x, hR, a1, a2, a3, a4⟩
  by_cases h0 : 0 ≤ x.level
  · by_cases h6 : x.level ≤ 60
    · have e : ((hiS h x : Nat) : Int) = if x.level + 1 > (h : Int) then x.level + 1 else (h : Int) := by
        unfold hiS
        rw [if_pos ⟨h0, h6⟩]
        split <;> omega
      have w1 : IntKind.i64.wrap (x.level + 1) = x.level + 1 := IntWalk.i64_in _ (by omega)
      have h0' : x.level ≥ 0 := h0
      simp (maxSteps := 4000000) only [go_sem, ↓reduceIte, reduceCtorEq, Nat.reduceEqDiff, Nat.reduceBEq, Nat.reduceAdd, Nat.reduceSub, Nat.reduceMul, Nat.reduceLT, Nat.reduceLeDiff, Nat.reduceBNe, Int.reduceBEq, Int.reduceBNe, Int.reduceLT, Int.reduceLE, Msg.a, Par.a, evG, evP, Nat.reduceMod, Nat.reduceDiv, Nat.reduceSub, Nat.reduceLeDiff, Nat.reduceMul, Nat.reduceAdd, t3, t6, t7, t8, hlt', hlt, hge, h0, h0', h6, w1, hw, List.length_map, Int.toNat_natCast]
      (repeat refine And.intro (by omega) ?_)
      refine fin _ ?_ ?_ ?_ ?_
      · rw [e]; simp (maxSteps := 4000000) only [go_sem, ↓reduceIte, reduceCtorEq, Nat.reduceEqDiff, Nat.reduceBEq, Nat.reduceAdd, Nat.reduceSub, Nat.reduceMul, Nat.reduceLT, Nat.reduceLeDiff, Nat.reduceBNe, Int.reduceBEq, Int.reduceBNe, Int.reduceLT, Int.reduceLE, Msg.a, Par.a, evG, evP, Nat.reduceMod, Nat.reduceDiv, Nat.reduceSub, Nat.reduceLeDiff, Nat.reduceMul, Nat.reduceAdd]
      · simp (maxSteps := 4000000) only [go_sem, ↓reduceIte, reduceCtorEq, Nat.reduceEqDiff, Nat.reduceBEq, Nat.reduceAdd, Nat.reduceSub, Nat.reduceMul, Nat.reduceLT, Nat.reduceLeDiff, Nat.reduceBNe, Int.reduceBEq, Int.reduceBNe, Int.reduceLT, Int.reduceLE, Msg.a, Par.a, evG, evP, Nat.reduceMod, Nat.reduceDiv, Nat.reduceSub, Nat.reduceLeDiff, Nat.reduceMul, Nat.reduceAdd, t6]
      · simp (maxSteps := 4000000) only [go_sem, ↓reduceIte, reduceCtorEq, Nat.reduceEqDiff, Nat.reduceBEq, Nat.reduceAdd, Nat.reduceSub, Nat.reduceMul, Nat.reduceLT, Nat.reduceLeDiff, Nat.reduceBNe, Int.reduceBEq, Int.reduceBNe, Int.reduceLT, Int.reduceLE, Msg.a, Par.a, evG, evP, Nat.reduceMod, Nat.reduceDiv, Nat.reduceSub, Nat.reduceLeDiff, Nat.reduceMul, Nat.reduceAdd, t7]
      · simp (maxSteps := 4000000) only [go_sem, ↓reduceIte, reduceCtorEq, Nat.reduceEqDiff, Nat.reduceBEq, Nat.reduceAdd, Nat.reduceSub, Nat.reduceMul, Nat.reduceLT, Nat.reduceLeDiff, Nat.reduceBNe, Int.reduceBEq, Int.reduceBNe, Int.reduceLT, Int.reduceLE, Msg.a, Par.a, evG, evP, Nat.reduceMod, Nat.reduceDiv, Nat.reduceSub, Nat.reduceLeDiff, Nat.reduceMul, Nat.reduceAdd, hw]
    · have e : hiS h x = h := by unfold hiS; rw [if_neg (by omega)]
      rw [e] at fin
      have h0' : x.level ≥ 0 := h0
      simp (maxSteps := 4000000) only [go_sem, ↓reduceIte, reduceCtorEq, Nat.reduceEqDiff, Nat.reduceBEq, Nat.reduceAdd, Nat.reduceSub, Nat.reduceMul, Nat.reduceLT, Nat.reduceLeDiff, Nat.reduceBNe, Int.reduceBEq, Int.reduceBNe, Int.reduceLT, Int.reduceLE, Msg.a, Par.a, evG, evP, Nat.reduceMod, Nat.reduceDiv, Nat.reduceSub, Nat.reduceLeDiff, Nat.reduceMul, Nat.reduceAdd, t3, t6, t7, t8, hlt', hlt, hge, h0, h0', h6, hw, List.length_map, Int.toNat_natCast]
      (repeat refine And.intro (by omega) ?_)
      refine fin _ ?_ ?_ ?_ ?_
      · simp (maxSteps := 4000000) only [go_sem, ↓reduceIte, reduceCtorEq, Nat.reduceEqDiff, Nat.reduceBEq, Nat.reduceAdd, Nat.reduceSub, Nat.reduceMul, Nat.reduceLT, Nat.reduceLeDiff, Nat.reduceBNe, Int.reduceBEq, Int.reduceBNe, Int.reduceLT, Int.reduceLE, Msg.a, Par.a, evG, evP, Nat.reduceMod, Nat.reduceDiv, Nat.reduceSub, Nat.reduceLeDiff, Nat.reduceMul, Nat.reduceAdd, t3]
      · simp (maxSteps := 4000000) only [go_sem, ↓reduceIte, reduceCtorEq, Nat.reduceEqDiff, Nat.reduceBEq, Nat.reduceAdd, Nat.reduceSub, Nat.reduceMul, Nat.reduceLT, Nat.reduceLeDiff, Nat.reduceBNe, Int.reduceBEq, Int.reduceBNe, Int.reduceLT, Int.reduceLE, Msg.a, Par.a, evG, evP, Nat.reduceMod, Nat.reduceDiv, Nat.reduceSub, Nat.reduceLeDiff, Nat.reduceMul, Nat.reduceAdd, t6]
      · simp (maxSteps := 4000000) only [go_sem, ↓reduceIte, reduceCtorEq, Nat.reduceEqDiff, Nat.reduceBEq, Nat.reduceAdd, Nat.reduceSub, Nat.reduceMul, Nat.reduceLT, Nat.reduceLeDiff, Nat.reduceBNe, Int.reduceBEq, Int.reduceBNe, Int.reduceLT, Int.reduceLE, Msg.a, Par.a, evG, evP, Nat.reduceMod, Nat.reduceDiv, Nat.reduceSub, Nat.reduceLeDiff, Nat.reduceMul, Nat.reduceAdd, t7]
      · simp (maxSteps := 4000000) only [go_sem, ↓reduceIte, reduceCtorEq, Nat.reduceEqDiff, Nat.reduceBEq, Nat.reduceAdd, Nat.reduceSub, Nat.reduceMul, Nat.reduceLT, Nat.reduceLeDiff, Nat.reduceBNe, Int.reduceBEq, Int.reduceBNe, Int.reduceLT, Int.reduceLE, Msg.a, Par.a, evG, evP, Nat.reduceMod, Nat.reduceDiv, Nat.reduceSub, Nat.reduceLeDiff, Nat.reduceMul, Nat.reduceAdd, hw]
  · have e : hiS h x = h := by unfold hiS; rw [if_neg (by omega)]
    rw [e] at fin
    have h0' : ¬ x.level ≥ 0 := h0
    simp (maxSteps := 4000000) only [go_sem, ↓reduceIte, reduceCtorEq, Nat.reduceEqDiff, Nat.reduceBEq, Nat.reduceAdd, Nat.reduceSub, Nat.reduceMul, Nat.reduceLT, Nat.reduceLeDiff, Nat.reduceBNe, Int.reduceBEq, Int.reduceBNe, Int.reduceLT, Int.reduceLE, Msg.a, Par.a, evG, evP, Nat.reduceMod, Nat.reduceDiv, Nat.reduceSub, Nat.reduceLeDiff, Nat.reduceMul, Nat.reduceAdd, t3, t6, t7, t8, hlt', hlt, hge, h0, h0', hw, List.length_map, Int.toNat_natCast]
    (repeat refine And.intro (by omega) ?_)
    refine fin _ ?_ ?_ ?_ ?_
    · simp (maxSteps := 4000000) only [go_sem, ↓reduceIte, reduceCtorEq, Nat.reduceEqDiff, Nat.reduceBEq, Nat.reduceAdd, Nat.reduceSub, Nat.reduceMul, Nat.reduceLT, Nat.reduceLeDiff, Nat.reduceBNe, Int.reduceBEq, Int.reduceBNe, Int.reduceLT, Int.reduceLE, Msg.a, Par.a, evG, evP, Nat.reduceMod, Nat.reduceDiv, Nat.reduceSub, Nat.reduceLeDiff, Nat.reduceMul, Nat.reduceAdd, t3]
    · simp (maxSteps := 4000000) only [go_sem, ↓reduceIte, reduceCtorEq, Nat.reduceEqDiff, Nat.reduceBEq, Nat.reduceAdd, Nat.reduceSub, Nat.reduceMul, Nat.reduceLT, Nat.reduceLeDiff, Nat.reduceBNe, Int.reduceBEq, Int.reduceBNe, Int.reduceLT, Int.reduceLE, Msg.a, Par.a, evG, evP, Nat.reduceMod, Nat.reduceDiv, Nat.reduceSub, Nat.reduceLeDiff, Nat.reduceMul, Nat.reduceAdd, t6]
    · simp (maxSteps := 4000000) only [go_sem, ↓reduceIte, reduceCtorEq, Nat.reduceEqDiff, Nat.reduceBEq, Nat.reduceAdd, Nat.reduceSub, Nat.reduceMul, Nat.reduceLT, Nat.reduceLeDiff, Nat.reduceBNe, Int.reduceBEq, Int.reduceBNe, Int.reduceLT, Int.reduceLE, Msg.a, Par.a, evG, evP, Nat.reduceMod, Nat.reduceDiv, Nat.reduceSub, Nat.reduceLeDiff, Nat.reduceMul, Nat.reduceAdd, t7]
    · simp (maxSteps := 4000000) only [go_sem, ↓reduceIte, reduceCtorEq, Nat.reduceEqDiff, Nat.reduceBEq, Nat.reduceAdd, Nat.reduceSub, Nat.reduceMul, Nat.reduceLT, Nat.reduceLeDiff, Nat.reduceBNe, Int.reduceBEq, Int.reduceBNe, Int.reduceLT, Int.reduceLE, Msg.a, Par.a, evG, evP, Nat.reduceMod, Nat.reduceDiv, Nat.reduceSub, Nat.reduceLeDiff, Nat.reduceMul, Nat.reduceAdd, hw]
def cntL (p : List Nd) (h : Nat) : Nat := p.countP fun n => n.level == (h : Int)
def msgL (p : List Nd) (h : Nat) : Nat := sumN (fun n => if n.level == (h : Int) then n.msgs.length else 0) p
def ofG (H : Nat) (N : Nat) (p : List Nd) : Gau := ⟨N, (p.countP fun n => n.level == 0 : Nat), H, (sumN (fun n => n.rows.length) p : Nat), (sumN (fun n => n.msgs.length) p : Nat), (sumN (fun n => sizes n.msgs) p : Nat), (p.countP fun n => n.level == 0 && n.rows.length == 0 : Nat),
  (List.range H).map fun h => (cntL p h : Int), (List.range H).map fun h => (msgL p h : Int)⟩
theorem cntL_snoc (p : List Nd) (x : Nd) (h : Nat) : cntL (p ++ [x]) h = cntL p h + if x.level == (h : Int) then 1 else 0 := by
  unfold cntL
  rw [List.countP_append, List.countP_singleton]
theorem msgL_snoc (p : List Nd) (x : Nd) (h : Nat) : msgL (p ++ [x]) h = msgL p h + if x.level == (h : Int) then x.msgs.length else 0 := by
  unfold msgL
  rw [sumN_snoc]
def rngI (H : Nat) (f : Nat → Nat) : List Int := (List.range H).map fun h => (f h : Int)
theorem rngI_len (H : Nat) (f : Nat → Nat) : (rngI H f).length = H := by unfold rngI; simp
theorem rngI_get {H k : Nat} (f : Nat → Nat) (hk : k < H) : (rngI H f)[k]? = some (f k : Int) := by
  unfold rngI
  rw [List.getElem?_map, List.getElem?_range hk]; rfl
theorem rngI_at {H k : Nat} (f : Nat → Nat) (hk : k < H) : ((rngI H f).map (AV.int .i64)).getD k .und = .int .i64 (f k : Int) := at_map (f := AV.int .i64) (rngI_get f hk)
theorem rngI_set {H k : Nat} {f g : Nat → Nat} (h : ∀ j, j ≠ k → g j = f j) : ((rngI H f).map (AV.int .i64)).set k (.int .i64 (g k : Int)) = (rngI H g).map (AV.int .i64) := by
  apply List.ext_getElem?
  intro j
  rw [List.getElem?_set]
  by_cases hj : k = j
  · subst hj
    rw [if_pos rfl]
    by_cases hk : k < H
    · rw [if_pos (by rw [List.length_map, rngI_len]; exact hk), List.getElem?_map, rngI_get g hk]; rfl
    · rw [if_neg (by rw [List.length_map, rngI_len]; exact hk), List.getElem?_eq_none (by rw [List.length_map, rngI_len]; omega)]
  · rw [if_neg hj]
    by_cases hk : j < H
    · rw [List.getElem?_map, List.getElem?_map, rngI_get f hk, rngI_get g hk, h j (fun e => hj e.symm)]
    · rw [List.getElem?_eq_none (by rw [List.length_map, rngI_len]; omega), List.getElem?_eq_none (by rw [List.length_map, rngI_len]; omega)]
theorem rngI_congr {H : Nat} {f g : Nat → Nat} (h : ∀ j, j < H → g j = f j) : rngI H g = rngI H f := by
  unfold rngI
  refine List.map_congr_left fun j hj => ?_
  rw [h j (List.mem_range.1 hj)]
def lvs (p : List Nd) : Nat := p.countP fun n => n.level == 0
def emp (p : List Nd) : Nat := p.countP fun n => n.level == 0 && n.rows.length == 0
def rwsN (p : List Nd) : Nat := sumN (fun n => n.rows.length) p
def msgN (p : List Nd) : Nat := sumN (fun n => n.msgs.length) p
def bytN (p : List Nd) : Nat := sumN (fun n => sizes n.msgs) p
theorem ofG_eq (H N : Nat) (p : List Nd) : (ofG H N p).a = .agg [.int .i64 N, .int .i64 (lvs p : Nat), .int .i64 H, .int .i64 (rwsN p : Nat), .int .i64 (msgN p : Nat), .int .i64 (bytN p : Nat), .int .i64 (emp p : Nat), .sl ((rngI H (cntL p)).map (AV.int .i64)), .sl ((rngI H (msgL p)).map (AV.int .i64))] := rfl
def cellG (N H : Nat) (p : List Nd) (u7 u8 : Value) : AV := .agg [.int .i64 N, .int .i64 (lvs p : Nat), .int .i64 H, .int .i64 (rwsN p : Nat), .int .i64 (msgN p : Nat), .int .i64 (bytN p : Nat), .int .i64 (emp p : Nat), .cst u7, .cst u8]
def cell0 : AV := .agg [.int .i64 0, .int .i64 0, .int .i64 0, .int .i64 0, .int .i64 0, .int .i64 0, .int .i64 0, .cst (.slice none 0 0), .cst (.slice none 0 0)]
def goI (l : List Nd) (H : Nat) (k : Nat) (σ : St) : Prop :=
  ∃ (i : Nat) (u7 u8 : Value), i ≤ l.length ∧ k = l.length - i ∧ σ.T 2 = .ptr 2 0 0 ∧ σ.T 3 = .ptr 3 0 0 ∧ σ.T 19 = .sl (l.map Nd.a) ∧ σ.T 20 = .int .i64 l.length ∧ σ.T 21 = .int .i64 i ∧ σ.H 2 = some ⟨9, 37, [cell0], 0⟩ ∧ σ.H 3 = some ⟨9, 37, [cellG l.length H (l.take i) u7 u8], 0⟩ ∧
    σ.T 1307 = .vrs 13 0 H u7 ∧ σ.T 1308 = .vrs 16 0 H u8 ∧ σ.H 13 = some ⟨1, 3, (rngI H (cntL (l.take i))).map (AV.int .i64), 0⟩ ∧ σ.H 16 = some ⟨1, 3, (rngI H (msgL (l.take i))).map (AV.int .i64), 0⟩
set_option maxHeartbeats 16000000 in
theorem gOf_ok (l : List Nd) (hl : l.length ≤ 60) (hg : ∀ x, x ∈ l → x.Gd) : AFn Tryd.prog 10 [.sl (l.map Nd.a)] (ofG (hiG 0 l) l.length l).a := by
  refine fn_gOf rfl ?_
  have ch := gHi_ok l (by omega)
  have hH := hiG_le l (Nat.zero_le 61)
  generalize hiG 0 l = H at *
  have z1 : List.replicate H (AV.int .i64 0) = (rngI H (cntL [])).map (AV.int .i64) := by
    unfold rngI; rw [List.map_map]
    refine (List.eq_replicate_iff.2 ⟨by simp, fun v hv => ?_⟩).symm
    obtain ⟨j, _, rfl⟩ := List.mem_map.1 hv; rfl
  have z2 : List.replicate H (AV.int .i64 0) = (rngI H (msgL [])).map (AV.int .i64) := by
    unfold rngI; rw [List.map_map]
    refine (List.eq_replicate_iff.2 ⟨by simp, fun v hv => ?_⟩).symm
    obtain ⟨j, _, rfl⟩ := List.mem_map.1 hv; rfl
  have hn : Int.toNat (H : Int) = H := Int.toNat_natCast H
  (repeat (first | simp (maxSteps := 4000000) only [go_sem, ↓reduceIte, reduceCtorEq, Nat.reduceEqDiff, Nat.reduceBEq, Nat.reduceAdd, Nat.reduceSub, Nat.reduceMul, Nat.reduceLT, Nat.reduceLeDiff, Nat.reduceBNe, Int.reduceBEq, Int.reduceBNe, Int.reduceLT, Int.reduceLE, Msg.a, Par.a, evG, evP, Nat.reduceMod, Nat.reduceDiv, Nat.reduceSub, Nat.reduceLeDiff, Nat.reduceMul, Nat.reduceAdd, List.length_map, hn, List.length_replicate] | refine calling (ch) ?_ | refine callingH (ch) ?_ | refine And.intro (by omega) ?_ | refine And.intro (fun d hd => by (repeat (rcases hd with rfl | hd; · exact ⟨rfl, rfl⟩)); cases hd) ?_))
  intro u7 hu7 u8 hu8
  refine run_loop (goI l H) (k := l.length) ⟨0, u7, u8, Nat.zero_le _, rfl, ?_, ?_, ?_, ?_, ?_, ?_, ?_, ?_, ?_, ?_, ?_⟩ ?_
  · simp (maxSteps := 4000000) only [go_sem, ↓reduceIte, reduceCtorEq, Nat.reduceEqDiff, Nat.reduceBEq, Nat.reduceAdd, Nat.reduceSub, Nat.reduceMul, Nat.reduceLT, Nat.reduceLeDiff, Nat.reduceBNe, Int.reduceBEq, Int.reduceBNe, Int.reduceLT, Int.reduceLE, Msg.a, Par.a, evG, evP, Nat.reduceMod, Nat.reduceDiv, Nat.reduceSub, Nat.reduceLeDiff, Nat.reduceMul, Nat.reduceAdd]
  · simp (maxSteps := 4000000) only [go_sem, ↓reduceIte, reduceCtorEq, Nat.reduceEqDiff, Nat.reduceBEq, Nat.reduceAdd, Nat.reduceSub, Nat.reduceMul, Nat.reduceLT, Nat.reduceLeDiff, Nat.reduceBNe, Int.reduceBEq, Int.reduceBNe, Int.reduceLT, Int.reduceLE, Msg.a, Par.a, evG, evP, Nat.reduceMod, Nat.reduceDiv, Nat.reduceSub, Nat.reduceLeDiff, Nat.reduceMul, Nat.reduceAdd]
  · simp (maxSteps := 4000000) only [go_sem, ↓reduceIte, reduceCtorEq, Nat.reduceEqDiff, Nat.reduceBEq, Nat.reduceAdd, Nat.reduceSub, Nat.reduceMul, Nat.reduceLT, Nat.reduceLeDiff, Nat.reduceBNe, Int.reduceBEq, Int.reduceBNe, Int.reduceLT, Int.reduceLE, Msg.a, Par.a, evG, evP, Nat.reduceMod, Nat.reduceDiv, Nat.reduceSub, Nat.reduceLeDiff, Nat.reduceMul, Nat.reduceAdd]
  · simp (maxSteps := 4000000) only [go_sem, ↓reduceIte, reduceCtorEq, Nat.reduceEqDiff, Nat.reduceBEq, Nat.reduceAdd, Nat.reduceSub, Nat.reduceMul, Nat.reduceLT, Nat.reduceLeDiff, Nat.reduceBNe, Int.reduceBEq, Int.reduceBNe, Int.reduceLT, Int.reduceLE, Msg.a, Par.a, evG, evP, Nat.reduceMod, Nat.reduceDiv, Nat.reduceSub, Nat.reduceLeDiff, Nat.reduceMul, Nat.reduceAdd, List.length_map]
  · (simp (maxSteps := 4000000) only [go_sem, ↓reduceIte, reduceCtorEq, Nat.reduceEqDiff, Nat.reduceBEq, Nat.reduceAdd, Nat.reduceSub, Nat.reduceMul, Nat.reduceLT, Nat.reduceLeDiff, Nat.reduceBNe, Int.reduceBEq, Int.reduceBNe, Int.reduceLT, Int.reduceLE, Msg.a, Par.a, evG, evP, Nat.reduceMod, Nat.reduceDiv, Nat.reduceSub, Nat.reduceLeDiff, Nat.reduceMul, Nat.reduceAdd]) <;> rfl
  · (simp (maxSteps := 4000000) only [go_sem, ↓reduceIte, reduceCtorEq, Nat.reduceEqDiff, Nat.reduceBEq, Nat.reduceAdd, Nat.reduceSub, Nat.reduceMul, Nat.reduceLT, Nat.reduceLeDiff, Nat.reduceBNe, Int.reduceBEq, Int.reduceBNe, Int.reduceLT, Int.reduceLE, Msg.a, Par.a, evG, evP, Nat.reduceMod, Nat.reduceDiv, Nat.reduceSub, Nat.reduceLeDiff, Nat.reduceMul, Nat.reduceAdd]) <;> rfl
  · (simp (maxSteps := 4000000) only [go_sem, ↓reduceIte, reduceCtorEq, Nat.reduceEqDiff, Nat.reduceBEq, Nat.reduceAdd, Nat.reduceSub, Nat.reduceMul, Nat.reduceLT, Nat.reduceLeDiff, Nat.reduceBNe, Int.reduceBEq, Int.reduceBNe, Int.reduceLT, Int.reduceLE, Msg.a, Par.a, evG, evP, Nat.reduceMod, Nat.reduceDiv, Nat.reduceSub, Nat.reduceLeDiff, Nat.reduceMul, Nat.reduceAdd]) <;> rfl
  · simp (maxSteps := 4000000) only [go_sem, ↓reduceIte, reduceCtorEq, Nat.reduceEqDiff, Nat.reduceBEq, Nat.reduceAdd, Nat.reduceSub, Nat.reduceMul, Nat.reduceLT, Nat.reduceLeDiff, Nat.reduceBNe, Int.reduceBEq, Int.reduceBNe, Int.reduceLT, Int.reduceLE, Msg.a, Par.a, evG, evP, Nat.reduceMod, Nat.reduceDiv, Nat.reduceSub, Nat.reduceLeDiff, Nat.reduceMul, Nat.reduceAdd, hn, List.length_replicate]
  · simp (maxSteps := 4000000) only [go_sem, ↓reduceIte, reduceCtorEq, Nat.reduceEqDiff, Nat.reduceBEq, Nat.reduceAdd, Nat.reduceSub, Nat.reduceMul, Nat.reduceLT, Nat.reduceLeDiff, Nat.reduceBNe, Int.reduceBEq, Int.reduceBNe, Int.reduceLT, Int.reduceLE, Msg.a, Par.a, evG, evP, Nat.reduceMod, Nat.reduceDiv, Nat.reduceSub, Nat.reduceLeDiff, Nat.reduceMul, Nat.reduceAdd, hn, List.length_replicate]
  · rw [List.take_zero, ← z1]
    (simp (maxSteps := 4000000) only [go_sem, ↓reduceIte, reduceCtorEq, Nat.reduceEqDiff, Nat.reduceBEq, Nat.reduceAdd, Nat.reduceSub, Nat.reduceMul, Nat.reduceLT, Nat.reduceLeDiff, Nat.reduceBNe, Int.reduceBEq, Int.reduceBNe, Int.reduceLT, Int.reduceLE, Msg.a, Par.a, evG, evP, Nat.reduceMod, Nat.reduceDiv, Nat.reduceSub, Nat.reduceLeDiff, Nat.reduceMul, Nat.reduceAdd, hn]) <;> rfl
  · rw [List.take_zero, ← z2]
    (simp (maxSteps := 4000000) only [go_sem, ↓reduceIte, reduceCtorEq, Nat.reduceEqDiff, Nat.reduceBEq, Nat.reduceAdd, Nat.reduceSub, Nat.reduceMul, Nat.reduceLT, Nat.reduceLeDiff, Nat.reduceBNe, Int.reduceBEq, Int.reduceBNe, Int.reduceLT, Int.reduceLE, Msg.a, Par.a, evG, evP, Nat.reduceMod, Nat.reduceDiv, Nat.reduceSub, Nat.reduceLeDiff, Nat.reduceMul, Nat.reduceAdd, hn]) <;> rfl
  clear u7 hu7 u8 hu8 z1 z2 ch
  rintro k σ ⟨i, u7, u8, hi, rfl, t2, t3, t19, t20, t21, h2, h3, g7, g8, h13, h16⟩
  unfold cell0 at h2
  unfold cellG at h3
  simp only [r_gOf_l18]
  by_cases hlt : i < l.length
  case neg =>
    have hlt' : ¬ (i : Int) < (l.length : Int) := by omega
    have e : l.take i = l := List.take_of_length_le (by omega)
    rw [e] at h3 h13 h16
    have tk1 : List.take H ((rngI H (cntL l)).map (AV.int .i64)) = (rngI H (cntL l)).map (AV.int .i64) := List.take_of_length_le (by rw [List.length_map, rngI_len]; exact Nat.le_refl _)
    have tk2 : List.take H ((rngI H (msgL l)).map (AV.int .i64)) = (rngI H (msgL l)).map (AV.int .i64) := List.take_of_length_le (by rw [List.length_map, rngI_len]; exact Nat.le_refl _)
    rw [ofG_eq]
    simp (maxSteps := 4000000) only [go_sem, ↓reduceIte, reduceCtorEq, Nat.reduceEqDiff, Nat.reduceBEq, Nat.reduceAdd, Nat.reduceSub, Nat.reduceMul, Nat.reduceLT, Nat.reduceLeDiff, Nat.reduceBNe, Int.reduceBEq, Int.reduceBNe, Int.reduceLT, Int.reduceLE, Msg.a, Par.a, evG, evP, Nat.reduceMod, Nat.reduceDiv, Nat.reduceSub, Nat.reduceLeDiff, Nat.reduceMul, Nat.reduceAdd, t2, t3, t20, t21, h2, h3, g7, g8, h13, h16, hlt', tk1, tk2, List.drop_zero]
  have hlt' : (i : Int) < (l.length : Int) := by omega
  obtain ⟨x, hx⟩ := get_lt hlt
  obtain ⟨gr, gm, gk⟩ := hg x (List.mem_of_getElem? hx)
  have hge := at_map (f := Nd.a) hx
  simp only [Nd.a] at hge
  have cb := bufSize x.msgs gk
  have tk : l.take (i + 1) = l.take i ++ [x] := by rw [List.take_add_one, hx]; rfl
  have hpl : (l.take i).length ≤ 60 := by rw [List.length_take]; omega
  have hgp : ∀ y, y ∈ l.take i → y.Gd := fun y hy => hg y (List.mem_of_mem_take hy)
  have b3 : rwsN (l.take i) ≤ 60 * 1000 := Nat.le_trans (sumN_le fun y hy => (hgp y hy).rows) (Nat.mul_le_mul_right _ hpl)
  have b4 : msgN (l.take i) ≤ 60 * 1000 := Nat.le_trans (sumN_le fun y hy => (hgp y hy).msgs) (Nat.mul_le_mul_right _ hpl)
  have sz : ∀ y : Nd, y.Gd → sizes y.msgs ≤ 2000036000000 := fun y hy => by
    have := sizes_take hy.kok y.msgs.length
    rwa [List.take_length] at this
  have b5 : bytN (l.take i) ≤ 60 * 2000036000000 := Nat.le_trans (sumN_le fun y hy => sz y (hgp y hy)) (Nat.mul_le_mul_right _ hpl)
  have b1 : lvs (l.take i) ≤ 60 := Nat.le_trans List.countP_le_length hpl
  have b6 : emp (l.take i) ≤ 60 := Nat.le_trans List.countP_le_length hpl
  have bx := sz x ⟨gr, gm, gk⟩
  have w0 := wrapS (j := i) (by omega)
  have wN : ∀ a b : Nat, a + b ≤ 1000000000000000 → IntKind.i64.wrap ((a : Int) + (b : Int)) = ((a + b : Nat) : Int) := fun a b h => by rw [IntWalk.i64_in _ (by omega)]; omega
  have w3 := wN (rwsN (l.take i)) x.rows.length (by omega)
  have w4 := wN (msgN (l.take i)) x.msgs.length (by omega)
  have w5 := wN (bytN (l.take i)) (sizes x.msgs) (by omega)
  have w1 := wrapS (j := lvs (l.take i)) (by omega)
  have w2 := wrapS (j := emp (l.take i)) (by omega)
  have n3 : rwsN (l.take i ++ [x]) = rwsN (l.take i) + x.rows.length := sumN_snoc _ _ _
  have n4 : msgN (l.take i ++ [x]) = msgN (l.take i) + x.msgs.length := sumN_snoc _ _ _
  have n5 : bytN (l.take i ++ [x]) = bytN (l.take i) + sizes x.msgs := sumN_snoc _ _ _
  have fin : ∀ (σ' : St), σ'.T 2 = .ptr 2 0 0 → σ'.T 3 = .ptr 3 0 0 → σ'.T 19 = .sl (l.map Nd.a) → σ'.T 20 = .int .i64 l.length → σ'.T 21 = .int .i64 ((i + 1 : Nat) : Int) → σ'.H 2 = some ⟨9, 37, [cell0], 0⟩ → σ'.H 3 = some ⟨9, 37, [cellG l.length H (l.take (i + 1)) u7 u8], 0⟩ →
    σ'.T 1307 = .vrs 13 0 H u7 → σ'.T 1308 = .vrs 16 0 H u8 → σ'.H 13 = some ⟨1, 3, (rngI H (cntL (l.take (i + 1)))).map (AV.int .i64), 0⟩ → σ'.H 16 = some ⟨1, 3, (rngI H (msgL (l.take (i + 1)))).map (AV.int .i64), 0⟩ → ∃ m, m < l.length - i ∧ goI l H m σ' := fun σ' a1 a2 a3 a4 a5 a6 a7 a8 a9 c1 c2 =>
    ⟨l.length - (i + 1), by omega, i + 1, u7, u8, by omega, rfl, a1, a2, a3, a4, a5, a6, a7, a8, a9, c1, c2⟩
  -- the place of its level
  have outR : ¬ (0 ≤ x.level ∧ x.level < (H : Int)) → rngI H (cntL (l.take i ++ [x])) = rngI H (cntL (l.take i)) ∧ rngI H (msgL (l.take i ++ [x])) = rngI H (msgL (l.take i)) := fun ho => by
    have hne : ∀ j, j < H → (x.level == (j : Int)) = false := fun j hj => by simp; omega
    exact ⟨rngI_congr fun j hj => by rw [cntL_snoc, hne j hj]; rfl, rngI_congr fun j hj => by rw [msgL_snoc, hne j hj]; rfl⟩
  have inR : ∀ q : Nat, x.level = (q : Int) → q < H → (((rngI H (cntL (l.take i))).map (AV.int .i64)).getD q .und = .int .i64 (cntL (l.take i) q : Int)) ∧ (((rngI H (msgL (l.take i))).map (AV.int .i64)).getD q .und = .int .i64 (msgL (l.take i) q : Int)) ∧
      ((rngI H (cntL (l.take i))).map (AV.int .i64)).set q (.int .i64 ((cntL (l.take i) q + 1 : Nat) : Int)) = (rngI H (cntL (l.take i ++ [x]))).map (AV.int .i64) ∧
      ((rngI H (msgL (l.take i))).map (AV.int .i64)).set q (.int .i64 ((msgL (l.take i) q + x.msgs.length : Nat) : Int)) = (rngI H (msgL (l.take i ++ [x]))).map (AV.int .i64) ∧ IntKind.i64.wrap ((cntL (l.take i) q : Int) + 1) = ((cntL (l.take i) q + 1 : Nat) : Int) ∧ IntKind.i64.wrap ((msgL (l.take i) q : Int) + (x.msgs.length : Int)) = ((msgL (l.take i) q + x.msgs.length : Nat) : Int) := fun q hq hqH => by
    have hne : ∀ j, j ≠ q → (x.level == (j : Int)) = false := fun j hj => by simp; omega
    have hee : (x.level == (q : Int)) = true := by simp [hq]
    have k1 : cntL (l.take i ++ [x]) q = cntL (l.take i) q + 1 := by rw [cntL_snoc, hee]; rfl
    have k2 : msgL (l.take i ++ [x]) q = msgL (l.take i) q + x.msgs.length := by rw [msgL_snoc, hee]; rfl
    have c1 : cntL (l.take i) q ≤ 60 := Nat.le_trans List.countP_le_length hpl
    have c2 : msgL (l.take i) q ≤ 60 * 1000 := Nat.le_trans (sumN_le fun y hy => by
      split
      · exact (hgp y hy).msgs
      · omega) (Nat.mul_le_mul_right _ hpl)
    refine ⟨rngI_at _ hqH, rngI_at _ hqH, ?_, ?_, wrapS (by omega), wN _ _ (by omega)⟩
    · rw [← k1]; exact rngI_set fun j hj => by rw [cntL_snoc, hne j hj]; rfl
    · rw [← k2]; exact rngI_set fun j hj => by rw [msgL_snoc, hne j hj]; rfl
  have lz : ((rngI H (cntL (l.take i))).map (AV.int .i64)).length = H := by rw [List.length_map, rngI_len]
  have lz2 : ((rngI H (msgL (l.take i))).map (AV.int .i64)).length = H := by rw [List.length_map, rngI_len]
  by_cases hz : x.level = 0
  case neg =>
    have q0 : (x.level == 0) = false := by simpa using hz
    have n1 : lvs (l.take i ++ [x]) = lvs (l.take i) := by unfold lvs; rw [List.countP_append, List.countP_singleton, q0]; rfl
    have n6 : emp (l.take i ++ [x]) = emp (l.take i) := by unfold emp; rw [List.countP_append, List.countP_singleton, q0]; rfl
    by_cases h0 : 0 ≤ x.level
    case neg =>
      have h0' : ¬ x.level ≥ 0 := h0
      obtain ⟨o1, o2⟩ := outR fun q => h0 q.1
      (repeat (first | simp (maxSteps := 4000000) only [go_sem, ↓reduceIte, reduceCtorEq, Nat.reduceEqDiff, Nat.reduceBEq, Nat.reduceAdd, Nat.reduceSub, Nat.reduceMul, Nat.reduceLT, Nat.reduceLeDiff, Nat.reduceBNe, Int.reduceBEq, Int.reduceBNe, Int.reduceLT, Int.reduceLE, Msg.a, Par.a, evG, evP, Nat.reduceMod, Nat.reduceDiv, Nat.reduceSub, Nat.reduceLeDiff, Nat.reduceMul, Nat.reduceAdd, t2, t3, t19, t20, t21, h2, h3, g7, g8, h13, h16, hlt', hlt, hge, w0, w3, w4, w5, q0, h0, h0', List.length_map, Int.toNat_natCast] | refine calling (cb) ?_ | refine callingH (cb) ?_ | refine And.intro (by omega) ?_ | refine And.intro (fun d hd => by (repeat (rcases hd with rfl | hd; · exact ⟨rfl, rfl⟩)); cases hd) ?_))
      (repeat refine And.intro (by omega) ?_)
      refine fin _ ?_ ?_ ?_ ?_ ?_ ?_ ?_ ?_ ?_ ?_ ?_
      · simp (maxSteps := 4000000) only [go_sem, ↓reduceIte, reduceCtorEq, Nat.reduceEqDiff, Nat.reduceBEq, Nat.reduceAdd, Nat.reduceSub, Nat.reduceMul, Nat.reduceLT, Nat.reduceLeDiff, Nat.reduceBNe, Int.reduceBEq, Int.reduceBNe, Int.reduceLT, Int.reduceLE, Msg.a, Par.a, evG, evP, Nat.reduceMod, Nat.reduceDiv, Nat.reduceSub, Nat.reduceLeDiff, Nat.reduceMul, Nat.reduceAdd, t2]
      · simp (maxSteps := 4000000) only [go_sem, ↓reduceIte, reduceCtorEq, Nat.reduceEqDiff, Nat.reduceBEq, Nat.reduceAdd, Nat.reduceSub, Nat.reduceMul, Nat.reduceLT, Nat.reduceLeDiff, Nat.reduceBNe, Int.reduceBEq, Int.reduceBNe, Int.reduceLT, Int.reduceLE, Msg.a, Par.a, evG, evP, Nat.reduceMod, Nat.reduceDiv, Nat.reduceSub, Nat.reduceLeDiff, Nat.reduceMul, Nat.reduceAdd, t3]
      · simp (maxSteps := 4000000) only [go_sem, ↓reduceIte, reduceCtorEq, Nat.reduceEqDiff, Nat.reduceBEq, Nat.reduceAdd, Nat.reduceSub, Nat.reduceMul, Nat.reduceLT, Nat.reduceLeDiff, Nat.reduceBNe, Int.reduceBEq, Int.reduceBNe, Int.reduceLT, Int.reduceLE, Msg.a, Par.a, evG, evP, Nat.reduceMod, Nat.reduceDiv, Nat.reduceSub, Nat.reduceLeDiff, Nat.reduceMul, Nat.reduceAdd, t19]
      · simp (maxSteps := 4000000) only [go_sem, ↓reduceIte, reduceCtorEq, Nat.reduceEqDiff, Nat.reduceBEq, Nat.reduceAdd, Nat.reduceSub, Nat.reduceMul, Nat.reduceLT, Nat.reduceLeDiff, Nat.reduceBNe, Int.reduceBEq, Int.reduceBNe, Int.reduceLT, Int.reduceLE, Msg.a, Par.a, evG, evP, Nat.reduceMod, Nat.reduceDiv, Nat.reduceSub, Nat.reduceLeDiff, Nat.reduceMul, Nat.reduceAdd, t20]
      · simp (maxSteps := 4000000) only [go_sem, ↓reduceIte, reduceCtorEq, Nat.reduceEqDiff, Nat.reduceBEq, Nat.reduceAdd, Nat.reduceSub, Nat.reduceMul, Nat.reduceLT, Nat.reduceLeDiff, Nat.reduceBNe, Int.reduceBEq, Int.reduceBNe, Int.reduceLT, Int.reduceLE, Msg.a, Par.a, evG, evP, Nat.reduceMod, Nat.reduceDiv, Nat.reduceSub, Nat.reduceLeDiff, Nat.reduceMul, Nat.reduceAdd]
      · (simp (maxSteps := 4000000) only [go_sem, ↓reduceIte, reduceCtorEq, Nat.reduceEqDiff, Nat.reduceBEq, Nat.reduceAdd, Nat.reduceSub, Nat.reduceMul, Nat.reduceLT, Nat.reduceLeDiff, Nat.reduceBNe, Int.reduceBEq, Int.reduceBNe, Int.reduceLT, Int.reduceLE, Msg.a, Par.a, evG, evP, Nat.reduceMod, Nat.reduceDiv, Nat.reduceSub, Nat.reduceLeDiff, Nat.reduceMul, Nat.reduceAdd, h2]) <;> rfl
      · rw [tk]; unfold cellG; rw [n1, n3, n4, n5, n6]; (simp (maxSteps := 4000000) only [go_sem, ↓reduceIte, reduceCtorEq, Nat.reduceEqDiff, Nat.reduceBEq, Nat.reduceAdd, Nat.reduceSub, Nat.reduceMul, Nat.reduceLT, Nat.reduceLeDiff, Nat.reduceBNe, Int.reduceBEq, Int.reduceBNe, Int.reduceLT, Int.reduceLE, Msg.a, Par.a, evG, evP, Nat.reduceMod, Nat.reduceDiv, Nat.reduceSub, Nat.reduceLeDiff, Nat.reduceMul, Nat.reduceAdd, h3])
      · simp (maxSteps := 4000000) only [go_sem, ↓reduceIte, reduceCtorEq, Nat.reduceEqDiff, Nat.reduceBEq, Nat.reduceAdd, Nat.reduceSub, Nat.reduceMul, Nat.reduceLT, Nat.reduceLeDiff, Nat.reduceBNe, Int.reduceBEq, Int.reduceBNe, Int.reduceLT, Int.reduceLE, Msg.a, Par.a, evG, evP, Nat.reduceMod, Nat.reduceDiv, Nat.reduceSub, Nat.reduceLeDiff, Nat.reduceMul, Nat.reduceAdd, g7]
      · simp (maxSteps := 4000000) only [go_sem, ↓reduceIte, reduceCtorEq, Nat.reduceEqDiff, Nat.reduceBEq, Nat.reduceAdd, Nat.reduceSub, Nat.reduceMul, Nat.reduceLT, Nat.reduceLeDiff, Nat.reduceBNe, Int.reduceBEq, Int.reduceBNe, Int.reduceLT, Int.reduceLE, Msg.a, Par.a, evG, evP, Nat.reduceMod, Nat.reduceDiv, Nat.reduceSub, Nat.reduceLeDiff, Nat.reduceMul, Nat.reduceAdd, g8]
      · rw [tk, o1]; (simp (maxSteps := 4000000) only [go_sem, ↓reduceIte, reduceCtorEq, Nat.reduceEqDiff, Nat.reduceBEq, Nat.reduceAdd, Nat.reduceSub, Nat.reduceMul, Nat.reduceLT, Nat.reduceLeDiff, Nat.reduceBNe, Int.reduceBEq, Int.reduceBNe, Int.reduceLT, Int.reduceLE, Msg.a, Par.a, evG, evP, Nat.reduceMod, Nat.reduceDiv, Nat.reduceSub, Nat.reduceLeDiff, Nat.reduceMul, Nat.reduceAdd, h13])
      · rw [tk, o2]; (simp (maxSteps := 4000000) only [go_sem, ↓reduceIte, reduceCtorEq, Nat.reduceEqDiff, Nat.reduceBEq, Nat.reduceAdd, Nat.reduceSub, Nat.reduceMul, Nat.reduceLT, Nat.reduceLeDiff, Nat.reduceBNe, Int.reduceBEq, Int.reduceBNe, Int.reduceLT, Int.reduceLE, Msg.a, Par.a, evG, evP, Nat.reduceMod, Nat.reduceDiv, Nat.reduceSub, Nat.reduceLeDiff, Nat.reduceMul, Nat.reduceAdd, h16])
    have h0' : x.level ≥ 0 := h0
    obtain ⟨q, hq⟩ : ∃ q : Nat, x.level = (q : Int) := ⟨x.level.toNat, by omega⟩
    rw [hq] at hge h0 h0' q0
    by_cases hqH : q < H
    · obtain ⟨e1, e2, e3, e4, e5, e6⟩ := inR q hq hqH
      have hqH' : (q : Int) < (H : Int) := by omega
      (repeat (first | simp (maxSteps := 4000000) only [go_sem, ↓reduceIte, reduceCtorEq, Nat.reduceEqDiff, Nat.reduceBEq, Nat.reduceAdd, Nat.reduceSub, Nat.reduceMul, Nat.reduceLT, Nat.reduceLeDiff, Nat.reduceBNe, Int.reduceBEq, Int.reduceBNe, Int.reduceLT, Int.reduceLE, Msg.a, Par.a, evG, evP, Nat.reduceMod, Nat.reduceDiv, Nat.reduceSub, Nat.reduceLeDiff, Nat.reduceMul, Nat.reduceAdd, t2, t3, t19, t20, t21, h2, h3, g7, g8, h13, h16, hlt', hlt, hge, w0, w1, w2, w3, w4, w5, q0, h0, h0', hqH', hqH, e1, e2, e5, e6, lz, lz2, List.length_map, Int.toNat_natCast] | refine calling (cb) ?_ | refine callingH (cb) ?_ | refine And.intro (by omega) ?_ | refine And.intro (fun d hd => by (repeat (rcases hd with rfl | hd; · exact ⟨rfl, rfl⟩)); cases hd) ?_))
      (repeat refine And.intro (by omega) ?_)
      refine fin _ ?_ ?_ ?_ ?_ ?_ ?_ ?_ ?_ ?_ ?_ ?_
      · simp (maxSteps := 4000000) only [go_sem, ↓reduceIte, reduceCtorEq, Nat.reduceEqDiff, Nat.reduceBEq, Nat.reduceAdd, Nat.reduceSub, Nat.reduceMul, Nat.reduceLT, Nat.reduceLeDiff, Nat.reduceBNe, Int.reduceBEq, Int.reduceBNe, Int.reduceLT, Int.reduceLE, Msg.a, Par.a, evG, evP, Nat.reduceMod, Nat.reduceDiv, Nat.reduceSub, Nat.reduceLeDiff, Nat.reduceMul, Nat.reduceAdd, t2]
      · simp (maxSteps := 4000000) only [go_sem, ↓reduceIte, reduceCtorEq, Nat.reduceEqDiff, Nat.reduceBEq, Nat.reduceAdd, Nat.reduceSub, Nat.reduceMul, Nat.reduceLT, Nat.reduceLeDiff, Nat.reduceBNe, Int.reduceBEq, Int.reduceBNe, Int.reduceLT, Int.reduceLE, Msg.a, Par.a, evG, evP, Nat.reduceMod, Nat.reduceDiv, Nat.reduceSub, Nat.reduceLeDiff, Nat.reduceMul, Nat.reduceAdd, t3]
      · simp (maxSteps := 4000000) only [go_sem, ↓reduceIte, reduceCtorEq, Nat.reduceEqDiff, Nat.reduceBEq, Nat.reduceAdd, Nat.reduceSub, Nat.reduceMul, Nat.reduceLT, Nat.reduceLeDiff, Nat.reduceBNe, Int.reduceBEq, Int.reduceBNe, Int.reduceLT, Int.reduceLE, Msg.a, Par.a, evG, evP, Nat.reduceMod, Nat.reduceDiv, Nat.reduceSub, Nat.reduceLeDiff, Nat.reduceMul, Nat.reduceAdd, t19]
      · simp (maxSteps := 4000000) only [go_sem, ↓reduceIte, reduceCtorEq, Nat.reduceEqDiff, Nat.reduceBEq, Nat.reduceAdd, Nat.reduceSub, Nat.reduceMul, Nat.reduceLT, Nat.reduceLeDiff, Nat.reduceBNe, Int.reduceBEq, Int.reduceBNe, Int.reduceLT, Int.reduceLE, Msg.a, Par.a, evG, evP, Nat.reduceMod, Nat.reduceDiv, Nat.reduceSub, Nat.reduceLeDiff, Nat.reduceMul, Nat.reduceAdd, t20]
      · simp (maxSteps := 4000000) only [go_sem, ↓reduceIte, reduceCtorEq, Nat.reduceEqDiff, Nat.reduceBEq, Nat.reduceAdd, Nat.reduceSub, Nat.reduceMul, Nat.reduceLT, Nat.reduceLeDiff, Nat.reduceBNe, Int.reduceBEq, Int.reduceBNe, Int.reduceLT, Int.reduceLE, Msg.a, Par.a, evG, evP, Nat.reduceMod, Nat.reduceDiv, Nat.reduceSub, Nat.reduceLeDiff, Nat.reduceMul, Nat.reduceAdd]
      · (simp (maxSteps := 4000000) only [go_sem, ↓reduceIte, reduceCtorEq, Nat.reduceEqDiff, Nat.reduceBEq, Nat.reduceAdd, Nat.reduceSub, Nat.reduceMul, Nat.reduceLT, Nat.reduceLeDiff, Nat.reduceBNe, Int.reduceBEq, Int.reduceBNe, Int.reduceLT, Int.reduceLE, Msg.a, Par.a, evG, evP, Nat.reduceMod, Nat.reduceDiv, Nat.reduceSub, Nat.reduceLeDiff, Nat.reduceMul, Nat.reduceAdd, h2]) <;> rfl
      · rw [tk]; unfold cellG; rw [n1, n3, n4, n5, n6]; (simp (maxSteps := 4000000) only [go_sem, ↓reduceIte, reduceCtorEq, Nat.reduceEqDiff, Nat.reduceBEq, Nat.reduceAdd, Nat.reduceSub, Nat.reduceMul, Nat.reduceLT, Nat.reduceLeDiff, Nat.reduceBNe, Int.reduceBEq, Int.reduceBNe, Int.reduceLT, Int.reduceLE, Msg.a, Par.a, evG, evP, Nat.reduceMod, Nat.reduceDiv, Nat.reduceSub, Nat.reduceLeDiff, Nat.reduceMul, Nat.reduceAdd, h3])
      · simp (maxSteps := 4000000) only [go_sem, ↓reduceIte, reduceCtorEq, Nat.reduceEqDiff, Nat.reduceBEq, Nat.reduceAdd, Nat.reduceSub, Nat.reduceMul, Nat.reduceLT, Nat.reduceLeDiff, Nat.reduceBNe, Int.reduceBEq, Int.reduceBNe, Int.reduceLT, Int.reduceLE, Msg.a, Par.a, evG, evP, Nat.reduceMod, Nat.reduceDiv, Nat.reduceSub, Nat.reduceLeDiff, Nat.reduceMul, Nat.reduceAdd, g7]
      · simp (maxSteps := 4000000) only [go_sem, ↓reduceIte, reduceCtorEq, Nat.reduceEqDiff, Nat.reduceBEq, Nat.reduceAdd, Nat.reduceSub, Nat.reduceMul, Nat.reduceLT, Nat.reduceLeDiff, Nat.reduceBNe, Int.reduceBEq, Int.reduceBNe, Int.reduceLT, Int.reduceLE, Msg.a, Par.a, evG, evP, Nat.reduceMod, Nat.reduceDiv, Nat.reduceSub, Nat.reduceLeDiff, Nat.reduceMul, Nat.reduceAdd, g8]
      · rw [tk]; (simp (maxSteps := 4000000) only [go_sem, ↓reduceIte, reduceCtorEq, Nat.reduceEqDiff, Nat.reduceBEq, Nat.reduceAdd, Nat.reduceSub, Nat.reduceMul, Nat.reduceLT, Nat.reduceLeDiff, Nat.reduceBNe, Int.reduceBEq, Int.reduceBNe, Int.reduceLT, Int.reduceLE, Msg.a, Par.a, evG, evP, Nat.reduceMod, Nat.reduceDiv, Nat.reduceSub, Nat.reduceLeDiff, Nat.reduceMul, Nat.reduceAdd, e3])
      · rw [tk]; (simp (maxSteps := 4000000) only [go_sem, ↓reduceIte, reduceCtorEq, Nat.reduceEqDiff, Nat.reduceBEq, Nat.reduceAdd, Nat.reduceSub, Nat.reduceMul, Nat.reduceLT, Nat.reduceLeDiff, Nat.reduceBNe, Int.reduceBEq, Int.reduceBNe, Int.reduceLT, Int.reduceLE, Msg.a, Par.a, evG, evP, Nat.reduceMod, Nat.reduceDiv, Nat.reduceSub, Nat.reduceLeDiff, Nat.reduceMul, Nat.reduceAdd, e4])
    · obtain ⟨o1, o2⟩ := outR (by omega)
      have hqH' : ¬ (q : Int) < (H : Int) := by omega
      (repeat (first | simp (maxSteps := 4000000) only [go_sem, ↓reduceIte, reduceCtorEq, Nat.reduceEqDiff, Nat.reduceBEq, Nat.reduceAdd, Nat.reduceSub, Nat.reduceMul, Nat.reduceLT, Nat.reduceLeDiff, Nat.reduceBNe, Int.reduceBEq, Int.reduceBNe, Int.reduceLT, Int.reduceLE, Msg.a, Par.a, evG, evP, Nat.reduceMod, Nat.reduceDiv, Nat.reduceSub, Nat.reduceLeDiff, Nat.reduceMul, Nat.reduceAdd, t2, t3, t19, t20, t21, h2, h3, g7, g8, h13, h16, hlt', hlt, hge, w0, w1, w2, w3, w4, w5, q0, h0, h0', hqH', List.length_map, Int.toNat_natCast] | refine calling (cb) ?_ | refine callingH (cb) ?_ | refine And.intro (by omega) ?_ | refine And.intro (fun d hd => by (repeat (rcases hd with rfl | hd; · exact ⟨rfl, rfl⟩)); cases hd) ?_))
      (repeat refine And.intro (by omega) ?_)
      refine fin _ ?_ ?_ ?_ ?_ ?_ ?_ ?_ ?_ ?_ ?_ ?_
      · simp (maxSteps := 4000000) only [go_sem, ↓reduceIte, reduceCtorEq, Nat.reduceEqDiff, Nat.reduceBEq, Nat.reduceAdd, Nat.reduceSub, Nat.reduceMul, Nat.reduceLT, Nat.reduceLeDiff, Nat.reduceBNe, Int.reduceBEq, Int.reduceBNe, Int.reduceLT, Int.reduceLE, Msg.a, Par.a, evG, evP, Nat.reduceMod, Nat.reduceDiv, Nat.reduceSub, Nat.reduceLeDiff, Nat.reduceMul, Nat.reduceAdd, t2]
      · simp (maxSteps := 4000000) only [go_sem, ↓reduceIte, reduceCtorEq, Nat.reduceEqDiff, Nat.reduceBEq, Nat.reduceAdd, Nat.reduceSub, Nat.reduceMul, Nat.reduceLT, Nat.reduceLeDiff, Nat.reduceBNe, Int.reduceBEq, Int.reduceBNe, Int.reduceLT, Int.reduceLE, Msg.a, Par.a, evG, evP, Nat.reduceMod, Nat.reduceDiv, Nat.reduceSub, Nat.reduceLeDiff, Nat.reduceMul, Nat.reduceAdd, t3]
      · simp (maxSteps := 4000000) only [go_sem, ↓reduceIte, reduceCtorEq, Nat.reduceEqDiff, Nat.reduceBEq, Nat.reduceAdd, Nat.reduceSub, Nat.reduceMul, Nat.reduceLT, Nat.reduceLeDiff, Nat.reduceBNe, Int.reduceBEq, Int.reduceBNe, Int.reduceLT, Int.reduceLE, Msg.a, Par.a, evG, evP, Nat.reduceMod, Nat.reduceDiv, Nat.reduceSub, Nat.reduceLeDiff, Nat.reduceMul, Nat.reduceAdd, t19]
      · simp (maxSteps := 4000000) only [go_sem, ↓reduceIte, reduceCtorEq, Nat.reduceEqDiff, Nat.reduceBEq, Nat.reduceAdd, Nat.reduceSub, Nat.reduceMul, Nat.reduceLT, Nat.reduceLeDiff, Nat.reduceBNe, Int.reduceBEq, Int.reduceBNe, Int.reduceLT, Int.reduceLE, Msg.a, Par.a, evG, evP, Nat.reduceMod, Nat.reduceDiv, Nat.reduceSub, Nat.reduceLeDiff, Nat.reduceMul, Nat.reduceAdd, t20]
      · simp (maxSteps := 4000000) only [go_sem, ↓reduceIte, reduceCtorEq, Nat.reduceEqDiff, Nat.reduceBEq, Nat.reduceAdd, Nat.reduceSub, Nat.reduceMul, Nat.reduceLT, Nat.reduceLeDiff, Nat.reduceBNe, Int.reduceBEq, Int.reduceBNe, Int.reduceLT, Int.reduceLE, Msg.a, Par.a, evG, evP, Nat.reduceMod, Nat.reduceDiv, Nat.reduceSub, Nat.reduceLeDiff, Nat.reduceMul, Nat.reduceAdd]
      · (simp (maxSteps := 4000000) only [go_sem, ↓reduceIte, reduceCtorEq, Nat.reduceEqDiff, Nat.reduceBEq, Nat.reduceAdd, Nat.reduceSub, Nat.reduceMul, Nat.reduceLT, Nat.reduceLeDiff, Nat.reduceBNe, Int.reduceBEq, Int.reduceBNe, Int.reduceLT, Int.reduceLE, Msg.a, Par.a, evG, evP, Nat.reduceMod, Nat.reduceDiv, Nat.reduceSub, Nat.reduceLeDiff, Nat.reduceMul, Nat.reduceAdd, h2]) <;> rfl
      · rw [tk]; unfold cellG; rw [n1, n3, n4, n5, n6]; (simp (maxSteps := 4000000) only [go_sem, ↓reduceIte, reduceCtorEq, Nat.reduceEqDiff, Nat.reduceBEq, Nat.reduceAdd, Nat.reduceSub, Nat.reduceMul, Nat.reduceLT, Nat.reduceLeDiff, Nat.reduceBNe, Int.reduceBEq, Int.reduceBNe, Int.reduceLT, Int.reduceLE, Msg.a, Par.a, evG, evP, Nat.reduceMod, Nat.reduceDiv, Nat.reduceSub, Nat.reduceLeDiff, Nat.reduceMul, Nat.reduceAdd, h3])
      · simp (maxSteps := 4000000) only [go_sem, ↓reduceIte, reduceCtorEq, Nat.reduceEqDiff, Nat.reduceBEq, Nat.reduceAdd, Nat.reduceSub, Nat.reduceMul, Nat.reduceLT, Nat.reduceLeDiff, Nat.reduceBNe, Int.reduceBEq, Int.reduceBNe, Int.reduceLT, Int.reduceLE, Msg.a, Par.a, evG, evP, Nat.reduceMod, Nat.reduceDiv, Nat.reduceSub, Nat.reduceLeDiff, Nat.reduceMul, Nat.reduceAdd, g7]
      · simp (maxSteps := 4000000) only [go_sem, ↓reduceIte, reduceCtorEq, Nat.reduceEqDiff, Nat.reduceBEq, Nat.reduceAdd, Nat.reduceSub, Nat.reduceMul, Nat.reduceLT, Nat.reduceLeDiff, Nat.reduceBNe, Int.reduceBEq, Int.reduceBNe, Int.reduceLT, Int.reduceLE, Msg.a, Par.a, evG, evP, Nat.reduceMod, Nat.reduceDiv, Nat.reduceSub, Nat.reduceLeDiff, Nat.reduceMul, Nat.reduceAdd, g8]
      · rw [tk, o1]; (simp (maxSteps := 4000000) only [go_sem, ↓reduceIte, reduceCtorEq, Nat.reduceEqDiff, Nat.reduceBEq, Nat.reduceAdd, Nat.reduceSub, Nat.reduceMul, Nat.reduceLT, Nat.reduceLeDiff, Nat.reduceBNe, Int.reduceBEq, Int.reduceBNe, Int.reduceLT, Int.reduceLE, Msg.a, Par.a, evG, evP, Nat.reduceMod, Nat.reduceDiv, Nat.reduceSub, Nat.reduceLeDiff, Nat.reduceMul, Nat.reduceAdd, h13])
      · rw [tk, o2]; (simp (maxSteps := 4000000) only [go_sem, ↓reduceIte, reduceCtorEq, Nat.reduceEqDiff, Nat.reduceBEq, Nat.reduceAdd, Nat.reduceSub, Nat.reduceMul, Nat.reduceLT, Nat.reduceLeDiff, Nat.reduceBNe, Int.reduceBEq, Int.reduceBNe, Int.reduceLT, Int.reduceLE, Msg.a, Par.a, evG, evP, Nat.reduceMod, Nat.reduceDiv, Nat.reduceSub, Nat.reduceLeDiff, Nat.reduceMul, Nat.reduceAdd, h16])
  have q0 : (x.level == 0) = true := by simp [hz]
  have n1 : lvs (l.take i ++ [x]) = lvs (l.take i) + 1 := by unfold lvs; rw [List.countP_append, List.countP_singleton, q0]; rfl
  rw [hz] at hge
  have z0 : ((0 : Int) == 0) = true := rfl
  have z1 : (0 : Int) ≥ 0 := Int.le_refl 0
  have z2 : (0 : Int) ≤ 0 := Int.le_refl 0
  by_cases hrw : x.rows.length = 0
  · have r0 : ((x.rows.length : Int) == 0) = true := by rw [hrw]; rfl
    have n6 : emp (l.take i ++ [x]) = emp (l.take i) + 1 := by
      unfold emp
      have r0' : (x.rows.length == 0) = true := beq_iff_eq.2 hrw
      rw [List.countP_append, List.countP_singleton, q0, r0']; rfl
    by_cases hqH : 0 < H
    · obtain ⟨e1, e2, e3, e4, e5, e6⟩ := inR 0 hz hqH
      have hqH' : (0 : Int) < (H : Int) := by omega
      (repeat (first | simp (maxSteps := 4000000) only [go_sem, ↓reduceIte, reduceCtorEq, Nat.reduceEqDiff, Nat.reduceBEq, Nat.reduceAdd, Nat.reduceSub, Nat.reduceMul, Nat.reduceLT, Nat.reduceLeDiff, Nat.reduceBNe, Int.reduceBEq, Int.reduceBNe, Int.reduceLT, Int.reduceLE, Msg.a, Par.a, evG, evP, Nat.reduceMod, Nat.reduceDiv, Nat.reduceSub, Nat.reduceLeDiff, Nat.reduceMul, Nat.reduceAdd, t2, t3, t19, t20, t21, h2, h3, g7, g8, h13, h16, hlt', hlt, hge, w0, w1, w2, w3, w4, w5, z0, z1, z2, r0, hqH', hqH, e1, e2, e5, e6, lz, lz2, Int.toNat_zero, List.length_map, Int.toNat_natCast] | refine calling (cb) ?_ | refine callingH (cb) ?_ | refine And.intro (by omega) ?_ | refine And.intro (fun d hd => by (repeat (rcases hd with rfl | hd; · exact ⟨rfl, rfl⟩)); cases hd) ?_))
      (repeat refine And.intro (by omega) ?_)
      refine fin _ ?_ ?_ ?_ ?_ ?_ ?_ ?_ ?_ ?_ ?_ ?_
      · simp (maxSteps := 4000000) only [go_sem, ↓reduceIte, reduceCtorEq, Nat.reduceEqDiff, Nat.reduceBEq, Nat.reduceAdd, Nat.reduceSub, Nat.reduceMul, Nat.reduceLT, Nat.reduceLeDiff, Nat.reduceBNe, Int.reduceBEq, Int.reduceBNe, Int.reduceLT, Int.reduceLE, Msg.a, Par.a, evG, evP, Nat.reduceMod, Nat.reduceDiv, Nat.reduceSub, Nat.reduceLeDiff, Nat.reduceMul, Nat.reduceAdd, t2]
      · simp (maxSteps := 4000000) only [go_sem, ↓reduceIte, reduceCtorEq, Nat.reduceEqDiff, Nat.reduceBEq, Nat.reduceAdd, Nat.reduceSub, Nat.reduceMul, Nat.reduceLT, Nat.reduceLeDiff, Nat.reduceBNe, Int.reduceBEq, Int.reduceBNe, Int.reduceLT, Int.reduceLE, Msg.a, Par.a, evG, evP, Nat.reduceMod, Nat.reduceDiv, Nat.reduceSub, Nat.reduceLeDiff, Nat.reduceMul, Nat.reduceAdd, t3]
      · simp (maxSteps := 4000000) only [go_sem, ↓reduceIte, reduceCtorEq, Nat.reduceEqDiff, Nat.reduceBEq, Nat.reduceAdd, Nat.reduceSub, Nat.reduceMul, Nat.reduceLT, Nat.reduceLeDiff, Nat.reduceBNe, Int.reduceBEq, Int.reduceBNe, Int.reduceLT, Int.reduceLE, Msg.a, Par.a, evG, evP, Nat.reduceMod, Nat.reduceDiv, Nat.reduceSub, Nat.reduceLeDiff, Nat.reduceMul, Nat.reduceAdd, t19]
      · simp (maxSteps := 4000000) only [go_sem, ↓reduceIte, reduceCtorEq, Nat.reduceEqDiff, Nat.reduceBEq, Nat.reduceAdd, Nat.reduceSub, Nat.reduceMul, Nat.reduceLT, Nat.reduceLeDiff, Nat.reduceBNe, Int.reduceBEq, Int.reduceBNe, Int.reduceLT, Int.reduceLE, Msg.a, Par.a, evG, evP, Nat.reduceMod, Nat.reduceDiv, Nat.reduceSub, Nat.reduceLeDiff, Nat.reduceMul, Nat.reduceAdd, t20]
      · simp (maxSteps := 4000000) only [go_sem, ↓reduceIte, reduceCtorEq, Nat.reduceEqDiff, Nat.reduceBEq, Nat.reduceAdd, Nat.reduceSub, Nat.reduceMul, Nat.reduceLT, Nat.reduceLeDiff, Nat.reduceBNe, Int.reduceBEq, Int.reduceBNe, Int.reduceLT, Int.reduceLE, Msg.a, Par.a, evG, evP, Nat.reduceMod, Nat.reduceDiv, Nat.reduceSub, Nat.reduceLeDiff, Nat.reduceMul, Nat.reduceAdd]
      · (simp (maxSteps := 4000000) only [go_sem, ↓reduceIte, reduceCtorEq, Nat.reduceEqDiff, Nat.reduceBEq, Nat.reduceAdd, Nat.reduceSub, Nat.reduceMul, Nat.reduceLT, Nat.reduceLeDiff, Nat.reduceBNe, Int.reduceBEq, Int.reduceBNe, Int.reduceLT, Int.reduceLE, Msg.a, Par.a, evG, evP, Nat.reduceMod, Nat.reduceDiv, Nat.reduceSub, Nat.reduceLeDiff, Nat.reduceMul, Nat.reduceAdd, h2]) <;> rfl
      · rw [tk]; unfold cellG; rw [n1, n3, n4, n5, n6]; (simp (maxSteps := 4000000) only [go_sem, ↓reduceIte, reduceCtorEq, Nat.reduceEqDiff, Nat.reduceBEq, Nat.reduceAdd, Nat.reduceSub, Nat.reduceMul, Nat.reduceLT, Nat.reduceLeDiff, Nat.reduceBNe, Int.reduceBEq, Int.reduceBNe, Int.reduceLT, Int.reduceLE, Msg.a, Par.a, evG, evP, Nat.reduceMod, Nat.reduceDiv, Nat.reduceSub, Nat.reduceLeDiff, Nat.reduceMul, Nat.reduceAdd, h3])
      · simp (maxSteps := 4000000) only [go_sem, ↓reduceIte, reduceCtorEq, Nat.reduceEqDiff, Nat.reduceBEq, Nat.reduceAdd, Nat.reduceSub, Nat.reduceMul, Nat.reduceLT, Nat.reduceLeDiff, Nat.reduceBNe, Int.reduceBEq, Int.reduceBNe, Int.reduceLT, Int.reduceLE, Msg.a, Par.a, evG, evP, Nat.reduceMod, Nat.reduceDiv, Nat.reduceSub, Nat.reduceLeDiff, Nat.reduceMul, Nat.reduceAdd, g7]
      · simp (maxSteps := 4000000) only [go_sem, ↓reduceIte, reduceCtorEq, Nat.reduceEqDiff, Nat.reduceBEq, Nat.reduceAdd, Nat.reduceSub, Nat.reduceMul, Nat.reduceLT, Nat.reduceLeDiff, Nat.reduceBNe, Int.reduceBEq, Int.reduceBNe, Int.reduceLT, Int.reduceLE, Msg.a, Par.a, evG, evP, Nat.reduceMod, Nat.reduceDiv, Nat.reduceSub, Nat.reduceLeDiff, Nat.reduceMul, Nat.reduceAdd, g8]
      · rw [tk]; (simp (maxSteps := 4000000) only [go_sem, ↓reduceIte, reduceCtorEq, Nat.reduceEqDiff, Nat.reduceBEq, Nat.reduceAdd, Nat.reduceSub, Nat.reduceMul, Nat.reduceLT, Nat.reduceLeDiff, Nat.reduceBNe, Int.reduceBEq, Int.reduceBNe, Int.reduceLT, Int.reduceLE, Msg.a, Par.a, evG, evP, Nat.reduceMod, Nat.reduceDiv, Nat.reduceSub, Nat.reduceLeDiff, Nat.reduceMul, Nat.reduceAdd, e3])
      · rw [tk]; (simp (maxSteps := 4000000) only [go_sem, ↓reduceIte, reduceCtorEq, Nat.reduceEqDiff, Nat.reduceBEq, Nat.reduceAdd, Nat.reduceSub, Nat.reduceMul, Nat.reduceLT, Nat.reduceLeDiff, Nat.reduceBNe, Int.reduceBEq, Int.reduceBNe, Int.reduceLT, Int.reduceLE, Msg.a, Par.a, evG, evP, Nat.reduceMod, Nat.reduceDiv, Nat.reduceSub, Nat.reduceLeDiff, Nat.reduceMul, Nat.reduceAdd, e4])
    · obtain ⟨o1, o2⟩ := outR (by omega)
      have hqH' : ¬ (0 : Int) < (H : Int) := by omega
      (repeat (first | simp (maxSteps := 4000000) only [go_sem, ↓reduceIte, reduceCtorEq, Nat.reduceEqDiff, Nat.reduceBEq, Nat.reduceAdd, Nat.reduceSub, Nat.reduceMul, Nat.reduceLT, Nat.reduceLeDiff, Nat.reduceBNe, Int.reduceBEq, Int.reduceBNe, Int.reduceLT, Int.reduceLE, Msg.a, Par.a, evG, evP, Nat.reduceMod, Nat.reduceDiv, Nat.reduceSub, Nat.reduceLeDiff, Nat.reduceMul, Nat.reduceAdd, t2, t3, t19, t20, t21, h2, h3, g7, g8, h13, h16, hlt', hlt, hge, w0, w1, w2, w3, w4, w5, z0, z1, z2, r0, hqH', List.length_map, Int.toNat_natCast] | refine calling (cb) ?_ | refine callingH (cb) ?_ | refine And.intro (by omega) ?_ | refine And.intro (fun d hd => by (repeat (rcases hd with rfl | hd; · exact ⟨rfl, rfl⟩)); cases hd) ?_))
      (repeat refine And.intro (by omega) ?_)
      refine fin _ ?_ ?_ ?_ ?_ ?_ ?_ ?_ ?_ ?_ ?_ ?_
      · simp (maxSteps := 4000000) only [go_sem, ↓reduceIte, reduceCtorEq, Nat.reduceEqDiff, Nat.reduceBEq, Nat.reduceAdd, Nat.reduceSub, Nat.reduceMul, Nat.reduceLT, Nat.reduceLeDiff, Nat.reduceBNe, Int.reduceBEq, Int.reduceBNe, Int.reduceLT, Int.reduceLE, Msg.a, Par.a, evG, evP, Nat.reduceMod, Nat.reduceDiv, Nat.reduceSub, Nat.reduceLeDiff, Nat.reduceMul, Nat.reduceAdd, t2]
      · simp (maxSteps := 4000000) only [go_sem, ↓reduceIte, reduceCtorEq, Nat.reduceEqDiff, Nat.reduceBEq, Nat.reduceAdd, Nat.reduceSub, Nat.reduceMul, Nat.reduceLT, Nat.reduceLeDiff, Nat.reduceBNe, Int.reduceBEq, Int.reduceBNe, Int.reduceLT, Int.reduceLE, Msg.a, Par.a, evG, evP, Nat.reduceMod, Nat.reduceDiv, Nat.reduceSub, Nat.reduceLeDiff, Nat.reduceMul, Nat.reduceAdd, t3]
      · simp (maxSteps := 4000000) only [go_sem, ↓reduceIte, reduceCtorEq, Nat.reduceEqDiff, Nat.reduceBEq, Nat.reduceAdd, Nat.reduceSub, Nat.reduceMul, Nat.reduceLT, Nat.reduceLeDiff, Nat.reduceBNe, Int.reduceBEq, Int.reduceBNe, Int.reduceLT, Int.reduceLE, Msg.a, Par.a, evG, evP, Nat.reduceMod, Nat.reduceDiv, Nat.reduceSub, Nat.reduceLeDiff, Nat.reduceMul, Nat.reduceAdd, t19]
      · simp (maxSteps := 4000000) only [go_sem, ↓reduceIte, reduceCtorEq, Nat.reduceEqDiff, Nat.reduceBEq, Nat.reduceAdd, Nat.reduceSub, Nat.reduceMul, Nat.reduceLT, Nat.reduceLeDiff, Nat.reduceBNe, Int.reduceBEq, Int.reduceBNe, Int.reduceLT, Int.reduceLE, Msg.a, Par.a, evG, evP, Nat.reduceMod, Nat.reduceDiv, Nat.reduceSub, Nat.reduceLeDiff, Nat.reduceMul, Nat.reduceAdd, t20]
      · simp (maxSteps := 4000000) only [go_sem, ↓reduceIte, reduceCtorEq, Nat.reduceEqDiff, Nat.reduceBEq, Nat.reduceAdd, Nat.reduceSub, Nat.reduceMul, Nat.reduceLT, Nat.reduceLeDiff, Nat.reduceBNe, Int.reduceBEq, Int.reduceBNe, Int.reduceLT, Int.reduceLE, Msg.a, Par.a, evG, evP, Nat.reduceMod, Nat.reduceDiv, Nat.reduceSub, Nat.reduceLeDiff, Nat.reduceMul, Nat.reduceAdd]
      · (simp (maxSteps := 4000000) only [go_sem, ↓reduceIte, reduceCtorEq, Nat.reduceEqDiff, Nat.reduceBEq, Nat.reduceAdd, Nat.reduceSub, Nat.reduceMul, Nat.reduceLT, Nat.reduceLeDiff, Nat.reduceBNe, Int.reduceBEq, Int.reduceBNe, Int.reduceLT, Int.reduceLE, Msg.a, Par.a, evG, evP, Nat.reduceMod, Nat.reduceDiv, Nat.reduceSub, Nat.reduceLeDiff, Nat.reduceMul, Nat.reduceAdd, h2]) <;> rfl
      · rw [tk]; unfold cellG; rw [n1, n3, n4, n5, n6]; (simp (maxSteps := 4000000) only [go_sem, ↓reduceIte, reduceCtorEq, Nat.reduceEqDiff, Nat.reduceBEq, Nat.reduceAdd, Nat.reduceSub, Nat.reduceMul, Nat.reduceLT, Nat.reduceLeDiff, Nat.reduceBNe, Int.reduceBEq, Int.reduceBNe, Int.reduceLT, Int.reduceLE, Msg.a, Par.a, evG, evP, Nat.reduceMod, Nat.reduceDiv, Nat.reduceSub, Nat.reduceLeDiff, Nat.reduceMul, Nat.reduceAdd, h3])
      · simp (maxSteps := 4000000) only [go_sem, ↓reduceIte, reduceCtorEq, Nat.reduceEqDiff, Nat.reduceBEq, Nat.reduceAdd, Nat.reduceSub, Nat.reduceMul, Nat.reduceLT, Nat.reduceLeDiff, Nat.reduceBNe, Int.reduceBEq, Int.reduceBNe, Int.reduceLT, Int.reduceLE, Msg.a, Par.a, evG, evP, Nat.reduceMod, Nat.reduceDiv, Nat.reduceSub, Nat.reduceLeDiff, Nat.reduceMul, Nat.reduceAdd, g7]
      · simp (maxSteps := 4000000) only [go_sem, ↓reduceIte, reduceCtorEq, Nat.reduceEqDiff, Nat.reduceBEq, Nat.reduceAdd, Nat.reduceSub, Nat.reduceMul, Nat.reduceLT, Nat.reduceLeDiff, Nat.reduceBNe, Int.reduceBEq, Int.reduceBNe, Int.reduceLT, Int.reduceLE, Msg.a, Par.a, evG, evP, Nat.reduceMod, Nat.reduceDiv, Nat.reduceSub, Nat.reduceLeDiff, Nat.reduceMul, Nat.reduceAdd, g8]
      · rw [tk, o1]; (simp (maxSteps := 4000000) only [go_sem, ↓reduceIte, reduceCtorEq, Nat.reduceEqDiff, Nat.reduceBEq, Nat.reduceAdd, Nat.reduceSub, Nat.reduceMul, Nat.reduceLT, Nat.reduceLeDiff, Nat.reduceBNe, Int.reduceBEq, Int.reduceBNe, Int.reduceLT, Int.reduceLE, Msg.a, Par.a, evG, evP, Nat.reduceMod, Nat.reduceDiv, Nat.reduceSub, Nat.reduceLeDiff, Nat.reduceMul, Nat.reduceAdd, h13])
      · rw [tk, o2]; (simp (maxSteps := 4000000) only [go_sem, ↓reduceIte, reduceCtorEq, Nat.reduceEqDiff, Nat.reduceBEq, Nat.reduceAdd, Nat.reduceSub, Nat.reduceMul, Nat.reduceLT, Nat.reduceLeDiff, Nat.reduceBNe, Int.reduceBEq, Int.reduceBNe, Int.reduceLT, Int.reduceLE, Msg.a, Par.a, evG, evP, Nat.reduceMod, Nat.reduceDiv, Nat.reduceSub, Nat.reduceLeDiff, Nat.reduceMul, Nat.reduceAdd, h16])
  · have r0 : ((x.rows.length : Int) == 0) = false := beq_eq_false_iff_ne.2 (by omega)
    have n6 : emp (l.take i ++ [x]) = emp (l.take i) := by
      unfold emp
      have r0' : (x.rows.length == 0) = false := beq_eq_false_iff_ne.2 hrw
      rw [List.countP_append, List.countP_singleton, q0, r0']; rfl
    by_cases hqH : 0 < H
    · obtain ⟨e1, e2, e3, e4, e5, e6⟩ := inR 0 hz hqH
      have hqH' : (0 : Int) < (H : Int) := by omega
      (repeat (first | simp (maxSteps := 4000000) only [go_sem, ↓reduceIte, reduceCtorEq, Nat.reduceEqDiff, Nat.reduceBEq, Nat.reduceAdd, Nat.reduceSub, Nat.reduceMul, Nat.reduceLT, Nat.reduceLeDiff, Nat.reduceBNe, Int.reduceBEq, Int.reduceBNe, Int.reduceLT, Int.reduceLE, Msg.a, Par.a, evG, evP, Nat.reduceMod, Nat.reduceDiv, Nat.reduceSub, Nat.reduceLeDiff, Nat.reduceMul, Nat.reduceAdd, t2, t3, t19, t20, t21, h2, h3, g7, g8, h13, h16, hlt', hlt, hge, w0, w1, w2, w3, w4, w5, z0, z1, z2, r0, hqH', hqH, e1, e2, e5, e6, lz, lz2, Int.toNat_zero, List.length_map, Int.toNat_natCast] | refine calling (cb) ?_ | refine callingH (cb) ?_ | refine And.intro (by omega) ?_ | refine And.intro (fun d hd => by (repeat (rcases hd with rfl | hd; · exact ⟨rfl, rfl⟩)); cases hd) ?_))
      (repeat refine And.intro (by omega) ?_)
      refine fin _ ?_ ?_ ?_ ?_ ?_ ?_ ?_ ?_ ?_ ?_ ?_
      · simp (maxSteps := 4000000) only [go_sem, ↓reduceIte, reduceCtorEq, Nat.reduceEqDiff, Nat.reduceBEq, Nat.reduceAdd, Nat.reduceSub, Nat.reduceMul, Nat.reduceLT, Nat.reduceLeDiff, Nat.reduceBNe, Int.reduceBEq, Int.reduceBNe, Int.reduceLT, Int.reduceLE, Msg.a, Par.a, evG, evP, Nat.reduceMod, Nat.reduceDiv, Nat.reduceSub, Nat.reduceLeDiff, Nat.reduceMul, Nat.reduceAdd, t2]
      · simp (maxSteps := 4000000) only [go_sem, ↓reduceIte, reduceCtorEq, Nat.reduceEqDiff, Nat.reduceBEq, Nat.reduceAdd, Nat.reduceSub, Nat.reduceMul, Nat.reduceLT, Nat.reduceLeDiff, Nat.reduceBNe, Int.reduceBEq, Int.reduceBNe, Int.reduceLT, Int.reduceLE, Msg.a, Par.a, evG, evP, Nat.reduceMod, Nat.reduceDiv, Nat.reduceSub, Nat.reduceLeDiff, Nat.reduceMul, Nat.reduceAdd, t3]
      · simp (maxSteps := 4000000) only [go_sem, ↓reduceIte, reduceCtorEq, Nat.reduceEqDiff, Nat.reduceBEq, Nat.reduceAdd, Nat.reduceSub, Nat.reduceMul, Nat.reduceLT, Nat.reduceLeDiff, Nat.reduceBNe, Int.reduceBEq, Int.reduceBNe, Int.reduceLT, Int.reduceLE, Msg.a, Par.a, evG, evP, Nat.reduceMod, Nat.reduceDiv, Nat.reduceSub, Nat.reduceLeDiff, Nat.reduceMul, Nat.reduceAdd, t19]
      · simp (maxSteps := 4000000) only [go_sem, ↓reduceIte, reduceCtorEq, Nat.reduceEqDiff, Nat.reduceBEq, Nat.reduceAdd, Nat.reduceSub, Nat.reduceMul, Nat.reduceLT, Nat.reduceLeDiff, Nat.reduceBNe, Int.reduceBEq, Int.reduceBNe, Int.reduceLT, Int.reduceLE, Msg.a, Par.a, evG, evP, Nat.reduceMod, Nat.reduceDiv, Nat.reduceSub, Nat.reduceLeDiff, Nat.reduceMul, Nat.reduceAdd, t20]
      · simp (maxSteps := 4000000) only [go_sem, ↓reduceIte, reduceCtorEq, Nat.reduceEqDiff, Nat.reduceBEq, Nat.reduceAdd, Nat.reduceSub, Nat.reduceMul, Nat.reduceLT, Nat.reduceLeDiff, Nat.reduceBNe, Int.reduceBEq, Int.reduceBNe, Int.reduceLT, Int.reduceLE, Msg.a, Par.a, evG, evP, Nat.reduceMod, Nat.reduceDiv, Nat.reduceSub, Nat.reduceLeDiff, Nat.reduceMul, Nat.reduceAdd]
      · (simp (maxSteps := 4000000) only [go_sem, ↓reduceIte, reduceCtorEq, Nat.reduceEqDiff, Nat.reduceBEq, Nat.reduceAdd, Nat.reduceSub, Nat.reduceMul, Nat.reduceLT, Nat.reduceLeDiff, Nat.reduceBNe, Int.reduceBEq, Int.reduceBNe, Int.reduceLT, Int.reduceLE, Msg.a, Par.a, evG, evP, Nat.reduceMod, Nat.reduceDiv, Nat.reduceSub, Nat.reduceLeDiff, Nat.reduceMul, Nat.reduceAdd, h2]) <;> rfl
      · rw [tk]; unfold cellG; rw [n1, n3, n4, n5, n6]; (simp (maxSteps := 4000000) only [go_sem, ↓reduceIte, reduceCtorEq, Nat.reduceEqDiff, Nat.reduceBEq, Nat.reduceAdd, Nat.reduceSub, Nat.reduceMul, Nat.reduceLT, Nat.reduceLeDiff, Nat.reduceBNe, Int.reduceBEq, Int.reduceBNe, Int.reduceLT, Int.reduceLE, Msg.a, Par.a, evG, evP, Nat.reduceMod, Nat.reduceDiv, Nat.reduceSub, Nat.reduceLeDiff, Nat.reduceMul, Nat.reduceAdd, h3])
      · simp (maxSteps := 4000000) only [go_sem, ↓reduceIte, reduceCtorEq, Nat.reduceEqDiff, Nat.reduceBEq, Nat.reduceAdd, Nat.reduceSub, Nat.reduceMul, Nat.reduceLT, Nat.reduceLeDiff, Nat.reduceBNe, Int.reduceBEq, Int.reduceBNe, Int.reduceLT, Int.reduceLE, Msg.a, Par.a, evG, evP, Nat.reduceMod, Nat.reduceDiv, Nat.reduceSub, Nat.reduceLeDiff, Nat.reduceMul, Nat.reduceAdd, g7]
      · simp (maxSteps := 4000000) only [go_sem, ↓reduceIte, reduceCtorEq, Nat.reduceEqDiff, Nat.reduceBEq, Nat.reduceAdd, Nat.reduceSub, Nat.reduceMul, Nat.reduceLT, Nat.reduceLeDiff, Nat.reduceBNe, Int.reduceBEq, Int.reduceBNe, Int.reduceLT, Int.reduceLE, Msg.a, Par.a, evG, evP, Nat.reduceMod, Nat.reduceDiv, Nat.reduceSub, Nat.reduceLeDiff, Nat.reduceMul, Nat.reduceAdd, g8]
      · rw [tk]; (simp (maxSteps := 4000000) only [go_sem, ↓reduceIte, reduceCtorEq, Nat.reduceEqDiff, Nat.reduceBEq, Nat.reduceAdd, Nat.reduceSub, Nat.reduceMul, Nat.reduceLT, Nat.reduceLeDiff, Nat.reduceBNe, Int.reduceBEq, Int.reduceBNe, Int.reduceLT, Int.reduceLE, Msg.a, Par.a, evG, evP, Nat.reduceMod, Nat.reduceDiv, Nat.reduceSub, Nat.reduceLeDiff, Nat.reduceMul, Nat.reduceAdd, e3])
      · rw [tk]; (simp (maxSteps := 4000000) only [go_sem, ↓reduceIte, reduceCtorEq, Nat.reduceEqDiff, Nat.reduceBEq, Nat.reduceAdd, Nat.reduceSub, Nat.reduceMul, Nat.reduceLT, Nat.reduceLeDiff, Nat.reduceBNe, Int.reduceBEq, Int.reduceBNe, Int.reduceLT, Int.reduceLE, Msg.a, Par.a, evG, evP, Nat.reduceMod, Nat.reduceDiv, Nat.reduceSub, Nat.reduceLeDiff, Nat.reduceMul, Nat.reduceAdd, e4])
    · obtain ⟨o1, o2⟩ := outR (by omega)
      have hqH' : ¬ (0 : Int) < (H : Int) := by omega
      (repeat (first | simp (maxSteps := 4000000) only [go_sem, ↓reduceIte, reduceCtorEq, Nat.reduceEqDiff, Nat.reduceBEq, Nat.reduceAdd, Nat.reduceSub, Nat.reduceMul, Nat.reduceLT, Nat.reduceLeDiff, Nat.reduceBNe, Int.reduceBEq, Int.reduceBNe, Int.reduceLT, Int.reduceLE, Msg.a, Par.a, evG, evP, Nat.reduceMod, Nat.reduceDiv, Nat.reduceSub, Nat.reduceLeDiff, Nat.reduceMul, Nat.reduceAdd, t2, t3, t19, t20, t21, h2, h3, g7, g8, h13, h16, hlt', hlt, hge, w0, w1, w2, w3, w4, w5, z0, z1, z2, r0, hqH', List.length_map, Int.toNat_natCast] | refine calling (cb) ?_ | refine callingH (cb) ?_ | refine And.intro (by omega) ?_ | refine And.intro (fun d hd => by (repeat (rcases hd with rfl | hd; · exact ⟨rfl, rfl⟩)); cases hd) ?_))
      (repeat refine And.intro (by omega) ?_)
      refine fin _ ?_ ?_ ?_ ?_ ?_ ?_ ?_ ?_ ?_ ?_ ?_
      · simp (maxSteps := 4000000) only [go_sem, ↓reduceIte, reduceCtorEq, Nat.reduceEqDiff, Nat.reduceBEq, Nat.reduceAdd, Nat.reduceSub, Nat.reduceMul, Nat.reduceLT, Nat.reduceLeDiff, Nat.reduceBNe, Int.reduceBEq, Int.reduceBNe, Int.reduceLT, Int.reduceLE, Msg.a, Par.a, evG, evP, Nat.reduceMod, Nat.reduceDiv, Nat.reduceSub, Nat.reduceLeDiff, Nat.reduceMul, Nat.reduceAdd, t2]
      · simp (maxSteps := 4000000) only [go_sem, ↓reduceIte, reduceCtorEq, Nat.reduceEqDiff, Nat.reduceBEq, Nat.reduceAdd, Nat.reduceSub, Nat.reduceMul, Nat.reduceLT, Nat.reduceLeDiff, Nat.reduceBNe, Int.reduceBEq, Int.reduceBNe, Int.reduceLT, Int.reduceLE, Msg.a, Par.a, evG, evP, Nat.reduceMod, Nat.reduceDiv, Nat.reduceSub, Nat.reduceLeDiff, Nat.reduceMul, Nat.reduceAdd, t3]
      · simp (maxSteps := 4000000) only [go_sem, ↓reduceIte, reduceCtorEq, Nat.reduceEqDiff, Nat.reduceBEq, Nat.reduceAdd, Nat.reduceSub, Nat.reduceMul, Nat.reduceLT, Nat.reduceLeDiff, Nat.reduceBNe, Int.reduceBEq, Int.reduceBNe, Int.reduceLT, Int.reduceLE, Msg.a, Par.a, evG, evP, Nat.reduceMod, Nat.reduceDiv, Nat.reduceSub, Nat.reduceLeDiff, Nat.reduceMul, Nat.reduceAdd, t19]
      · simp (maxSteps := 4000000) only [go_sem, ↓reduceIte, reduceCtorEq, Nat.reduceEqDiff, Nat.reduceBEq, Nat.reduceAdd, Nat.reduceSub, Nat.reduceMul, Nat.reduceLT, Nat.reduceLeDiff, Nat.reduceBNe, Int.reduceBEq, Int.reduceBNe, Int.reduceLT, Int.reduceLE, Msg.a, Par.a, evG, evP, Nat.reduceMod, Nat.reduceDiv, Nat.reduceSub, Nat.reduceLeDiff, Nat.reduceMul, Nat.reduceAdd, t20]
      · simp (maxSteps := 4000000) only [go_sem, ↓reduceIte, reduceCtorEq, Nat.reduceEqDiff, Nat.reduceBEq, Nat.reduceAdd, Nat.reduceSub, Nat.reduceMul, Nat.reduceLT, Nat.reduceLeDiff, Nat.reduceBNe, Int.reduceBEq, Int.reduceBNe, Int.reduceLT, Int.reduceLE, Msg.a, Par.a, evG, evP, Nat.reduceMod, Nat.reduceDiv, Nat.reduceSub, Nat.reduceLeDiff, Nat.reduceMul, Nat.reduceAdd]
      · (simp (maxSteps := 4000000) only [go_sem, ↓reduceIte, reduceCtorEq, Nat.reduceEqDiff, Nat.reduceBEq, Nat.reduceAdd, Nat.reduceSub, Nat.reduceMul, Nat.reduceLT, Nat.reduceLeDiff, Nat.reduceBNe, Int.reduceBEq, Int.reduceBNe, Int.reduceLT, Int.reduceLE, Msg.a, Par.a, evG, evP, Nat.reduceMod, Nat.reduceDiv, Nat.reduceSub, Nat.reduceLeDiff, Nat.reduceMul, Nat.reduceAdd, h2]) <;> rfl
      · rw [tk]; unfold cellG; rw [n1, n3, n4, n5, n6]; (simp (maxSteps := 4000000) only [go_sem, ↓reduceIte, reduceCtorEq, Nat.reduceEqDiff, Nat.reduceBEq, Nat.reduceAdd, Nat.reduceSub, Nat.reduceMul, Nat.reduceLT, Nat.reduceLeDiff, Nat.reduceBNe, Int.reduceBEq, Int.reduceBNe, Int.reduceLT, Int.reduceLE, Msg.a, Par.a, evG, evP, Nat.reduceMod, Nat.reduceDiv, Nat.reduceSub, Nat.reduceLeDiff, Nat.reduceMul, Nat.reduceAdd, h3])
      · simp (maxSteps := 4000000) only [go_sem, ↓reduceIte, reduceCtorEq, Nat.reduceEqDiff, Nat.reduceBEq, Nat.reduceAdd, Nat.reduceSub, Nat.reduceMul, Nat.reduceLT, Nat.reduceLeDiff, Nat.reduceBNe, Int.reduceBEq, Int.reduceBNe, Int.reduceLT, Int.reduceLE, Msg.a, Par.a, evG, evP, Nat.reduceMod, Nat.reduceDiv, Nat.reduceSub, Nat.reduceLeDiff, Nat.reduceMul, Nat.reduceAdd, g7]
      · simp (maxSteps := 4000000) only [go_sem, ↓reduceIte, reduceCtorEq, Nat.reduceEqDiff, Nat.reduceBEq, Nat.reduceAdd, Nat.reduceSub, Nat.reduceMul, Nat.reduceLT, Nat.reduceLeDiff, Nat.reduceBNe, Int.reduceBEq, Int.reduceBNe, Int.reduceLT, Int.reduceLE, Msg.a, Par.a, evG, evP, Nat.reduceMod, Nat.reduceDiv, Nat.reduceSub, Nat.reduceLeDiff, Nat.reduceMul, Nat.reduceAdd, g8]
      · rw [tk, o1]; (simp (maxSteps := 4000000) only [go_sem, ↓reduceIte, reduceCtorEq, Nat.reduceEqDiff, Nat.reduceBEq, Nat.reduceAdd, Nat.reduceSub, Nat.reduceMul, Nat.reduceLT, Nat.reduceLeDiff, Nat.reduceBNe, Int.reduceBEq, Int.reduceBNe, Int.reduceLT, Int.reduceLE, Msg.a, Par.a, evG, evP, Nat.reduceMod, Nat.reduceDiv, Nat.reduceSub, Nat.reduceLeDiff, Nat.reduceMul, Nat.reduceAdd, h13])
      · rw [tk, o2]; (simp (maxSteps := 4000000) only [go_sem, ↓reduceIte, reduceCtorEq, Nat.reduceEqDiff, Nat.reduceBEq, Nat.reduceAdd, Nat.reduceSub, Nat.reduceMul, Nat.reduceLT, Nat.reduceLeDiff, Nat.reduceBNe, Int.reduceBEq, Int.reduceBNe, Int.reduceLT, Int.reduceLE, Msg.a, Par.a, evG, evP, Nat.reduceMod, Nat.reduceDiv, Nat.reduceSub, Nat.reduceLeDiff, Nat.reduceMul, Nat.reduceAdd, h16])
end
end Go.Proofs.YtelmejaiapdgnaaDoor
