/-
  Layer 7 on the plain machine: operations: whether they may be, their spans.
-/
import Derived.Test.YtkdbphhekpdmhaaDoorPkJ
namespace Go.Proofs.YtkdbphhekpdmhaaDoor
open Go.RowKit
set_option linter.unusedVariables false
set_option linter.unusedSimpArgs false
set_option maxRecDepth 100000
attribute [local go_sem ↓] runOp headOp
attribute [local go_sem] ev0 ev1 ev2 ev3 ev4 evA stHOk.eq_1 stHOk.eq_2 stHSt.eq_1 stHSt.eq_2 okV valV fzV okF valF okBld valBld mxOk.eq_1 mxOk.eq_2 mxVal.eq_1 mxVal.eq_2 cellFit.eq_1 cellFit.eq_2 cellFit.eq_3 cellEq.eq_1 cellEq.eq_2 cellEq.eq_3 upd_at AV.flatB AV.flatBs binIok binIV binSok binSV cellsOk.eq_1 cellsOk.eq_2 cellsVal.eq_1 cellsVal.eq_2 objCells.eq_1 objCells.eq_2 objZ.eq_1 objZ.eq_2 objProt.eq_1 objProt.eq_2 oneObj ptrOk.eq_1 ptrOk.eq_2 ptrOk.eq_3 ptrCells.eq_1 ptrCells.eq_2 ptrCells.eq_3 lenOk.eq_1 lenOk.eq_2 lenOk.eq_3 lenOk.eq_4 lenVal.eq_1 lenVal.eq_2 lenVal.eq_3 lenVal.eq_4 faOk.eq_1 faOk.eq_2 faOk.eq_3 faVal.eq_1 faVal.eq_2 faVal.eq_3 iaOk.eq_1 iaOk.eq_2 iaOk.eq_3 iaVal.eq_1 iaVal.eq_2 iaVal.eq_3 slcLen.eq_1 slcLen.eq_2 slcLen.eq_3 slcLen.eq_4 bdOk.eq_1 bdOk.eq_2 bdVal.eq_1 bdVal.eq_2 slcOk.eq_1 slcOk.eq_2 slcOk.eq_3 slcOk.eq_4 slcVal.eq_1 slcVal.eq_2 slcVal.eq_3 slcVal.eq_4 slcFz.eq_1 slcFz.eq_2 byOk.eq_1 byOk.eq_2 byOk.eq_3 byOk.eq_4 byOk.eq_5 byOk.eq_6 byOk.eq_7 byVal.eq_1 byVal.eq_2 byVal.eq_3 byFz.eq_1 byFz.eq_2 byFz.eq_3 byOks byVals byFzs allOne resSt.eq_1 resSt.eq_2 resName.eq_1 resName.eq_2 stOk.eq_1 stOk.eq_2 stArr.eq_1 stArr.eq_2 stSt.eq_1 stSt.eq_2 AV.patch nameOk_none gB.eq_1 gB.eq_2 gB.eq_3 gIs.eq_1 gIs.eq_2 gIs.eq_3 retV resV resVs evalV cellsV St.byval List.getD_cons_zero List.getD_cons_succ List.getD_nil List.map_cons List.map_nil List.length_cons List.length_nil List.take_succ_cons List.take_zero List.drop_succ_cons List.drop_zero List.headD_cons List.set_cons_zero List.append_nil List.nil_append List.cons_append List.contains_cons List.contains_nil List.elem_cons List.elem_nil List.all_cons List.all_nil List.getElem?_cons_zero List.getElem?_cons_succ List.filterMap_cons List.filterMap_nil Option.isSome_some Option.isSome_none Option.map_some Option.map_none Option.some.injEq AV.int.injEq AV.bool.injEq AV.str.injEq AV.tup.injEq AV.agg.injEq AV.sl.injEq List.cons.injEq Bool.false_eq_true Bool.true_eq_false Bool.not_true Bool.not_false Bool.and_true Bool.true_and Bool.or_false Bool.or_true Bool.false_or Bool.true_or Bool.or_self Bool.and_self Bool.not_eq_true' Bool.not_eq_false' Bool.not_not beq_self_eq_true true_and and_true false_and and_false and_self not_true_eq_false not_false_eq_true forall_const true_implies false_implies implies_true imp_self Nat.lt_add_one Nat.le_refl Nat.zero_le Nat.add_zero Nat.zero_add decide_true decide_false decide_eq_true_eq decide_eq_false_iff_not exists_eq_left exists_eq_left' ge_iff_le gt_iff_lt ite_branch ite_branch' nilOk.eq_1 nilOk.eq_2 nilMay.eq_1 nilMay.eq_2 AV.isSl.eq_1 objTy'.eq_1 objTy'.eq_2 apSt.eq_1 apArr.eq_1 apArr.eq_2 slOf.eq_1 fitsV List.mem_cons List.not_mem_nil Bool.false_and Bool.and_false primOk.eq_1 primOk.eq_2 primOk.eq_3 primOk.eq_4 primOk.eq_5 primVal.eq_1 primVal.eq_2 primVal.eq_3 primVal.eq_4 primVal.eq_5 mOk.eq_1 mOk.eq_2 mVal.eq_1 mVal.eq_2 mFz.eq_1 mFz.eq_2 mOks mVals mFzs mCalOk.eq_1 mCalOk.eq_2 mFn.eq_1 mFn.eq_2 mArgs.eq_1 mArgs.eq_2 ckOk.eq_1 ckOk.eq_2 cloOk.eq_1 ptrAt.eq_1 sh.eq_1 sh.eq_2 sh.eq_3 sh.eq_4 sh.eq_5 retM shH_small
structure Opr where
  kind : Int
  key : ByteArray
  hi : ByteArray
  op : Bool
  val : ByteArray
  lim : Int
def Opr.a (o : Opr) : AV := .agg [.int .i64 o.kind, .str o.key, .str o.hi, .bool o.op, .str o.val, .int .i64 o.lim]
def Opr.zero : Opr := ⟨0, ⟨#[]⟩, ⟨#[]⟩, false, ⟨#[]⟩, 0⟩
structure Spn where
  lo : ByteArray
  hi : ByteArray
  op : Bool
def Spn.a (s : Spn) : AV := .agg [.str s.lo, .str s.hi, .bool s.op]
def nul : ByteArray := ⟨#[]⟩
def nextB (k : ByteArray) : ByteArray := k ++ ⟨#[0]⟩
def Opr.ranged (o : Opr) : Bool := o.kind == 4 || o.kind == 6
def Opr.valued (o : Opr) : Bool := o.kind == 1 || o.kind == 2
def Opr.span (o : Opr) : Spn := if o.ranged then ⟨o.key, o.hi, o.op⟩ else ⟨o.key, nextB o.key, false⟩
def leB (x y : ByteArray) : Bool := Op.bytesLess x.toList y.toList
def Spn.empty (s : Spn) : Bool := !s.op && !leB s.lo s.hi
def nilB (s : ByteArray) : Bool := s.toList == nul.toList
/-- no byte, or so many -/
def Opr.right (o : Opr) : Bool :=
  decide (1 ≤ o.kind) && decide (o.kind ≤ 6) && decide ((o.key.size : Int) ≤ 16) && decide ((o.hi.size : Int) ≤ 16) && decide ((o.val.size : Int) ≤ 16) &&
  (o.valued || nilB o.val) && (!o.op || nilB o.hi) && (if o.ranged then !(Spn.empty ⟨o.key, o.hi, o.op⟩) else nilB o.hi && !o.op) &&
  (if o.kind == 6 then decide (1 ≤ o.lim) && decide (o.lim ≤ 64) else o.lim == 0)
/-! ### percolate/op.valued -/
def r_valued_0 : Reg := ⟨[], [⟨(.box 6 48 (.t 0)), (some 1), none, [], []⟩, ⟨(.mv (.c (.bool false))), (some 2), none, [], []⟩], [1], [], false⟩
def r_valued_1 : Reg := ⟨[], [⟨(.faddr 0 (.t 1)), (some 3), none, [], []⟩, ⟨(.load 1 false (.t 3)), (some 4), none, [], []⟩, ⟨(.bin .eql (.t 4) (.c (.int .i64 1))), (some 5), none, [], []⟩, ⟨(.mv (.t 5)), (some 6), none, [], []⟩, ⟨(.faddr 0 (.t 1)), (some 7), (some (6, false)), [], []⟩, ⟨(.load 1 false (.t 7)), (some 8), (some (6, false)), [], []⟩, ⟨(.bin .eql (.t 8) (.c (.int .i64 2))), (some 9), (some (6, false)), [], []⟩, ⟨(.pick (.t 6) (.c (.bool true)) (.t 9)), (some 10), none, [], []⟩, ⟨(.mv (.t 10)), (some 2), none, [], []⟩], [], [], false⟩
def ir_valued : IR := (.seq (.reg r_valued_0)
  (.seq (.reg r_valued_1)
  .ret))
def res_valued : List RDesc := [(.tmp 2)]
theorem e_valued_0 (C : FuncId → List AV → AV → Prop) (σ : St) (K : St → Prop) : runReg C r_valued_0 σ K = runOps C [⟨(.box 6 48 (.t 0)), (some 1), none, [], []⟩, ⟨(.mv (.c (.bool false))), (some 2), none, [], []⟩] (σ.kills [1]) K := rfl
theorem e_valued_1 (C : FuncId → List AV → AV → Prop) (σ : St) (K : St → Prop) : runReg C r_valued_1 σ K = runOps C [⟨(.faddr 0 (.t 1)), (some 3), none, [], []⟩, ⟨(.load 1 false (.t 3)), (some 4), none, [], []⟩, ⟨(.bin .eql (.t 4) (.c (.int .i64 1))), (some 5), none, [], []⟩, ⟨(.mv (.t 5)), (some 6), none, [], []⟩, ⟨(.faddr 0 (.t 1)), (some 7), (some (6, false)), [], []⟩, ⟨(.load 1 false (.t 7)), (some 8), (some (6, false)), [], []⟩, ⟨(.bin .eql (.t 8) (.c (.int .i64 2))), (some 9), (some (6, false)), [], []⟩, ⟨(.pick (.t 6) (.c (.bool true)) (.t 9)), (some 10), none, [], []⟩, ⟨(.mv (.t 10)), (some 2), none, [], []⟩] (σ.kills []) K := rfl
theorem fn_valued {args : List AV} {r : AV} (ha : args.length.ble Tryd.f107.ntmps = true) (h : run (AFn Tryd.prog) ir_valued (endQ res_valued r) (initSt args)) : AFn Tryd.prog 107 args r :=
  AFn.of_code (hint := fun _ => []) (c := Tryd.f107.body.getD .skip) (by kernel_rfl) (by kernel_rfl) Tryd.func107 (by kernel_rfl) (by kernel_rfl) (by kernel_rfl) (of_decide_eq_true (by kernel_rfl)) (Nat.le_of_ble_eq_true ha) (Nat.le_of_ble_eq_true (by kernel_rfl)) (run_ok h)

/-! ### percolate/op.ranged -/
def r_ranged_0 : Reg := ⟨[], [⟨(.box 6 48 (.t 0)), (some 1), none, [], []⟩, ⟨(.mv (.c (.bool false))), (some 2), none, [], []⟩], [1], [], false⟩
def r_ranged_1 : Reg := ⟨[], [⟨(.faddr 0 (.t 1)), (some 3), none, [], []⟩, ⟨(.load 1 false (.t 3)), (some 4), none, [], []⟩, ⟨(.bin .eql (.t 4) (.c (.int .i64 4))), (some 5), none, [], []⟩, ⟨(.mv (.t 5)), (some 6), none, [], []⟩, ⟨(.faddr 0 (.t 1)), (some 7), (some (6, false)), [], []⟩, ⟨(.load 1 false (.t 7)), (some 8), (some (6, false)), [], []⟩, ⟨(.bin .eql (.t 8) (.c (.int .i64 6))), (some 9), (some (6, false)), [], []⟩, ⟨(.pick (.t 6) (.c (.bool true)) (.t 9)), (some 10), none, [], []⟩, ⟨(.mv (.t 10)), (some 2), none, [], []⟩], [], [], false⟩
def ir_ranged : IR := (.seq (.reg r_ranged_0)
  (.seq (.reg r_ranged_1)
  .ret))
def res_ranged : List RDesc := [(.tmp 2)]
theorem e_ranged_0 (C : FuncId → List AV → AV → Prop) (σ : St) (K : St → Prop) : runReg C r_ranged_0 σ K = runOps C [⟨(.box 6 48 (.t 0)), (some 1), none, [], []⟩, ⟨(.mv (.c (.bool false))), (some 2), none, [], []⟩] (σ.kills [1]) K := rfl
theorem e_ranged_1 (C : FuncId → List AV → AV → Prop) (σ : St) (K : St → Prop) : runReg C r_ranged_1 σ K = runOps C [⟨(.faddr 0 (.t 1)), (some 3), none, [], []⟩, ⟨(.load 1 false (.t 3)), (some 4), none, [], []⟩, ⟨(.bin .eql (.t 4) (.c (.int .i64 4))), (some 5), none, [], []⟩, ⟨(.mv (.t 5)), (some 6), none, [], []⟩, ⟨(.faddr 0 (.t 1)), (some 7), (some (6, false)), [], []⟩, ⟨(.load 1 false (.t 7)), (some 8), (some (6, false)), [], []⟩, ⟨(.bin .eql (.t 8) (.c (.int .i64 6))), (some 9), (some (6, false)), [], []⟩, ⟨(.pick (.t 6) (.c (.bool true)) (.t 9)), (some 10), none, [], []⟩, ⟨(.mv (.t 10)), (some 2), none, [], []⟩] (σ.kills []) K := rfl
theorem fn_ranged {args : List AV} {r : AV} (ha : args.length.ble Tryd.f108.ntmps = true) (h : run (AFn Tryd.prog) ir_ranged (endQ res_ranged r) (initSt args)) : AFn Tryd.prog 108 args r :=
  AFn.of_code (hint := fun _ => []) (c := Tryd.f108.body.getD .skip) (by kernel_rfl) (by kernel_rfl) Tryd.func108 (by kernel_rfl) (by kernel_rfl) (by kernel_rfl) (of_decide_eq_true (by kernel_rfl)) (Nat.le_of_ble_eq_true ha) (Nat.le_of_ble_eq_true (by kernel_rfl)) (run_ok h)

/-! ### percolate/key.Right -/
def r_keyR_0 : Reg := ⟨[], [⟨(.mv (.c (.bool false))), (some 2), none, [], []⟩], [], [], false⟩
def r_keyR_1 : Reg := ⟨[], [⟨(.mv (.t 0)), (some 3), none, [], []⟩, ⟨(.len true (.t 3)), (some 4), none, [], []⟩, ⟨(.bin .leq (.t 4) (.c (.int .i64 16))), (some 5), none, [], []⟩, ⟨(.mv (.t 5)), (some 2), none, [], []⟩], [], [], false⟩
def ir_keyR : IR := (.seq (.reg r_keyR_0)
  (.seq (.reg r_keyR_1)
  .ret))
def res_keyR : List RDesc := [(.tmp 2)]
theorem e_keyR_0 (C : FuncId → List AV → AV → Prop) (σ : St) (K : St → Prop) : runReg C r_keyR_0 σ K = runOps C [⟨(.mv (.c (.bool false))), (some 2), none, [], []⟩] (σ.kills []) K := rfl
theorem e_keyR_1 (C : FuncId → List AV → AV → Prop) (σ : St) (K : St → Prop) : runReg C r_keyR_1 σ K = runOps C [⟨(.mv (.t 0)), (some 3), none, [], []⟩, ⟨(.len true (.t 3)), (some 4), none, [], []⟩, ⟨(.bin .leq (.t 4) (.c (.int .i64 16))), (some 5), none, [], []⟩, ⟨(.mv (.t 5)), (some 2), none, [], []⟩] (σ.kills []) K := rfl
theorem fn_keyR {args : List AV} {r : AV} (ha : args.length.ble Tryd.f113.ntmps = true) (h : run (AFn Tryd.prog) ir_keyR (endQ res_keyR r) (initSt args)) : AFn Tryd.prog 113 args r :=
  AFn.of_code (hint := fun _ => []) (c := Tryd.f113.body.getD .skip) (by kernel_rfl) (by kernel_rfl) Tryd.func113 (by kernel_rfl) (by kernel_rfl) (by kernel_rfl) (of_decide_eq_true (by kernel_rfl)) (Nat.le_of_ble_eq_true ha) (Nat.le_of_ble_eq_true (by kernel_rfl)) (run_ok h)

/-! ### percolate/value.Right -/
def r_valR_0 : Reg := ⟨[], [⟨(.mv (.c (.bool false))), (some 2), none, [], []⟩], [], [], false⟩
def r_valR_1 : Reg := ⟨[], [⟨(.mv (.t 0)), (some 3), none, [], []⟩, ⟨(.len true (.t 3)), (some 4), none, [], []⟩, ⟨(.bin .leq (.t 4) (.c (.int .i64 16))), (some 5), none, [], []⟩, ⟨(.mv (.t 5)), (some 2), none, [], []⟩], [], [], false⟩
def ir_valR : IR := (.seq (.reg r_valR_0)
  (.seq (.reg r_valR_1)
  .ret))
def res_valR : List RDesc := [(.tmp 2)]
theorem e_valR_0 (C : FuncId → List AV → AV → Prop) (σ : St) (K : St → Prop) : runReg C r_valR_0 σ K = runOps C [⟨(.mv (.c (.bool false))), (some 2), none, [], []⟩] (σ.kills []) K := rfl
theorem e_valR_1 (C : FuncId → List AV → AV → Prop) (σ : St) (K : St → Prop) : runReg C r_valR_1 σ K = runOps C [⟨(.mv (.t 0)), (some 3), none, [], []⟩, ⟨(.len true (.t 3)), (some 4), none, [], []⟩, ⟨(.bin .leq (.t 4) (.c (.int .i64 16))), (some 5), none, [], []⟩, ⟨(.mv (.t 5)), (some 2), none, [], []⟩] (σ.kills []) K := rfl
theorem fn_valR {args : List AV} {r : AV} (ha : args.length.ble Tryd.f73.ntmps = true) (h : run (AFn Tryd.prog) ir_valR (endQ res_valR r) (initSt args)) : AFn Tryd.prog 73 args r :=
  AFn.of_code (hint := fun _ => []) (c := Tryd.f73.body.getD .skip) (by kernel_rfl) (by kernel_rfl) Tryd.func73 (by kernel_rfl) (by kernel_rfl) (by kernel_rfl) (of_decide_eq_true (by kernel_rfl)) (Nat.le_of_ble_eq_true ha) (Nat.le_of_ble_eq_true (by kernel_rfl)) (run_ok h)

/-! ### percolate/span.Empty -/
def r_sEmpty_0 : Reg := ⟨[], [⟨(.box 3 43 (.t 0)), (some 1), none, [], []⟩, ⟨(.mv (.c (.bool false))), (some 2), none, [], []⟩], [1], [], false⟩
def r_sEmpty_1 : Reg := ⟨[], [⟨(.faddr 2 (.t 1)), (some 3), none, [], []⟩, ⟨(.load 1 false (.t 3)), (some 4), none, [], []⟩, ⟨(.un .not (.t 4)), (some 5), none, [], []⟩, ⟨(.mv (.t 5)), (some 6), none, [], []⟩, ⟨(.faddr 0 (.t 1)), (some 7), (some (6, true)), [], []⟩, ⟨(.load 1 false (.t 7)), (some 8), (some (6, true)), [], []⟩, ⟨(.faddr 1 (.t 1)), (some 9), (some (6, true)), [], []⟩, ⟨(.load 1 false (.t 9)), (some 10), (some (6, true)), [], []⟩, ⟨(.bin .geq (.t 8) (.t 10)), (some 11), (some (6, true)), [], []⟩, ⟨(.pick (.t 6) (.t 11) (.c (.bool false))), (some 12), none, [], []⟩, ⟨(.mv (.t 12)), (some 2), none, [], []⟩], [], [], false⟩
def ir_sEmpty : IR := (.seq (.reg r_sEmpty_0)
  (.seq (.reg r_sEmpty_1)
  .ret))
def res_sEmpty : List RDesc := [(.tmp 2)]
theorem e_sEmpty_0 (C : FuncId → List AV → AV → Prop) (σ : St) (K : St → Prop) : runReg C r_sEmpty_0 σ K = runOps C [⟨(.box 3 43 (.t 0)), (some 1), none, [], []⟩, ⟨(.mv (.c (.bool false))), (some 2), none, [], []⟩] (σ.kills [1]) K := rfl
theorem e_sEmpty_1 (C : FuncId → List AV → AV → Prop) (σ : St) (K : St → Prop) : runReg C r_sEmpty_1 σ K = runOps C [⟨(.faddr 2 (.t 1)), (some 3), none, [], []⟩, ⟨(.load 1 false (.t 3)), (some 4), none, [], []⟩, ⟨(.un .not (.t 4)), (some 5), none, [], []⟩, ⟨(.mv (.t 5)), (some 6), none, [], []⟩, ⟨(.faddr 0 (.t 1)), (some 7), (some (6, true)), [], []⟩, ⟨(.load 1 false (.t 7)), (some 8), (some (6, true)), [], []⟩, ⟨(.faddr 1 (.t 1)), (some 9), (some (6, true)), [], []⟩, ⟨(.load 1 false (.t 9)), (some 10), (some (6, true)), [], []⟩, ⟨(.bin .geq (.t 8) (.t 10)), (some 11), (some (6, true)), [], []⟩, ⟨(.pick (.t 6) (.t 11) (.c (.bool false))), (some 12), none, [], []⟩, ⟨(.mv (.t 12)), (some 2), none, [], []⟩] (σ.kills []) K := rfl
theorem fn_sEmpty {args : List AV} {r : AV} (ha : args.length.ble Tryd.f134.ntmps = true) (h : run (AFn Tryd.prog) ir_sEmpty (endQ res_sEmpty r) (initSt args)) : AFn Tryd.prog 134 args r :=
  AFn.of_code (hint := fun _ => []) (c := Tryd.f134.body.getD .skip) (by kernel_rfl) (by kernel_rfl) Tryd.func134 (by kernel_rfl) (by kernel_rfl) (by kernel_rfl) (of_decide_eq_true (by kernel_rfl)) (Nat.le_of_ble_eq_true ha) (Nat.le_of_ble_eq_true (by kernel_rfl)) (run_ok h)

/-! ### percolate/key.Next -/
def r_kNext_0 : Reg := ⟨[], [⟨(.mv (.c (.str ⟨#[]⟩))), (some 2), none, [], []⟩], [], [], false⟩
def r_kNext_1 : Reg := ⟨[], [⟨(.mv (.t 0)), (some 3), none, [], []⟩, ⟨(.bin .add (.t 3) (.c (.str ⟨#[0]⟩))), (some 4), none, [], []⟩, ⟨(.mv (.t 4)), (some 2), none, [], []⟩], [], [], false⟩
def ir_kNext : IR := (.seq (.reg r_kNext_0)
  (.seq (.reg r_kNext_1)
  .ret))
def res_kNext : List RDesc := [(.tmp 2)]
theorem e_kNext_0 (C : FuncId → List AV → AV → Prop) (σ : St) (K : St → Prop) : runReg C r_kNext_0 σ K = runOps C [⟨(.mv (.c (.str ⟨#[]⟩))), (some 2), none, [], []⟩] (σ.kills []) K := rfl
theorem e_kNext_1 (C : FuncId → List AV → AV → Prop) (σ : St) (K : St → Prop) : runReg C r_kNext_1 σ K = runOps C [⟨(.mv (.t 0)), (some 3), none, [], []⟩, ⟨(.bin .add (.t 3) (.c (.str ⟨#[0]⟩))), (some 4), none, [], []⟩, ⟨(.mv (.t 4)), (some 2), none, [], []⟩] (σ.kills []) K := rfl
theorem fn_kNext {args : List AV} {r : AV} (ha : args.length.ble Tryd.f165.ntmps = true) (h : run (AFn Tryd.prog) ir_kNext (endQ res_kNext r) (initSt args)) : AFn Tryd.prog 165 args r :=
  AFn.of_code (hint := fun _ => []) (c := Tryd.f165.body.getD .skip) (by kernel_rfl) (by kernel_rfl) Tryd.func165 (by kernel_rfl) (by kernel_rfl) (by kernel_rfl) (of_decide_eq_true (by kernel_rfl)) (Nat.le_of_ble_eq_true ha) (Nat.le_of_ble_eq_true (by kernel_rfl)) (run_ok h)

/-! ### percolate/span.Point -/
def r_sPoint_0 : Reg := ⟨[], [⟨(.alloc 3 43 (.agg [(.str ⟨#[]⟩), (.str ⟨#[]⟩), (.bool false)])), (some 2), none, [], []⟩], [2], [], false⟩
def r_sPoint_1 : Reg := ⟨[], [⟨(.mv (.t 0)), (some 3), none, [5], []⟩, ⟨(.mv (.t 0)), (some 4), none, [5], []⟩, ⟨(.callv (.c (.clo 165 [] [])) [(.t 4)]), (some 5), none, [], []⟩, ⟨(.bld [(.str ⟨#[]⟩), (.str ⟨#[]⟩), (.bool false)] [⟨0, 1, (.t 3)⟩, ⟨1, 1, (.t 5)⟩]), (some 6), none, [], []⟩, ⟨(.store 3 (.t 2) (.t 6)), none, none, [], []⟩], [5], [], false⟩
def ir_sPoint : IR := (.seq (.reg r_sPoint_0)
  (.seq (.reg r_sPoint_1)
  .ret))
def res_sPoint : List RDesc := [(.cell 2 3 true)]
theorem e_sPoint_0 (C : FuncId → List AV → AV → Prop) (σ : St) (K : St → Prop) : runReg C r_sPoint_0 σ K = runOps C [⟨(.alloc 3 43 (.agg [(.str ⟨#[]⟩), (.str ⟨#[]⟩), (.bool false)])), (some 2), none, [], []⟩] (σ.kills [2]) K := rfl
theorem e_sPoint_1 (C : FuncId → List AV → AV → Prop) (σ : St) (K : St → Prop) : runReg C r_sPoint_1 σ K = runOps C [⟨(.mv (.t 0)), (some 3), none, [5], []⟩, ⟨(.mv (.t 0)), (some 4), none, [5], []⟩, ⟨(.callv (.c (.clo 165 [] [])) [(.t 4)]), (some 5), none, [], []⟩, ⟨(.bld [(.str ⟨#[]⟩), (.str ⟨#[]⟩), (.bool false)] [⟨0, 1, (.t 3)⟩, ⟨1, 1, (.t 5)⟩]), (some 6), none, [], []⟩, ⟨(.store 3 (.t 2) (.t 6)), none, none, [], []⟩] (σ.kills [5]) K := rfl
theorem fn_sPoint {args : List AV} {r : AV} (ha : args.length.ble Tryd.f152.ntmps = true) (h : run (AFn Tryd.prog) ir_sPoint (endQ res_sPoint r) (initSt args)) : AFn Tryd.prog 152 args r :=
  AFn.of_code (hint := fun _ => []) (c := Tryd.f152.body.getD .skip) (by kernel_rfl) (by kernel_rfl) Tryd.func152 (by kernel_rfl) (by kernel_rfl) (by kernel_rfl) (of_decide_eq_true (by kernel_rfl)) (Nat.le_of_ble_eq_true ha) (Nat.le_of_ble_eq_true (by kernel_rfl)) (run_ok h)

/-! ### percolate/op.Span -/
def r_oSpan_0 : Reg := ⟨[], [⟨(.box 6 48 (.t 0)), (some 1), none, [2], []⟩, ⟨(.alloc 3 43 (.agg [(.str ⟨#[]⟩), (.str ⟨#[]⟩), (.bool false)])), (some 2), none, [], []⟩], [1, 2], [], false⟩
def r_oSpan_1 : Reg := ⟨[], [⟨(.load 6 true (.t 1)), (some 3), none, [4], []⟩, ⟨(.callv (.c (.clo 108 [] [])) [(.t 3)]), (some 4), none, [], []⟩], [4], [], false⟩
def r_oSpan_2 : Reg := ⟨[], [⟨(.faddr 1 (.t 1)), (some 5), none, [], []⟩, ⟨(.load 1 false (.t 5)), (some 6), none, [], []⟩, ⟨(.faddr 2 (.t 1)), (some 7), none, [], []⟩, ⟨(.load 1 false (.t 7)), (some 8), none, [], []⟩, ⟨(.faddr 3 (.t 1)), (some 9), none, [], []⟩, ⟨(.load 1 false (.t 9)), (some 10), none, [], []⟩, ⟨(.bld [(.str ⟨#[]⟩), (.str ⟨#[]⟩), (.bool false)] [⟨0, 1, (.t 6)⟩, ⟨1, 1, (.t 8)⟩, ⟨2, 1, (.t 10)⟩]), (some 11), none, [], []⟩, ⟨(.store 3 (.t 2) (.t 11)), none, none, [], []⟩], [], [], false⟩
def r_oSpan_3 : Reg := ⟨[], [⟨(.faddr 1 (.t 1)), (some 12), none, [14], []⟩, ⟨(.load 1 false (.t 12)), (some 13), none, [14], []⟩, ⟨(.callv (.c (.clo 152 [] [])) [(.t 13)]), (some 14), none, [], []⟩, ⟨(.store 3 (.t 2) (.t 14)), none, none, [], []⟩], [14], [], false⟩
def ir_oSpan : IR := (.seq (.reg r_oSpan_0)
  (.seq (.seq (.reg r_oSpan_1)
  (.cond (.t 4) (.seq (.reg r_oSpan_2)
  .ret)
  .skip))
  (.seq (.reg r_oSpan_3)
  .ret)))
def res_oSpan : List RDesc := [(.cell 2 3 true)]
theorem e_oSpan_0 (C : FuncId → List AV → AV → Prop) (σ : St) (K : St → Prop) : runReg C r_oSpan_0 σ K = runOps C [⟨(.box 6 48 (.t 0)), (some 1), none, [2], []⟩, ⟨(.alloc 3 43 (.agg [(.str ⟨#[]⟩), (.str ⟨#[]⟩), (.bool false)])), (some 2), none, [], []⟩] (σ.kills [1, 2]) K := rfl
theorem e_oSpan_1 (C : FuncId → List AV → AV → Prop) (σ : St) (K : St → Prop) : runReg C r_oSpan_1 σ K = runOps C [⟨(.load 6 true (.t 1)), (some 3), none, [4], []⟩, ⟨(.callv (.c (.clo 108 [] [])) [(.t 3)]), (some 4), none, [], []⟩] (σ.kills [4]) K := rfl
theorem e_oSpan_2 (C : FuncId → List AV → AV → Prop) (σ : St) (K : St → Prop) : runReg C r_oSpan_2 σ K = runOps C [⟨(.faddr 1 (.t 1)), (some 5), none, [], []⟩, ⟨(.load 1 false (.t 5)), (some 6), none, [], []⟩, ⟨(.faddr 2 (.t 1)), (some 7), none, [], []⟩, ⟨(.load 1 false (.t 7)), (some 8), none, [], []⟩, ⟨(.faddr 3 (.t 1)), (some 9), none, [], []⟩, ⟨(.load 1 false (.t 9)), (some 10), none, [], []⟩, ⟨(.bld [(.str ⟨#[]⟩), (.str ⟨#[]⟩), (.bool false)] [⟨0, 1, (.t 6)⟩, ⟨1, 1, (.t 8)⟩, ⟨2, 1, (.t 10)⟩]), (some 11), none, [], []⟩, ⟨(.store 3 (.t 2) (.t 11)), none, none, [], []⟩] (σ.kills []) K := rfl
theorem e_oSpan_3 (C : FuncId → List AV → AV → Prop) (σ : St) (K : St → Prop) : runReg C r_oSpan_3 σ K = runOps C [⟨(.faddr 1 (.t 1)), (some 12), none, [14], []⟩, ⟨(.load 1 false (.t 12)), (some 13), none, [14], []⟩, ⟨(.callv (.c (.clo 152 [] [])) [(.t 13)]), (some 14), none, [], []⟩, ⟨(.store 3 (.t 2) (.t 14)), none, none, [], []⟩] (σ.kills [14]) K := rfl
theorem fn_oSpan {args : List AV} {r : AV} (ha : args.length.ble Tryd.f135.ntmps = true) (h : run (AFn Tryd.prog) ir_oSpan (endQ res_oSpan r) (initSt args)) : AFn Tryd.prog 135 args r :=
  AFn.of_code (hint := fun _ => []) (c := Tryd.f135.body.getD .skip) (by kernel_rfl) (by kernel_rfl) Tryd.func135 (by kernel_rfl) (by kernel_rfl) (by kernel_rfl) (of_decide_eq_true (by kernel_rfl)) (Nat.le_of_ble_eq_true ha) (Nat.le_of_ble_eq_true (by kernel_rfl)) (run_ok h)

attribute [local go_sem ↓] ir_valued
attribute [local go_sem] res_valued e_valued_0 e_valued_1
attribute [local go_sem ↓] ir_ranged
attribute [local go_sem] res_ranged e_ranged_0 e_ranged_1
attribute [local go_sem ↓] ir_keyR
attribute [local go_sem] res_keyR e_keyR_0 e_keyR_1
attribute [local go_sem ↓] ir_valR
attribute [local go_sem] res_valR e_valR_0 e_valR_1
attribute [local go_sem ↓] ir_sEmpty
attribute [local go_sem] res_sEmpty e_sEmpty_0 e_sEmpty_1
attribute [local go_sem ↓] ir_kNext
attribute [local go_sem] res_kNext e_kNext_0 e_kNext_1
attribute [local go_sem ↓] ir_sPoint
attribute [local go_sem] res_sPoint e_sPoint_0 e_sPoint_1
attribute [local go_sem ↓] ir_oSpan
attribute [local go_sem] res_oSpan e_oSpan_0 e_oSpan_1 e_oSpan_2 e_oSpan_3

theorem valued_ok (o : Opr) : AFn Tryd.prog 107 [o.a] (.bool o.valued) := by
  refine fn_valued rfl ?_
  unfold Opr.valued
  cases h1 : (o.kind == 1) <;> cases h2 : (o.kind == 2) <;> (simp (maxSteps := 4000000) only [go_sem, ↓reduceIte, reduceCtorEq, Nat.reduceEqDiff, Nat.reduceBEq, Nat.reduceAdd, Nat.reduceSub, Nat.reduceMul, Nat.reduceLT, Nat.reduceLeDiff, Nat.reduceBNe, Int.reduceBEq, Int.reduceBNe, Int.reduceLT, Int.reduceLE, Opr.a, Spn.a, nul, h1, h2])
theorem ranged_ok (o : Opr) : AFn Tryd.prog 108 [o.a] (.bool o.ranged) := by
  refine fn_ranged rfl ?_
  unfold Opr.ranged
  cases h1 : (o.kind == 4) <;> cases h2 : (o.kind == 6) <;> (simp (maxSteps := 4000000) only [go_sem, ↓reduceIte, reduceCtorEq, Nat.reduceEqDiff, Nat.reduceBEq, Nat.reduceAdd, Nat.reduceSub, Nat.reduceMul, Nat.reduceLT, Nat.reduceLeDiff, Nat.reduceBNe, Int.reduceBEq, Int.reduceBNe, Int.reduceLT, Int.reduceLE, Opr.a, Spn.a, nul, h1, h2])
theorem keyR_ok (s : ByteArray) : AFn Tryd.prog 113 [.str s] (.bool (decide ((s.size : Int) ≤ 16))) := by
  refine fn_keyR rfl ?_
  simp (maxSteps := 4000000) only [go_sem, ↓reduceIte, reduceCtorEq, Nat.reduceEqDiff, Nat.reduceBEq, Nat.reduceAdd, Nat.reduceSub, Nat.reduceMul, Nat.reduceLT, Nat.reduceLeDiff, Nat.reduceBNe, Int.reduceBEq, Int.reduceBNe, Int.reduceLT, Int.reduceLE, Opr.a, Spn.a, nul]
theorem valR_ok (s : ByteArray) : AFn Tryd.prog 73 [.str s] (.bool (decide ((s.size : Int) ≤ 16))) := by
  refine fn_valR rfl ?_
  simp (maxSteps := 4000000) only [go_sem, ↓reduceIte, reduceCtorEq, Nat.reduceEqDiff, Nat.reduceBEq, Nat.reduceAdd, Nat.reduceSub, Nat.reduceMul, Nat.reduceLT, Nat.reduceLeDiff, Nat.reduceBNe, Int.reduceBEq, Int.reduceBNe, Int.reduceLT, Int.reduceLE, Opr.a, Spn.a, nul]
theorem sEmpty_ok (s : Spn) : AFn Tryd.prog 134 [s.a] (.bool s.empty) := by
  refine fn_sEmpty rfl ?_
  unfold Spn.empty leB
  cases h1 : s.op <;> (simp (maxSteps := 4000000) only [go_sem, ↓reduceIte, reduceCtorEq, Nat.reduceEqDiff, Nat.reduceBEq, Nat.reduceAdd, Nat.reduceSub, Nat.reduceMul, Nat.reduceLT, Nat.reduceLeDiff, Nat.reduceBNe, Int.reduceBEq, Int.reduceBNe, Int.reduceLT, Int.reduceLE, Opr.a, Spn.a, nul, h1])
theorem kNext_ok (s : ByteArray) (h : s.size ≤ 9000000000) : AFn Tryd.prog 165 [.str s] (.str (nextB s)) := by
  refine fn_kNext rfl ?_
  unfold nextB
  simp (maxSteps := 4000000) only [go_sem, ↓reduceIte, reduceCtorEq, Nat.reduceEqDiff, Nat.reduceBEq, Nat.reduceAdd, Nat.reduceSub, Nat.reduceMul, Nat.reduceLT, Nat.reduceLeDiff, Nat.reduceBNe, Int.reduceBEq, Int.reduceBNe, Int.reduceLT, Int.reduceLE, Opr.a, Spn.a, nul]
  show s.size + 1 ≤ _
  omega
theorem sPoint_ok (s : ByteArray) (h : s.size ≤ 9000000000) : AFn Tryd.prog 152 [.str s] (Spn.a ⟨s, nextB s, false⟩) := by
  refine fn_sPoint rfl ?_
  simp (maxSteps := 4000000) only [go_sem, ↓reduceIte, reduceCtorEq, Nat.reduceEqDiff, Nat.reduceBEq, Nat.reduceAdd, Nat.reduceSub, Nat.reduceMul, Nat.reduceLT, Nat.reduceLeDiff, Nat.reduceBNe, Int.reduceBEq, Int.reduceBNe, Int.reduceLT, Int.reduceLE, Opr.a, Spn.a, nul]
  (first | refine calling (kNext_ok s h) ?_ | refine callingH (kNext_ok s h) ?_)
  simp (maxSteps := 4000000) only [go_sem, ↓reduceIte, reduceCtorEq, Nat.reduceEqDiff, Nat.reduceBEq, Nat.reduceAdd, Nat.reduceSub, Nat.reduceMul, Nat.reduceLT, Nat.reduceLeDiff, Nat.reduceBNe, Int.reduceBEq, Int.reduceBNe, Int.reduceLT, Int.reduceLE, Opr.a, Spn.a, nul]
theorem oSpan_ok (o : Opr) (h : o.key.size ≤ 9000000000) : AFn Tryd.prog 135 [o.a] o.span.a := by
  refine fn_oSpan rfl ?_
  unfold Opr.span
  simp (maxSteps := 4000000) only [go_sem, ↓reduceIte, reduceCtorEq, Nat.reduceEqDiff, Nat.reduceBEq, Nat.reduceAdd, Nat.reduceSub, Nat.reduceMul, Nat.reduceLT, Nat.reduceLeDiff, Nat.reduceBNe, Int.reduceBEq, Int.reduceBNe, Int.reduceLT, Int.reduceLE, Opr.a, Spn.a, nul]
  (first | refine calling (ranged_ok o) ?_ | refine callingH (ranged_ok o) ?_)
  cases h1 : o.ranged with
  | true => simp (maxSteps := 4000000) only [go_sem, ↓reduceIte, reduceCtorEq, Nat.reduceEqDiff, Nat.reduceBEq, Nat.reduceAdd, Nat.reduceSub, Nat.reduceMul, Nat.reduceLT, Nat.reduceLeDiff, Nat.reduceBNe, Int.reduceBEq, Int.reduceBNe, Int.reduceLT, Int.reduceLE, Opr.a, Spn.a, nul, h1]
  | false =>
    simp (maxSteps := 4000000) only [go_sem, ↓reduceIte, reduceCtorEq, Nat.reduceEqDiff, Nat.reduceBEq, Nat.reduceAdd, Nat.reduceSub, Nat.reduceMul, Nat.reduceLT, Nat.reduceLeDiff, Nat.reduceBNe, Int.reduceBEq, Int.reduceBNe, Int.reduceLT, Int.reduceLE, Opr.a, Spn.a, nul, h1]
    (first | refine calling (sPoint_ok o.key h) ?_ | refine callingH (sPoint_ok o.key h) ?_)
    simp (maxSteps := 4000000) only [go_sem, ↓reduceIte, reduceCtorEq, Nat.reduceEqDiff, Nat.reduceBEq, Nat.reduceAdd, Nat.reduceSub, Nat.reduceMul, Nat.reduceLT, Nat.reduceLeDiff, Nat.reduceBNe, Int.reduceBEq, Int.reduceBNe, Int.reduceLT, Int.reduceLE, Opr.a, Spn.a, nul, h1]
end Go.Proofs.YtkdbphhekpdmhaaDoor
