/-
  Layer 7 on the plain machine: an operation as bytes, and back: the code, walked.
-/
import Derived.Test.YtgpoglaojklfbaaDoorPkK2
import Derived.Test.YtgpoglaojklfbaaDoorPkP
namespace Go.Proofs.YtgpoglaojklfbaaDoor
open Go.RowKit
set_option linter.unusedVariables false
set_option linter.unusedSimpArgs false
set_option maxRecDepth 100000
attribute [local go_sem ↓] runOp headOp
attribute [local go_sem] ev0 ev1 ev2 ev3 ev4 evA stHOk.eq_1 stHOk.eq_2 stHSt.eq_1 stHSt.eq_2 okV valV fzV okF valF okBld valBld mxOk.eq_1 mxOk.eq_2 mxVal.eq_1 mxVal.eq_2 cellFit.eq_1 cellFit.eq_2 cellFit.eq_3 cellEq.eq_1 cellEq.eq_2 cellEq.eq_3 upd_at AV.flatB AV.flatBs binIok binIV binSok binSV cellsOk.eq_1 cellsOk.eq_2 cellsVal.eq_1 cellsVal.eq_2 objCells.eq_1 objCells.eq_2 objZ.eq_1 objZ.eq_2 objProt.eq_1 objProt.eq_2 oneObj ptrOk.eq_1 ptrOk.eq_2 ptrOk.eq_3 ptrCells.eq_1 ptrCells.eq_2 ptrCells.eq_3 lenOk.eq_1 lenOk.eq_2 lenOk.eq_3 lenOk.eq_4 lenVal.eq_1 lenVal.eq_2 lenVal.eq_3 lenVal.eq_4 faOk.eq_1 faOk.eq_2 faOk.eq_3 faVal.eq_1 faVal.eq_2 faVal.eq_3 iaOk.eq_1 iaOk.eq_2 iaOk.eq_3 iaVal.eq_1 iaVal.eq_2 iaVal.eq_3 slcLen.eq_1 slcLen.eq_2 slcLen.eq_3 slcLen.eq_4 bdOk.eq_1 bdOk.eq_2 bdVal.eq_1 bdVal.eq_2 slcOk.eq_1 slcOk.eq_2 slcOk.eq_3 slcOk.eq_4 slcVal.eq_1 slcVal.eq_2 slcVal.eq_3 slcVal.eq_4 slcFz.eq_1 slcFz.eq_2 byOk.eq_1 byOk.eq_2 byOk.eq_3 byOk.eq_4 byOk.eq_5 byOk.eq_6 byVal.eq_1 byVal.eq_2 byVal.eq_3 byFz.eq_1 byFz.eq_2 byFz.eq_3 byOks byVals byFzs allOne resSt.eq_1 resSt.eq_2 resName.eq_1 resName.eq_2 stOk.eq_1 stOk.eq_2 stArr.eq_1 stArr.eq_2 stSt.eq_1 stSt.eq_2 AV.patch nameOk_none gB.eq_1 gB.eq_2 gB.eq_3 gIs.eq_1 gIs.eq_2 gIs.eq_3 retV resV resVs evalV cellsV St.byval List.getD_cons_zero List.getD_cons_succ List.getD_nil List.map_cons List.map_nil List.length_cons List.length_nil List.take_succ_cons List.take_zero List.drop_succ_cons List.drop_zero List.headD_cons List.set_cons_zero List.append_nil List.nil_append List.cons_append List.contains_cons List.contains_nil List.elem_cons List.elem_nil List.all_cons List.all_nil List.getElem?_cons_zero List.getElem?_cons_succ List.filterMap_cons List.filterMap_nil Option.isSome_some Option.isSome_none Option.map_some Option.map_none Option.some.injEq AV.int.injEq AV.bool.injEq AV.str.injEq AV.tup.injEq AV.agg.injEq AV.sl.injEq List.cons.injEq Bool.false_eq_true Bool.true_eq_false Bool.not_true Bool.not_false Bool.and_true Bool.true_and Bool.or_false Bool.or_true Bool.false_or Bool.true_or Bool.or_self Bool.and_self Bool.not_eq_true' Bool.not_eq_false' Bool.not_not beq_self_eq_true true_and and_true false_and and_false and_self not_true_eq_false not_false_eq_true forall_const true_implies false_implies implies_true imp_self Nat.lt_add_one Nat.le_refl Nat.zero_le Nat.add_zero Nat.zero_add decide_true decide_false decide_eq_true_eq decide_eq_false_iff_not exists_eq_left exists_eq_left' ge_iff_le gt_iff_lt ite_branch ite_branch' nilOk.eq_1 nilOk.eq_2 nilMay.eq_1 nilMay.eq_2 AV.isSl.eq_1 objTy'.eq_1 objTy'.eq_2 apSt.eq_1 apArr.eq_1 apArr.eq_2 slOf.eq_1 fitsV List.mem_cons List.not_mem_nil Bool.false_and Bool.and_false primOk.eq_1 primOk.eq_2 primOk.eq_3 primOk.eq_4 primOk.eq_5 primVal.eq_1 primVal.eq_2 primVal.eq_3 primVal.eq_4 primVal.eq_5 mOk.eq_1 mOk.eq_2 mVal.eq_1 mVal.eq_2 mFz.eq_1 mFz.eq_2 mOks mVals mFzs mCalOk.eq_1 mCalOk.eq_2 mFn.eq_1 mFn.eq_2 mArgs.eq_1 mArgs.eq_2 ckOk.eq_1 ckOk.eq_2 cloOk.eq_1 ptrAt.eq_1 sh.eq_1 sh.eq_2 sh.eq_3 sh.eq_4 retM shH_small
theorem textF_size (s : ByteArray) : (textF s).size = 1 + s.size := by unfold textF; rw [ByteArray.size_append]; rfl
theorem wrap_lim (n : Int) (h0 : 0 ≤ n) (h1 : n ≤ 64) : IntKind.u8.wrap n = n := by
  simp [IntKind.wrap, IntKind.signed, IntKind.bits]; omega
theorem byteB_lim (n : Int) (h0 : 0 ≤ n) (h1 : n ≤ 64) : (AV.int .u8 n).byteB = true := by
  simp [AV.byteB]; omega
/-! ### percolate/op.Bytes -/
def r_bytes_0 : Reg := ⟨[], [⟨(.box 6 34 (.t 0)), (some 1), none, [], []⟩, ⟨(.mv (.c (.str ⟨#[]⟩))), (some 2), none, [], []⟩, ⟨(.mv (.c (.bool false))), (some 3), none, [], []⟩], [1], [], false⟩
def r_bytes_1 : Reg := ⟨[], [⟨(.load 6 true (.t 1)), (some 6), none, [7], []⟩, ⟨(.callv (.c (.clo 42 [] [])) [(.t 6)]), (some 7), none, [], []⟩, ⟨(.bin .neq (.t 7) (.c (.int .i64 0))), (some 8), none, [], []⟩], [7], [], false⟩
def r_bytes_2 : Reg := ⟨[], [⟨(.mv (.c (.str ⟨#[]⟩))), (some 2), none, [], []⟩, ⟨(.mv (.c (.bool false))), (some 3), none, [], []⟩], [], [], false⟩
def r_bytes_3 : Reg := ⟨[], [⟨(.faddr 0 (.t 1)), (some 9), none, [12, 13, 4], []⟩, ⟨(.load 1 false (.t 9)), (some 10), none, [12, 13, 4], []⟩, ⟨(.conv .u8 (.t 10)), (some 11), none, [12, 13, 4], []⟩, ⟨(.bsl 1 5 [(.t 11)]), (some 12), none, [13, 4], []⟩, ⟨(.call 1 [(.t 12)]), (some 13), none, [4], []⟩, ⟨(.alloc 1 9 (.str ⟨#[]⟩)), (some 4), none, [], []⟩, ⟨(.store 1 (.t 4) (.t 13)), none, none, [], []⟩], [12, 13, 4], [], false⟩
def r_bytes_4 : List XOp := [(.mkclo 14 43 (.t 4)), (.op [] ⟨(.mv (.t 14)), (some 5), none, [], []⟩)]
def r_bytes_5 : List XOp := [(.op [] ⟨(.mv (.t 5)), (some 15), none, [], []⟩), (.op [] ⟨(.faddr 1 (.t 1)), (some 16), none, [], []⟩), (.op [] ⟨(.load 1 false (.t 16)), (some 17), none, [], []⟩), (.mcall 18 (.t 15) [(.t 17)])]
def r_bytes_6 : Reg := ⟨[], [⟨(.load 6 true (.t 1)), (some 20), none, [21], []⟩, ⟨(.callv (.c (.clo 44 [] [])) [(.t 20)]), (some 21), none, [], []⟩, ⟨(.mv (.t 21)), (some 19), none, [], []⟩], [21], [], false⟩
def r_bytes_7 : List XOp := [(.op [] ⟨(.mv (.t 5)), (some 22), none, [], []⟩), (.op [] ⟨(.faddr 4 (.t 1)), (some 23), none, [], []⟩), (.op [] ⟨(.load 1 false (.t 23)), (some 24), none, [], []⟩), (.mcall 25 (.t 22) [(.t 24)])]
def r_bytes_8 : Reg := ⟨[], [⟨(.load 6 true (.t 1)), (some 27), none, [28], []⟩, ⟨(.callv (.c (.clo 45 [] [])) [(.t 27)]), (some 28), none, [], []⟩, ⟨(.mv (.t 28)), (some 29), none, [], []⟩, ⟨(.faddr 3 (.t 1)), (some 30), (some (29, true)), [], []⟩, ⟨(.load 1 false (.t 30)), (some 31), (some (29, true)), [], []⟩, ⟨(.pick (.t 29) (.t 31) (.c (.bool false))), (some 32), none, [], []⟩, ⟨(.mv (.t 32)), (some 26), none, [], []⟩], [28], [], false⟩
def r_bytes_9 : Reg := ⟨[], [⟨(.load 1 false (.t 4)), (some 33), none, [], []⟩, ⟨(.bin .add (.t 33) (.c (.str ⟨#[1]⟩))), (some 34), none, [], []⟩, ⟨(.store 1 (.t 4) (.t 34)), none, none, [], []⟩], [], [], false⟩
def r_bytes_10 : Reg := ⟨[], [⟨(.load 6 true (.t 1)), (some 36), none, [37], []⟩, ⟨(.callv (.c (.clo 45 [] [])) [(.t 36)]), (some 37), none, [], []⟩, ⟨(.mv (.t 37)), (some 35), none, [], []⟩], [37], [], false⟩
def r_bytes_11 : Reg := ⟨[], [⟨(.load 1 false (.t 4)), (some 38), none, [], []⟩, ⟨(.bin .add (.t 38) (.c (.str ⟨#[0]⟩))), (some 39), none, [], []⟩, ⟨(.store 1 (.t 4) (.t 39)), none, none, [], []⟩], [], [], false⟩
def r_bytes_12 : List XOp := [(.op [] ⟨(.mv (.t 5)), (some 40), none, [], []⟩), (.op [] ⟨(.faddr 2 (.t 1)), (some 41), none, [], []⟩), (.op [] ⟨(.load 1 false (.t 41)), (some 42), none, [], []⟩), (.mcall 43 (.t 40) [(.t 42)])]
def r_bytes_13 : Reg := ⟨[], [⟨(.faddr 0 (.t 1)), (some 44), none, [], []⟩, ⟨(.load 1 false (.t 44)), (some 45), none, [], []⟩, ⟨(.bin .eql (.t 45) (.c (.int .i64 6))), (some 46), none, [], []⟩], [], [], false⟩
def r_bytes_14 : Reg := ⟨[], [⟨(.load 1 false (.t 4)), (some 47), none, [51, 52], []⟩, ⟨(.faddr 5 (.t 1)), (some 48), none, [51, 52], []⟩, ⟨(.load 1 false (.t 48)), (some 49), none, [51, 52], []⟩, ⟨(.conv .u8 (.t 49)), (some 50), none, [51, 52], []⟩, ⟨(.bsl 1 5 [(.t 50)]), (some 51), none, [52], []⟩, ⟨(.call 1 [(.t 51)]), (some 52), none, [], []⟩, ⟨(.bin .add (.t 47) (.t 52)), (some 53), none, [], []⟩, ⟨(.store 1 (.t 4) (.t 53)), none, none, [], []⟩], [51, 52], [], false⟩
def r_bytes_15 : Reg := ⟨[], [⟨(.load 1 false (.t 4)), (some 54), none, [], []⟩, ⟨(.mv (.t 54)), (some 2), none, [], []⟩, ⟨(.mv (.c (.bool true))), (some 3), none, [], []⟩], [], [], false⟩
def ir_bytes (P : Program) : IR := (.seq (.reg r_bytes_0)
  (.seq (.seq (.reg r_bytes_1)
  (.cond (.t 8) (.seq (.reg r_bytes_2)
  .ret)
  .skip))
  (.seq (.reg r_bytes_3)
  (.seq (.regx P r_bytes_4)
  (.seq (.regx P r_bytes_5)
  (.seq (.block 0 (.seq (.reg r_bytes_6)
  (.cond (.t 19) (.regx P r_bytes_7)
  (.seq (.reg r_bytes_8)
  (.cond (.t 26) (.reg r_bytes_9)
  (.seq (.reg r_bytes_10)
  (.cond (.t 35) (.seq (.reg r_bytes_11)
  (.regx P r_bytes_12))
  .skip)))))))
  (.seq (.seq (.reg r_bytes_13)
  (.cond (.t 46) (.reg r_bytes_14)
  .skip))
  (.seq (.reg r_bytes_15)
  .ret))))))))
def res_bytes : List RDesc := [(.tmp 2), (.tmp 3)]
theorem e_bytes_0 (C : FuncId → List AV → AV → Prop) (σ : St) (K : St → Prop) : runReg C r_bytes_0 σ K = runOps C [⟨(.box 6 34 (.t 0)), (some 1), none, [], []⟩, ⟨(.mv (.c (.str ⟨#[]⟩))), (some 2), none, [], []⟩, ⟨(.mv (.c (.bool false))), (some 3), none, [], []⟩] (σ.kills [1]) K := rfl
theorem e_bytes_1 (C : FuncId → List AV → AV → Prop) (σ : St) (K : St → Prop) : runReg C r_bytes_1 σ K = runOps C [⟨(.load 6 true (.t 1)), (some 6), none, [7], []⟩, ⟨(.callv (.c (.clo 42 [] [])) [(.t 6)]), (some 7), none, [], []⟩, ⟨(.bin .neq (.t 7) (.c (.int .i64 0))), (some 8), none, [], []⟩] (σ.kills [7]) K := rfl
theorem e_bytes_2 (C : FuncId → List AV → AV → Prop) (σ : St) (K : St → Prop) : runReg C r_bytes_2 σ K = runOps C [⟨(.mv (.c (.str ⟨#[]⟩))), (some 2), none, [], []⟩, ⟨(.mv (.c (.bool false))), (some 3), none, [], []⟩] (σ.kills []) K := rfl
theorem e_bytes_3 (C : FuncId → List AV → AV → Prop) (σ : St) (K : St → Prop) : runReg C r_bytes_3 σ K = runOps C [⟨(.faddr 0 (.t 1)), (some 9), none, [12, 13, 4], []⟩, ⟨(.load 1 false (.t 9)), (some 10), none, [12, 13, 4], []⟩, ⟨(.conv .u8 (.t 10)), (some 11), none, [12, 13, 4], []⟩, ⟨(.bsl 1 5 [(.t 11)]), (some 12), none, [13, 4], []⟩, ⟨(.call 1 [(.t 12)]), (some 13), none, [4], []⟩, ⟨(.alloc 1 9 (.str ⟨#[]⟩)), (some 4), none, [], []⟩, ⟨(.store 1 (.t 4) (.t 13)), none, none, [], []⟩] (σ.kills [12, 13, 4]) K := rfl
theorem e_bytes_6 (C : FuncId → List AV → AV → Prop) (σ : St) (K : St → Prop) : runReg C r_bytes_6 σ K = runOps C [⟨(.load 6 true (.t 1)), (some 20), none, [21], []⟩, ⟨(.callv (.c (.clo 44 [] [])) [(.t 20)]), (some 21), none, [], []⟩, ⟨(.mv (.t 21)), (some 19), none, [], []⟩] (σ.kills [21]) K := rfl
theorem e_bytes_8 (C : FuncId → List AV → AV → Prop) (σ : St) (K : St → Prop) : runReg C r_bytes_8 σ K = runOps C [⟨(.load 6 true (.t 1)), (some 27), none, [28], []⟩, ⟨(.callv (.c (.clo 45 [] [])) [(.t 27)]), (some 28), none, [], []⟩, ⟨(.mv (.t 28)), (some 29), none, [], []⟩, ⟨(.faddr 3 (.t 1)), (some 30), (some (29, true)), [], []⟩, ⟨(.load 1 false (.t 30)), (some 31), (some (29, true)), [], []⟩, ⟨(.pick (.t 29) (.t 31) (.c (.bool false))), (some 32), none, [], []⟩, ⟨(.mv (.t 32)), (some 26), none, [], []⟩] (σ.kills [28]) K := rfl
theorem e_bytes_9 (C : FuncId → List AV → AV → Prop) (σ : St) (K : St → Prop) : runReg C r_bytes_9 σ K = runOps C [⟨(.load 1 false (.t 4)), (some 33), none, [], []⟩, ⟨(.bin .add (.t 33) (.c (.str ⟨#[1]⟩))), (some 34), none, [], []⟩, ⟨(.store 1 (.t 4) (.t 34)), none, none, [], []⟩] (σ.kills []) K := rfl
theorem e_bytes_10 (C : FuncId → List AV → AV → Prop) (σ : St) (K : St → Prop) : runReg C r_bytes_10 σ K = runOps C [⟨(.load 6 true (.t 1)), (some 36), none, [37], []⟩, ⟨(.callv (.c (.clo 45 [] [])) [(.t 36)]), (some 37), none, [], []⟩, ⟨(.mv (.t 37)), (some 35), none, [], []⟩] (σ.kills [37]) K := rfl
theorem e_bytes_11 (C : FuncId → List AV → AV → Prop) (σ : St) (K : St → Prop) : runReg C r_bytes_11 σ K = runOps C [⟨(.load 1 false (.t 4)), (some 38), none, [], []⟩, ⟨(.bin .add (.t 38) (.c (.str ⟨#[0]⟩))), (some 39), none, [], []⟩, ⟨(.store 1 (.t 4) (.t 39)), none, none, [], []⟩] (σ.kills []) K := rfl
theorem e_bytes_13 (C : FuncId → List AV → AV → Prop) (σ : St) (K : St → Prop) : runReg C r_bytes_13 σ K = runOps C [⟨(.faddr 0 (.t 1)), (some 44), none, [], []⟩, ⟨(.load 1 false (.t 44)), (some 45), none, [], []⟩, ⟨(.bin .eql (.t 45) (.c (.int .i64 6))), (some 46), none, [], []⟩] (σ.kills []) K := rfl
theorem e_bytes_14 (C : FuncId → List AV → AV → Prop) (σ : St) (K : St → Prop) : runReg C r_bytes_14 σ K = runOps C [⟨(.load 1 false (.t 4)), (some 47), none, [51, 52], []⟩, ⟨(.faddr 5 (.t 1)), (some 48), none, [51, 52], []⟩, ⟨(.load 1 false (.t 48)), (some 49), none, [51, 52], []⟩, ⟨(.conv .u8 (.t 49)), (some 50), none, [51, 52], []⟩, ⟨(.bsl 1 5 [(.t 50)]), (some 51), none, [52], []⟩, ⟨(.call 1 [(.t 51)]), (some 52), none, [], []⟩, ⟨(.bin .add (.t 47) (.t 52)), (some 53), none, [], []⟩, ⟨(.store 1 (.t 4) (.t 53)), none, none, [], []⟩] (σ.kills [51, 52]) K := rfl
theorem e_bytes_15 (C : FuncId → List AV → AV → Prop) (σ : St) (K : St → Prop) : runReg C r_bytes_15 σ K = runOps C [⟨(.load 1 false (.t 4)), (some 54), none, [], []⟩, ⟨(.mv (.t 54)), (some 2), none, [], []⟩, ⟨(.mv (.c (.bool true))), (some 3), none, [], []⟩] (σ.kills []) K := rfl
theorem fn_bytes {args : List AV} {r : AV} (ha : args.length.ble Tryd.f23.ntmps = true) (h : run (AFn Tryd.prog) (ir_bytes Tryd.prog) (endQ res_bytes r) (initSt args)) : AFn Tryd.prog 23 args r :=
  AFn.of_code (hint := fun i => if [4,5,7,12].contains i then [0] else []) (c := Tryd.f23.body.getD .skip) (by kernel_rfl) (by kernel_rfl) Tryd.func23 (by kernel_rfl) (by kernel_rfl) (by kernel_rfl) (of_decide_eq_true (by kernel_rfl)) (Nat.le_of_ble_eq_true ha) (Nat.le_of_ble_eq_true (by kernel_rfl)) (run_ok h)

attribute [local go_sem ↓] ir_bytes
attribute [local go_sem] res_bytes e_bytes_0 e_bytes_1 e_bytes_2 e_bytes_3 e_bytes_6 e_bytes_8 e_bytes_9 e_bytes_10 e_bytes_11 e_bytes_13 e_bytes_14 e_bytes_15 r_bytes_4 r_bytes_5 r_bytes_7 r_bytes_12

theorem bytes_no (o : Opr) (h : o.key.size ≤ 9000000000) (hr : o.right = false) : AFn Tryd.prog 23 [o.a] (.tup [.str nul, .bool false]) := by
  refine fn_bytes rfl ?_
  have hR := oRight_ok o h
  rw [hr] at hR
  simp (maxSteps := 4000000) only [go_sem, ↓reduceIte, reduceCtorEq, Nat.reduceEqDiff, Nat.reduceBEq, Nat.reduceAdd, Nat.reduceSub, Nat.reduceMul, Nat.reduceLT, Nat.reduceLeDiff, Nat.reduceBNe, Int.reduceBEq, Int.reduceBNe, Int.reduceLT, Int.reduceLE, Opr.a, Spn.a, nul]
  (first | refine calling hR ?_ | refine callingH hR ?_)
  simp (maxSteps := 4000000) only [go_sem, ↓reduceIte, reduceCtorEq, Nat.reduceEqDiff, Nat.reduceBEq, Nat.reduceAdd, Nat.reduceSub, Nat.reduceMul, Nat.reduceLT, Nat.reduceLeDiff, Nat.reduceBNe, Int.reduceBEq, Int.reduceBNe, Int.reduceLT, Int.reduceLE, Opr.a, Spn.a, nul]
set_option maxHeartbeats 4000000 in
theorem bytes_ok (o : Opr) (hr : o.right = true) : AFn Tryd.prog 23 [o.a] (.tup [.str (bytesO o), .bool true]) := by
  refine fn_bytes rfl ?_
  obtain ⟨hk1, hk6, hkey, hhi, hval, p1, p2, p3, p4⟩ := right_parts hr
  obtain ⟨kind, key, hi, op, val, lim⟩ := o
  simp only at hk1 hk6 hkey hhi hval p1 p2 p3 p4
  have hk : kind = 1 ∨ kind = 2 ∨ kind = 3 ∨ kind = 4 ∨ kind = 5 ∨ kind = 6 := by omega
  rcases hk with rfl | rfl | rfl | rfl | rfl | rfl
  · -- kind 1
    have hv : AFn Tryd.prog 44 [.agg [.int .i64 1, .str key, .str hi, .bool op, .str val, .int .i64 lim]] (.bool true) := valued_ok ⟨1, key, hi, op, val, lim⟩
    have hg : AFn Tryd.prog 45 [.agg [.int .i64 1, .str key, .str hi, .bool op, .str val, .int .i64 lim]] (.bool false) := ranged_ok ⟨1, key, hi, op, val, lim⟩
    have hR : AFn Tryd.prog 42 [.agg [.int .i64 1, .str key, .str hi, .bool op, .str val, .int .i64 lim]] (.int .i64 0) := by
      have := oRight_ok ⟨1, key, hi, op, val, lim⟩ (by show key.size ≤ _; omega)
      rw [hr] at this; exact this
    have hw : IntKind.u8.wrap 1 = 1 := by decide
    have hb : (AV.int .u8 1).byteB = true := by decide
    have ht : (AV.int .u8 1).toB = 1 := by decide
    have hl1 := fun H hq => lay_ok key (⟨#[1]⟩ : ByteArray) H 4 hkey (by show 1 ≤ 1000; omega) hq
    have z1 : ((⟨#[1]⟩ : ByteArray) ++ textF key).size = 1 + (1 + key.size) := by rw [ByteArray.size_append, textF_size]; rfl
    simp (maxSteps := 4000000) only [go_sem, ↓reduceIte, reduceCtorEq, Nat.reduceEqDiff, Nat.reduceBEq, Nat.reduceAdd, Nat.reduceSub, Nat.reduceMul, Nat.reduceLT, Nat.reduceLeDiff, Nat.reduceBNe, Int.reduceBEq, Int.reduceBNe, Int.reduceLT, Int.reduceLE, Opr.a, Spn.a, nul]
    (first | refine calling hR ?_ | refine callingH hR ?_)
    simp (maxSteps := 4000000) only [go_sem, ↓reduceIte, reduceCtorEq, Nat.reduceEqDiff, Nat.reduceBEq, Nat.reduceAdd, Nat.reduceSub, Nat.reduceMul, Nat.reduceLT, Nat.reduceLeDiff, Nat.reduceBNe, Int.reduceBEq, Int.reduceBNe, Int.reduceLT, Int.reduceLE, Opr.a, Spn.a, nul, hw, hb, ht]
    refine mcalling (hl1 _ ?_) ?_
    · simp (maxSteps := 4000000) only [go_sem, ↓reduceIte, reduceCtorEq, Nat.reduceEqDiff, Nat.reduceBEq, Nat.reduceAdd, Nat.reduceSub, Nat.reduceMul, Nat.reduceLT, Nat.reduceLeDiff, Nat.reduceBNe, Int.reduceBEq, Int.reduceBNe, Int.reduceLT, Int.reduceLE, Opr.a, Spn.a, nul, hw, hb, ht]
    simp (maxSteps := 4000000) only [go_sem, ↓reduceIte, reduceCtorEq, Nat.reduceEqDiff, Nat.reduceBEq, Nat.reduceAdd, Nat.reduceSub, Nat.reduceMul, Nat.reduceLT, Nat.reduceLeDiff, Nat.reduceBNe, Int.reduceBEq, Int.reduceBNe, Int.reduceLT, Int.reduceLE, Opr.a, Spn.a, nul]
    (first | refine calling hv ?_ | refine callingH hv ?_)
    simp (maxSteps := 4000000) only [go_sem, ↓reduceIte, reduceCtorEq, Nat.reduceEqDiff, Nat.reduceBEq, Nat.reduceAdd, Nat.reduceSub, Nat.reduceMul, Nat.reduceLT, Nat.reduceLeDiff, Nat.reduceBNe, Int.reduceBEq, Int.reduceBNe, Int.reduceLT, Int.reduceLE, Opr.a, Spn.a, nul]
    refine mcalling (lay_ok val ((⟨#[1]⟩ : ByteArray) ++ textF key) _ 4 hval (by omega) ?_) ?_
    · simp (maxSteps := 4000000) only [go_sem, ↓reduceIte, reduceCtorEq, Nat.reduceEqDiff, Nat.reduceBEq, Nat.reduceAdd, Nat.reduceSub, Nat.reduceMul, Nat.reduceLT, Nat.reduceLeDiff, Nat.reduceBNe, Int.reduceBEq, Int.reduceBNe, Int.reduceLT, Int.reduceLE, Opr.a, Spn.a, nul]
    simp (maxSteps := 4000000) only [go_sem, ↓reduceIte, reduceCtorEq, Nat.reduceEqDiff, Nat.reduceBEq, Nat.reduceAdd, Nat.reduceSub, Nat.reduceMul, Nat.reduceLT, Nat.reduceLeDiff, Nat.reduceBNe, Int.reduceBEq, Int.reduceBNe, Int.reduceLT, Int.reduceLE, Opr.a, Spn.a, nul]
    try rfl
  · -- kind 2
    have hv : AFn Tryd.prog 44 [.agg [.int .i64 2, .str key, .str hi, .bool op, .str val, .int .i64 lim]] (.bool true) := valued_ok ⟨2, key, hi, op, val, lim⟩
    have hg : AFn Tryd.prog 45 [.agg [.int .i64 2, .str key, .str hi, .bool op, .str val, .int .i64 lim]] (.bool false) := ranged_ok ⟨2, key, hi, op, val, lim⟩
    have hR : AFn Tryd.prog 42 [.agg [.int .i64 2, .str key, .str hi, .bool op, .str val, .int .i64 lim]] (.int .i64 0) := by
      have := oRight_ok ⟨2, key, hi, op, val, lim⟩ (by show key.size ≤ _; omega)
      rw [hr] at this; exact this
    have hw : IntKind.u8.wrap 2 = 2 := by decide
    have hb : (AV.int .u8 2).byteB = true := by decide
    have ht : (AV.int .u8 2).toB = 2 := by decide
    have hl1 := fun H hq => lay_ok key (⟨#[2]⟩ : ByteArray) H 4 hkey (by show 1 ≤ 1000; omega) hq
    have z1 : ((⟨#[2]⟩ : ByteArray) ++ textF key).size = 1 + (1 + key.size) := by rw [ByteArray.size_append, textF_size]; rfl
    simp (maxSteps := 4000000) only [go_sem, ↓reduceIte, reduceCtorEq, Nat.reduceEqDiff, Nat.reduceBEq, Nat.reduceAdd, Nat.reduceSub, Nat.reduceMul, Nat.reduceLT, Nat.reduceLeDiff, Nat.reduceBNe, Int.reduceBEq, Int.reduceBNe, Int.reduceLT, Int.reduceLE, Opr.a, Spn.a, nul]
    (first | refine calling hR ?_ | refine callingH hR ?_)
    simp (maxSteps := 4000000) only [go_sem, ↓reduceIte, reduceCtorEq, Nat.reduceEqDiff, Nat.reduceBEq, Nat.reduceAdd, Nat.reduceSub, Nat.reduceMul, Nat.reduceLT, Nat.reduceLeDiff, Nat.reduceBNe, Int.reduceBEq, Int.reduceBNe, Int.reduceLT, Int.reduceLE, Opr.a, Spn.a, nul, hw, hb, ht]
    refine mcalling (hl1 _ ?_) ?_
    · simp (maxSteps := 4000000) only [go_sem, ↓reduceIte, reduceCtorEq, Nat.reduceEqDiff, Nat.reduceBEq, Nat.reduceAdd, Nat.reduceSub, Nat.reduceMul, Nat.reduceLT, Nat.reduceLeDiff, Nat.reduceBNe, Int.reduceBEq, Int.reduceBNe, Int.reduceLT, Int.reduceLE, Opr.a, Spn.a, nul, hw, hb, ht]
    simp (maxSteps := 4000000) only [go_sem, ↓reduceIte, reduceCtorEq, Nat.reduceEqDiff, Nat.reduceBEq, Nat.reduceAdd, Nat.reduceSub, Nat.reduceMul, Nat.reduceLT, Nat.reduceLeDiff, Nat.reduceBNe, Int.reduceBEq, Int.reduceBNe, Int.reduceLT, Int.reduceLE, Opr.a, Spn.a, nul]
    (first | refine calling hv ?_ | refine callingH hv ?_)
    simp (maxSteps := 4000000) only [go_sem, ↓reduceIte, reduceCtorEq, Nat.reduceEqDiff, Nat.reduceBEq, Nat.reduceAdd, Nat.reduceSub, Nat.reduceMul, Nat.reduceLT, Nat.reduceLeDiff, Nat.reduceBNe, Int.reduceBEq, Int.reduceBNe, Int.reduceLT, Int.reduceLE, Opr.a, Spn.a, nul]
    refine mcalling (lay_ok val ((⟨#[2]⟩ : ByteArray) ++ textF key) _ 4 hval (by omega) ?_) ?_
    · simp (maxSteps := 4000000) only [go_sem, ↓reduceIte, reduceCtorEq, Nat.reduceEqDiff, Nat.reduceBEq, Nat.reduceAdd, Nat.reduceSub, Nat.reduceMul, Nat.reduceLT, Nat.reduceLeDiff, Nat.reduceBNe, Int.reduceBEq, Int.reduceBNe, Int.reduceLT, Int.reduceLE, Opr.a, Spn.a, nul]
    simp (maxSteps := 4000000) only [go_sem, ↓reduceIte, reduceCtorEq, Nat.reduceEqDiff, Nat.reduceBEq, Nat.reduceAdd, Nat.reduceSub, Nat.reduceMul, Nat.reduceLT, Nat.reduceLeDiff, Nat.reduceBNe, Int.reduceBEq, Int.reduceBNe, Int.reduceLT, Int.reduceLE, Opr.a, Spn.a, nul]
    try rfl
  · -- kind 3
    have hv : AFn Tryd.prog 44 [.agg [.int .i64 3, .str key, .str hi, .bool op, .str val, .int .i64 lim]] (.bool false) := valued_ok ⟨3, key, hi, op, val, lim⟩
    have hg : AFn Tryd.prog 45 [.agg [.int .i64 3, .str key, .str hi, .bool op, .str val, .int .i64 lim]] (.bool false) := ranged_ok ⟨3, key, hi, op, val, lim⟩
    have hR : AFn Tryd.prog 42 [.agg [.int .i64 3, .str key, .str hi, .bool op, .str val, .int .i64 lim]] (.int .i64 0) := by
      have := oRight_ok ⟨3, key, hi, op, val, lim⟩ (by show key.size ≤ _; omega)
      rw [hr] at this; exact this
    have hw : IntKind.u8.wrap 3 = 3 := by decide
    have hb : (AV.int .u8 3).byteB = true := by decide
    have ht : (AV.int .u8 3).toB = 3 := by decide
    have hl1 := fun H hq => lay_ok key (⟨#[3]⟩ : ByteArray) H 4 hkey (by show 1 ≤ 1000; omega) hq
    have z1 : ((⟨#[3]⟩ : ByteArray) ++ textF key).size = 1 + (1 + key.size) := by rw [ByteArray.size_append, textF_size]; rfl
    simp (maxSteps := 4000000) only [go_sem, ↓reduceIte, reduceCtorEq, Nat.reduceEqDiff, Nat.reduceBEq, Nat.reduceAdd, Nat.reduceSub, Nat.reduceMul, Nat.reduceLT, Nat.reduceLeDiff, Nat.reduceBNe, Int.reduceBEq, Int.reduceBNe, Int.reduceLT, Int.reduceLE, Opr.a, Spn.a, nul]
    (first | refine calling hR ?_ | refine callingH hR ?_)
    simp (maxSteps := 4000000) only [go_sem, ↓reduceIte, reduceCtorEq, Nat.reduceEqDiff, Nat.reduceBEq, Nat.reduceAdd, Nat.reduceSub, Nat.reduceMul, Nat.reduceLT, Nat.reduceLeDiff, Nat.reduceBNe, Int.reduceBEq, Int.reduceBNe, Int.reduceLT, Int.reduceLE, Opr.a, Spn.a, nul, hw, hb, ht]
    refine mcalling (hl1 _ ?_) ?_
    · simp (maxSteps := 4000000) only [go_sem, ↓reduceIte, reduceCtorEq, Nat.reduceEqDiff, Nat.reduceBEq, Nat.reduceAdd, Nat.reduceSub, Nat.reduceMul, Nat.reduceLT, Nat.reduceLeDiff, Nat.reduceBNe, Int.reduceBEq, Int.reduceBNe, Int.reduceLT, Int.reduceLE, Opr.a, Spn.a, nul, hw, hb, ht]
    simp (maxSteps := 4000000) only [go_sem, ↓reduceIte, reduceCtorEq, Nat.reduceEqDiff, Nat.reduceBEq, Nat.reduceAdd, Nat.reduceSub, Nat.reduceMul, Nat.reduceLT, Nat.reduceLeDiff, Nat.reduceBNe, Int.reduceBEq, Int.reduceBNe, Int.reduceLT, Int.reduceLE, Opr.a, Spn.a, nul]
    (first | refine calling hv ?_ | refine callingH hv ?_)
    simp (maxSteps := 4000000) only [go_sem, ↓reduceIte, reduceCtorEq, Nat.reduceEqDiff, Nat.reduceBEq, Nat.reduceAdd, Nat.reduceSub, Nat.reduceMul, Nat.reduceLT, Nat.reduceLeDiff, Nat.reduceBNe, Int.reduceBEq, Int.reduceBNe, Int.reduceLT, Int.reduceLE, Opr.a, Spn.a, nul]
    (first | refine calling hg ?_ | refine callingH hg ?_)
    simp (maxSteps := 4000000) only [go_sem, ↓reduceIte, reduceCtorEq, Nat.reduceEqDiff, Nat.reduceBEq, Nat.reduceAdd, Nat.reduceSub, Nat.reduceMul, Nat.reduceLT, Nat.reduceLeDiff, Nat.reduceBNe, Int.reduceBEq, Int.reduceBNe, Int.reduceLT, Int.reduceLE, Opr.a, Spn.a, nul]
    (first | refine calling hg ?_ | refine callingH hg ?_)
    simp (maxSteps := 4000000) only [go_sem, ↓reduceIte, reduceCtorEq, Nat.reduceEqDiff, Nat.reduceBEq, Nat.reduceAdd, Nat.reduceSub, Nat.reduceMul, Nat.reduceLT, Nat.reduceLeDiff, Nat.reduceBNe, Int.reduceBEq, Int.reduceBNe, Int.reduceLT, Int.reduceLE, Opr.a, Spn.a, nul]
    try rfl
  · -- kind 4
    have hv : AFn Tryd.prog 44 [.agg [.int .i64 4, .str key, .str hi, .bool op, .str val, .int .i64 lim]] (.bool false) := valued_ok ⟨4, key, hi, op, val, lim⟩
    have hg : AFn Tryd.prog 45 [.agg [.int .i64 4, .str key, .str hi, .bool op, .str val, .int .i64 lim]] (.bool true) := ranged_ok ⟨4, key, hi, op, val, lim⟩
    have hR : AFn Tryd.prog 42 [.agg [.int .i64 4, .str key, .str hi, .bool op, .str val, .int .i64 lim]] (.int .i64 0) := by
      have := oRight_ok ⟨4, key, hi, op, val, lim⟩ (by show key.size ≤ _; omega)
      rw [hr] at this; exact this
    have hw : IntKind.u8.wrap 4 = 4 := by decide
    have hb : (AV.int .u8 4).byteB = true := by decide
    have ht : (AV.int .u8 4).toB = 4 := by decide
    have hl1 := fun H hq => lay_ok key (⟨#[4]⟩ : ByteArray) H 4 hkey (by show 1 ≤ 1000; omega) hq
    have z1 : ((⟨#[4]⟩ : ByteArray) ++ textF key).size = 1 + (1 + key.size) := by rw [ByteArray.size_append, textF_size]; rfl
    simp (maxSteps := 4000000) only [go_sem, ↓reduceIte, reduceCtorEq, Nat.reduceEqDiff, Nat.reduceBEq, Nat.reduceAdd, Nat.reduceSub, Nat.reduceMul, Nat.reduceLT, Nat.reduceLeDiff, Nat.reduceBNe, Int.reduceBEq, Int.reduceBNe, Int.reduceLT, Int.reduceLE, Opr.a, Spn.a, nul]
    (first | refine calling hR ?_ | refine callingH hR ?_)
    simp (maxSteps := 4000000) only [go_sem, ↓reduceIte, reduceCtorEq, Nat.reduceEqDiff, Nat.reduceBEq, Nat.reduceAdd, Nat.reduceSub, Nat.reduceMul, Nat.reduceLT, Nat.reduceLeDiff, Nat.reduceBNe, Int.reduceBEq, Int.reduceBNe, Int.reduceLT, Int.reduceLE, Opr.a, Spn.a, nul, hw, hb, ht]
    refine mcalling (hl1 _ ?_) ?_
    · simp (maxSteps := 4000000) only [go_sem, ↓reduceIte, reduceCtorEq, Nat.reduceEqDiff, Nat.reduceBEq, Nat.reduceAdd, Nat.reduceSub, Nat.reduceMul, Nat.reduceLT, Nat.reduceLeDiff, Nat.reduceBNe, Int.reduceBEq, Int.reduceBNe, Int.reduceLT, Int.reduceLE, Opr.a, Spn.a, nul, hw, hb, ht]
    simp (maxSteps := 4000000) only [go_sem, ↓reduceIte, reduceCtorEq, Nat.reduceEqDiff, Nat.reduceBEq, Nat.reduceAdd, Nat.reduceSub, Nat.reduceMul, Nat.reduceLT, Nat.reduceLeDiff, Nat.reduceBNe, Int.reduceBEq, Int.reduceBNe, Int.reduceLT, Int.reduceLE, Opr.a, Spn.a, nul]
    (first | refine calling hv ?_ | refine callingH hv ?_)
    simp (maxSteps := 4000000) only [go_sem, ↓reduceIte, reduceCtorEq, Nat.reduceEqDiff, Nat.reduceBEq, Nat.reduceAdd, Nat.reduceSub, Nat.reduceMul, Nat.reduceLT, Nat.reduceLeDiff, Nat.reduceBNe, Int.reduceBEq, Int.reduceBNe, Int.reduceLT, Int.reduceLE, Opr.a, Spn.a, nul]
    (first | refine calling hg ?_ | refine callingH hg ?_)
    have s1 : ∀ x : UInt8, #[x].size = 1 := fun _ => rfl
    have tk := textF_size key
    have tv := textF_size hi
    cases op with
    | true =>
      rw [show bytesO ⟨4, key, hi, true, val, lim⟩ = (⟨#[4]⟩ : ByteArray) ++ textF key ++ (⟨#[1]⟩ : ByteArray) from rfl]
      simp (maxSteps := 4000000) only [go_sem, ↓reduceIte, reduceCtorEq, Nat.reduceEqDiff, Nat.reduceBEq, Nat.reduceAdd, Nat.reduceSub, Nat.reduceMul, Nat.reduceLT, Nat.reduceLeDiff, Nat.reduceBNe, Int.reduceBEq, Int.reduceBNe, Int.reduceLT, Int.reduceLE, Opr.a, Spn.a, nul, s1]
      try (refine ⟨?_, ?_⟩ <;> omega)
      try omega
    | false =>
      rw [show bytesO ⟨4, key, hi, false, val, lim⟩ = (⟨#[4]⟩ : ByteArray) ++ textF key ++ (⟨#[0]⟩ : ByteArray) ++ textF hi by
        show _ ++ (_ ++ _) = _; rw [← ba_assoc]; rfl]
      simp (maxSteps := 4000000) only [go_sem, ↓reduceIte, reduceCtorEq, Nat.reduceEqDiff, Nat.reduceBEq, Nat.reduceAdd, Nat.reduceSub, Nat.reduceMul, Nat.reduceLT, Nat.reduceLeDiff, Nat.reduceBNe, Int.reduceBEq, Int.reduceBNe, Int.reduceLT, Int.reduceLE, Opr.a, Spn.a, nul]
      (first | refine calling hg ?_ | refine callingH hg ?_)
      simp (maxSteps := 4000000) only [go_sem, ↓reduceIte, reduceCtorEq, Nat.reduceEqDiff, Nat.reduceBEq, Nat.reduceAdd, Nat.reduceSub, Nat.reduceMul, Nat.reduceLT, Nat.reduceLeDiff, Nat.reduceBNe, Int.reduceBEq, Int.reduceBNe, Int.reduceLT, Int.reduceLE, Opr.a, Spn.a, nul, s1]
      refine ⟨by omega, mcalling (lay_ok hi ((⟨#[4]⟩ : ByteArray) ++ textF key ++ (⟨#[0]⟩ : ByteArray)) _ 4 hhi (by rw [ByteArray.size_append, ByteArray.size_append, tk]; show 1 + (1 + key.size) + 1 ≤ _; omega) ?_) ?_⟩
      · simp (maxSteps := 4000000) only [go_sem, ↓reduceIte, reduceCtorEq, Nat.reduceEqDiff, Nat.reduceBEq, Nat.reduceAdd, Nat.reduceSub, Nat.reduceMul, Nat.reduceLT, Nat.reduceLeDiff, Nat.reduceBNe, Int.reduceBEq, Int.reduceBNe, Int.reduceLT, Int.reduceLE, Opr.a, Spn.a, nul, s1]
      simp (maxSteps := 4000000) only [go_sem, ↓reduceIte, reduceCtorEq, Nat.reduceEqDiff, Nat.reduceBEq, Nat.reduceAdd, Nat.reduceSub, Nat.reduceMul, Nat.reduceLT, Nat.reduceLeDiff, Nat.reduceBNe, Int.reduceBEq, Int.reduceBNe, Int.reduceLT, Int.reduceLE, Opr.a, Spn.a, nul, s1]
      try omega
  · -- kind 5
    have hv : AFn Tryd.prog 44 [.agg [.int .i64 5, .str key, .str hi, .bool op, .str val, .int .i64 lim]] (.bool false) := valued_ok ⟨5, key, hi, op, val, lim⟩
    have hg : AFn Tryd.prog 45 [.agg [.int .i64 5, .str key, .str hi, .bool op, .str val, .int .i64 lim]] (.bool false) := ranged_ok ⟨5, key, hi, op, val, lim⟩
    have hR : AFn Tryd.prog 42 [.agg [.int .i64 5, .str key, .str hi, .bool op, .str val, .int .i64 lim]] (.int .i64 0) := by
      have := oRight_ok ⟨5, key, hi, op, val, lim⟩ (by show key.size ≤ _; omega)
      rw [hr] at this; exact this
    have hw : IntKind.u8.wrap 5 = 5 := by decide
    have hb : (AV.int .u8 5).byteB = true := by decide
    have ht : (AV.int .u8 5).toB = 5 := by decide
    have hl1 := fun H hq => lay_ok key (⟨#[5]⟩ : ByteArray) H 4 hkey (by show 1 ≤ 1000; omega) hq
    have z1 : ((⟨#[5]⟩ : ByteArray) ++ textF key).size = 1 + (1 + key.size) := by rw [ByteArray.size_append, textF_size]; rfl
    simp (maxSteps := 4000000) only [go_sem, ↓reduceIte, reduceCtorEq, Nat.reduceEqDiff, Nat.reduceBEq, Nat.reduceAdd, Nat.reduceSub, Nat.reduceMul, Nat.reduceLT, Nat.reduceLeDiff, Nat.reduceBNe, Int.reduceBEq, Int.reduceBNe, Int.reduceLT, Int.reduceLE, Opr.a, Spn.a, nul]
    (first | refine calling hR ?_ | refine callingH hR ?_)
    simp (maxSteps := 4000000) only [go_sem, ↓reduceIte, reduceCtorEq, Nat.reduceEqDiff, Nat.reduceBEq, Nat.reduceAdd, Nat.reduceSub, Nat.reduceMul, Nat.reduceLT, Nat.reduceLeDiff, Nat.reduceBNe, Int.reduceBEq, Int.reduceBNe, Int.reduceLT, Int.reduceLE, Opr.a, Spn.a, nul, hw, hb, ht]
    refine mcalling (hl1 _ ?_) ?_
    · simp (maxSteps := 4000000) only [go_sem, ↓reduceIte, reduceCtorEq, Nat.reduceEqDiff, Nat.reduceBEq, Nat.reduceAdd, Nat.reduceSub, Nat.reduceMul, Nat.reduceLT, Nat.reduceLeDiff, Nat.reduceBNe, Int.reduceBEq, Int.reduceBNe, Int.reduceLT, Int.reduceLE, Opr.a, Spn.a, nul, hw, hb, ht]
    simp (maxSteps := 4000000) only [go_sem, ↓reduceIte, reduceCtorEq, Nat.reduceEqDiff, Nat.reduceBEq, Nat.reduceAdd, Nat.reduceSub, Nat.reduceMul, Nat.reduceLT, Nat.reduceLeDiff, Nat.reduceBNe, Int.reduceBEq, Int.reduceBNe, Int.reduceLT, Int.reduceLE, Opr.a, Spn.a, nul]
    (first | refine calling hv ?_ | refine callingH hv ?_)
    simp (maxSteps := 4000000) only [go_sem, ↓reduceIte, reduceCtorEq, Nat.reduceEqDiff, Nat.reduceBEq, Nat.reduceAdd, Nat.reduceSub, Nat.reduceMul, Nat.reduceLT, Nat.reduceLeDiff, Nat.reduceBNe, Int.reduceBEq, Int.reduceBNe, Int.reduceLT, Int.reduceLE, Opr.a, Spn.a, nul]
    (first | refine calling hg ?_ | refine callingH hg ?_)
    simp (maxSteps := 4000000) only [go_sem, ↓reduceIte, reduceCtorEq, Nat.reduceEqDiff, Nat.reduceBEq, Nat.reduceAdd, Nat.reduceSub, Nat.reduceMul, Nat.reduceLT, Nat.reduceLeDiff, Nat.reduceBNe, Int.reduceBEq, Int.reduceBNe, Int.reduceLT, Int.reduceLE, Opr.a, Spn.a, nul]
    (first | refine calling hg ?_ | refine callingH hg ?_)
    simp (maxSteps := 4000000) only [go_sem, ↓reduceIte, reduceCtorEq, Nat.reduceEqDiff, Nat.reduceBEq, Nat.reduceAdd, Nat.reduceSub, Nat.reduceMul, Nat.reduceLT, Nat.reduceLeDiff, Nat.reduceBNe, Int.reduceBEq, Int.reduceBNe, Int.reduceLT, Int.reduceLE, Opr.a, Spn.a, nul]
    try rfl
  · -- kind 6
    have hv : AFn Tryd.prog 44 [.agg [.int .i64 6, .str key, .str hi, .bool op, .str val, .int .i64 lim]] (.bool false) := valued_ok ⟨6, key, hi, op, val, lim⟩
    have hg : AFn Tryd.prog 45 [.agg [.int .i64 6, .str key, .str hi, .bool op, .str val, .int .i64 lim]] (.bool true) := ranged_ok ⟨6, key, hi, op, val, lim⟩
    have hR : AFn Tryd.prog 42 [.agg [.int .i64 6, .str key, .str hi, .bool op, .str val, .int .i64 lim]] (.int .i64 0) := by
      have := oRight_ok ⟨6, key, hi, op, val, lim⟩ (by show key.size ≤ _; omega)
      rw [hr] at this; exact this
    have hw : IntKind.u8.wrap 6 = 6 := by decide
    have hb : (AV.int .u8 6).byteB = true := by decide
    have ht : (AV.int .u8 6).toB = 6 := by decide
    have hl1 := fun H hq => lay_ok key (⟨#[6]⟩ : ByteArray) H 4 hkey (by show 1 ≤ 1000; omega) hq
    have z1 : ((⟨#[6]⟩ : ByteArray) ++ textF key).size = 1 + (1 + key.size) := by rw [ByteArray.size_append, textF_size]; rfl
    simp (maxSteps := 4000000) only [go_sem, ↓reduceIte, reduceCtorEq, Nat.reduceEqDiff, Nat.reduceBEq, Nat.reduceAdd, Nat.reduceSub, Nat.reduceMul, Nat.reduceLT, Nat.reduceLeDiff, Nat.reduceBNe, Int.reduceBEq, Int.reduceBNe, Int.reduceLT, Int.reduceLE, Opr.a, Spn.a, nul]
    (first | refine calling hR ?_ | refine callingH hR ?_)
    simp (maxSteps := 4000000) only [go_sem, ↓reduceIte, reduceCtorEq, Nat.reduceEqDiff, Nat.reduceBEq, Nat.reduceAdd, Nat.reduceSub, Nat.reduceMul, Nat.reduceLT, Nat.reduceLeDiff, Nat.reduceBNe, Int.reduceBEq, Int.reduceBNe, Int.reduceLT, Int.reduceLE, Opr.a, Spn.a, nul, hw, hb, ht]
    refine mcalling (hl1 _ ?_) ?_
    · simp (maxSteps := 4000000) only [go_sem, ↓reduceIte, reduceCtorEq, Nat.reduceEqDiff, Nat.reduceBEq, Nat.reduceAdd, Nat.reduceSub, Nat.reduceMul, Nat.reduceLT, Nat.reduceLeDiff, Nat.reduceBNe, Int.reduceBEq, Int.reduceBNe, Int.reduceLT, Int.reduceLE, Opr.a, Spn.a, nul, hw, hb, ht]
    simp (maxSteps := 4000000) only [go_sem, ↓reduceIte, reduceCtorEq, Nat.reduceEqDiff, Nat.reduceBEq, Nat.reduceAdd, Nat.reduceSub, Nat.reduceMul, Nat.reduceLT, Nat.reduceLeDiff, Nat.reduceBNe, Int.reduceBEq, Int.reduceBNe, Int.reduceLT, Int.reduceLE, Opr.a, Spn.a, nul]
    (first | refine calling hv ?_ | refine callingH hv ?_)
    simp (maxSteps := 4000000) only [go_sem, ↓reduceIte, reduceCtorEq, Nat.reduceEqDiff, Nat.reduceBEq, Nat.reduceAdd, Nat.reduceSub, Nat.reduceMul, Nat.reduceLT, Nat.reduceLeDiff, Nat.reduceBNe, Int.reduceBEq, Int.reduceBNe, Int.reduceLT, Int.reduceLE, Opr.a, Spn.a, nul]
    (first | refine calling hg ?_ | refine callingH hg ?_)
    have l12 : 1 ≤ lim ∧ lim ≤ 64 := by simpa using p4
    have w6 : IntKind.u8.wrap lim = lim := wrap_lim lim (by omega) (by omega)
    have b6 : (AV.int .u8 lim).byteB = true := byteB_lim lim (by omega) (by omega)
    have t6 : (AV.int .u8 lim).toB = UInt8.ofNat lim.toNat := rfl
    have s1 : ∀ x : UInt8, #[x].size = 1 := fun _ => rfl
    have tk := textF_size key
    have tv := textF_size hi
    cases op with
    | true =>
      rw [show bytesO ⟨6, key, hi, true, val, lim⟩ = (⟨#[6]⟩ : ByteArray) ++ textF key ++ (⟨#[1]⟩ : ByteArray) ++ (⟨#[UInt8.ofNat lim.toNat]⟩ : ByteArray) from rfl]
      simp (maxSteps := 4000000) only [go_sem, ↓reduceIte, reduceCtorEq, Nat.reduceEqDiff, Nat.reduceBEq, Nat.reduceAdd, Nat.reduceSub, Nat.reduceMul, Nat.reduceLT, Nat.reduceLeDiff, Nat.reduceBNe, Int.reduceBEq, Int.reduceBNe, Int.reduceLT, Int.reduceLE, Opr.a, Spn.a, nul, w6, b6, t6, s1]
      try (refine ⟨?_, ?_⟩ <;> omega)
      try omega
    | false =>
      rw [show bytesO ⟨6, key, hi, false, val, lim⟩ = (⟨#[6]⟩ : ByteArray) ++ textF key ++ (⟨#[0]⟩ : ByteArray) ++ textF hi ++ (⟨#[UInt8.ofNat lim.toNat]⟩ : ByteArray) by
        show _ ++ (_ ++ _) ++ _ = _; rw [← ba_assoc]; rfl]
      simp (maxSteps := 4000000) only [go_sem, ↓reduceIte, reduceCtorEq, Nat.reduceEqDiff, Nat.reduceBEq, Nat.reduceAdd, Nat.reduceSub, Nat.reduceMul, Nat.reduceLT, Nat.reduceLeDiff, Nat.reduceBNe, Int.reduceBEq, Int.reduceBNe, Int.reduceLT, Int.reduceLE, Opr.a, Spn.a, nul]
      (first | refine calling hg ?_ | refine callingH hg ?_)
      simp (maxSteps := 4000000) only [go_sem, ↓reduceIte, reduceCtorEq, Nat.reduceEqDiff, Nat.reduceBEq, Nat.reduceAdd, Nat.reduceSub, Nat.reduceMul, Nat.reduceLT, Nat.reduceLeDiff, Nat.reduceBNe, Int.reduceBEq, Int.reduceBNe, Int.reduceLT, Int.reduceLE, Opr.a, Spn.a, nul, s1]
      refine ⟨by omega, mcalling (lay_ok hi ((⟨#[6]⟩ : ByteArray) ++ textF key ++ (⟨#[0]⟩ : ByteArray)) _ 4 hhi (by rw [ByteArray.size_append, ByteArray.size_append, tk]; show 1 + (1 + key.size) + 1 ≤ _; omega) ?_) ?_⟩
      · simp (maxSteps := 4000000) only [go_sem, ↓reduceIte, reduceCtorEq, Nat.reduceEqDiff, Nat.reduceBEq, Nat.reduceAdd, Nat.reduceSub, Nat.reduceMul, Nat.reduceLT, Nat.reduceLeDiff, Nat.reduceBNe, Int.reduceBEq, Int.reduceBNe, Int.reduceLT, Int.reduceLE, Opr.a, Spn.a, nul, s1]
      simp (maxSteps := 4000000) only [go_sem, ↓reduceIte, reduceCtorEq, Nat.reduceEqDiff, Nat.reduceBEq, Nat.reduceAdd, Nat.reduceSub, Nat.reduceMul, Nat.reduceLT, Nat.reduceLeDiff, Nat.reduceBNe, Int.reduceBEq, Int.reduceBNe, Int.reduceLT, Int.reduceLE, Opr.a, Spn.a, nul, w6, b6, t6, s1]
      try omega

end Go.Proofs.YtgpoglaojklfbaaDoor
