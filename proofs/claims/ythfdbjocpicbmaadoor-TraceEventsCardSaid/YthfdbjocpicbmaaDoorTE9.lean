/-
  Part 9 of a proof: PkQ, PkS, KeyPure, PkM.
-/
import GoSem.Op.String
import Derived.Test.YthfdbjocpicbmaaDoorTE8
namespace Go.Proofs.YthfdbjocpicbmaaDoor
attribute [local go_sem] ev0 ev1 ev2 ev3 ev4 evA stHOk.eq_1 stHOk.eq_2 stHSt.eq_1 stHSt.eq_2 okV valV fzV okF valF okBld valBld mxOk.eq_1 mxOk.eq_2 mxVal.eq_1 mxVal.eq_2 cellFit.eq_1 cellFit.eq_2 cellFit.eq_3 cellEq.eq_1 cellEq.eq_2 cellEq.eq_3 upd_at AV.flatB AV.flatBs binIok binIV binSok binSV cellsOk.eq_1 cellsOk.eq_2 cellsVal.eq_1 cellsVal.eq_2 objCells.eq_1 objCells.eq_2 objZ.eq_1 objZ.eq_2 objProt.eq_1 objProt.eq_2 oneObj ptrOk.eq_1 ptrOk.eq_2 ptrOk.eq_3 ptrCells.eq_1 ptrCells.eq_2 ptrCells.eq_3 lenOk.eq_1 lenOk.eq_2 lenOk.eq_3 lenOk.eq_4 lenVal.eq_1 lenVal.eq_2 lenVal.eq_3 lenVal.eq_4 faOk.eq_1 faOk.eq_2 faOk.eq_3 faVal.eq_1 faVal.eq_2 faVal.eq_3 iaOk.eq_1 iaOk.eq_2 iaOk.eq_3 iaVal.eq_1 iaVal.eq_2 iaVal.eq_3 slcLen.eq_1 slcLen.eq_2 slcLen.eq_3 slcLen.eq_4 bdOk.eq_1 bdOk.eq_2 bdVal.eq_1 bdVal.eq_2 slcOk.eq_1 slcOk.eq_2 slcOk.eq_3 slcOk.eq_4 slcVal.eq_1 slcVal.eq_2 slcVal.eq_3 slcVal.eq_4 slcFz.eq_1 slcFz.eq_2 byOk.eq_1 byOk.eq_2 byOk.eq_3 byOk.eq_4 byOk.eq_5 byOk.eq_6 byOk.eq_7 byOk.eq_8 byVal.eq_1 byVal.eq_2 byVal.eq_3 byFz.eq_1 byFz.eq_2 byFz.eq_3 byOks byVals byFzs allOne resSt.eq_1 resSt.eq_2 resName.eq_1 resName.eq_2 stOk.eq_1 stOk.eq_2 stArr.eq_1 stArr.eq_2 stSt.eq_1 stSt.eq_2 AV.patch nameOk_none gB.eq_1 gB.eq_2 gB.eq_3 gIs.eq_1 gIs.eq_2 gIs.eq_3 retV resV resVs evalV cellsV St.byval List.getD_cons_zero List.getD_cons_succ List.getD_nil List.map_cons List.map_nil List.length_cons List.length_nil List.take_succ_cons List.take_zero List.drop_succ_cons List.drop_zero List.headD_cons List.set_cons_zero List.append_nil List.nil_append List.cons_append List.contains_cons List.contains_nil List.elem_cons List.elem_nil List.all_cons List.all_nil List.getElem?_cons_zero List.getElem?_cons_succ List.filterMap_cons List.filterMap_nil Option.isSome_some Option.isSome_none Option.map_some Option.map_none Option.some.injEq AV.int.injEq AV.bool.injEq AV.str.injEq AV.tup.injEq AV.agg.injEq AV.sl.injEq List.cons.injEq Bool.false_eq_true Bool.true_eq_false Bool.not_true Bool.not_false Bool.and_true Bool.true_and Bool.or_false Bool.or_true Bool.false_or Bool.true_or Bool.or_self Bool.and_self Bool.not_eq_true' Bool.not_eq_false' Bool.not_not beq_self_eq_true true_and and_true false_and and_false and_self not_true_eq_false not_false_eq_true forall_const true_implies false_implies implies_true imp_self Nat.lt_add_one Nat.le_refl Nat.zero_le Nat.add_zero Nat.zero_add decide_true decide_false decide_eq_true_eq decide_eq_false_iff_not exists_eq_left exists_eq_left' ge_iff_le gt_iff_lt ite_branch ite_branch' nilOk.eq_1 nilOk.eq_2 nilMay.eq_1 nilMay.eq_2 AV.isSl.eq_1 objTy'.eq_1 objTy'.eq_2 apSt.eq_1 apArr.eq_1 apArr.eq_2 slOf.eq_1 fitsV List.mem_cons List.not_mem_nil Bool.false_and Bool.and_false primOk.eq_1 primOk.eq_2 primOk.eq_3 primOk.eq_4 primOk.eq_5 primVal.eq_1 primVal.eq_2 primVal.eq_3 primVal.eq_4 primVal.eq_5 mOk.eq_1 mOk.eq_2 mVal.eq_1 mVal.eq_2 mFz.eq_1 mFz.eq_2 mOks mVals mFzs mCalOk.eq_1 mCalOk.eq_2 mFn.eq_1 mFn.eq_2 mArgs.eq_1 mArgs.eq_2 ckOk.eq_1 ckOk.eq_2 cloOk.eq_1 ptrAt.eq_1 sh.eq_1 sh.eq_2 sh.eq_3 sh.eq_4 sh.eq_5 sh.eq_6 retM shH_small evM entOk.eq_1 entOk.eq_2 ents.eq_1 ents.eq_2 kI.eq_1 mpOk.eq_1 mpR.eq_1 lkV.eq_1 lkV.eq_2 remp.eq_2 evP pvOk.eq_1 pvOk.eq_2 pvVal.eq_1 pvVal.eq_2 plOk.eq_1 plOk.eq_2 plV.eq_1 plV.eq_2 plF.eq_1 plF.eq_2 plVal.eq_1 plVal.eq_2 plFz.eq_1 plFz.eq_2 lpOk.eq_1 lpOk.eq_2 lpVal.eq_1 lpVal.eq_2 lpFz.eq_1 lpFz.eq_2 stpOk.eq_1 stpOk.eq_2 stpSt.eq_1 stpSt.eq_2 stpArr.eq_1
section
/-
  Layer 7 on the plain machine: an operation as a line: the code, walked.
-/
open Go.RowKit
set_option linter.unusedVariables false
set_option linter.unusedSimpArgs false
set_option maxRecDepth 100000
attribute [local go_sem ↓] runOp headOp
def kindW (k : Int) : ByteArray := if k == 1 then ⟨#[112, 117, 116]⟩ else if k == 2 then ⟨#[97, 100, 100]⟩ else if k == 3 then ⟨#[100, 101, 108]⟩ else if k == 4 then ⟨#[119, 105, 112, 101]⟩ else if k == 5 then ⟨#[103, 101, 116]⟩ else ⟨#[115, 99, 97, 110]⟩
/-- the words of an operation that may be -/
def lineW (o : Opr) : List ByteArray :=
  [kindW o.kind, quoteF o.key] ++ (if o.valued then [quoteF o.val] else if o.ranged then (if o.op then [⟨#[42]⟩] else [quoteF o.hi]) else []) ++ (if o.kind == 6 then [decS o.lim] else [])
def lineO (o : Opr) : ByteArray := joinB (lineW o) ⟨#[32]⟩
/-! ### percolate/op.names -/
def r_oNames_0 : Reg := ⟨[], [⟨(.mknil 1 9), (some 0), none, [], []⟩], [0], [], false⟩
def t_oNames_1 : List ROp := [⟨(.bsl 1 9 [(.c (.str ⟨#[98, 97, 100]⟩)), (.c (.str ⟨#[112, 117, 116]⟩)), (.c (.str ⟨#[97, 100, 100]⟩)), (.c (.str ⟨#[100, 101, 108]⟩)), (.c (.str ⟨#[119, 105, 112, 101]⟩)), (.c (.str ⟨#[103, 101, 116]⟩)), (.c (.str ⟨#[115, 99, 97, 110]⟩))]), (some 1), none, [], []⟩, ⟨(.mv (.t 1)), (some 0), none, [], []⟩]
def r_oNames_1 : Reg := ⟨[], t_oNames_1, [1], [], false⟩
def ir_oNames : IR := (.seq (.reg r_oNames_0)
  (.seq (.reg r_oNames_1)
  .ret))
def res_oNames : List RDesc := [(.tmp 0)]
theorem e_oNames_0 (C : FuncId → List AV → AV → Prop) (σ : St) (K : St → Prop) : runReg C r_oNames_0 σ K = runOps C [⟨(.mknil 1 9), (some 0), none, [], []⟩] (σ.kills [0]) K := rfl
theorem e_oNames_1 (C : FuncId → List AV → AV → Prop) (σ : St) (K : St → Prop) : runReg C r_oNames_1 σ K = runOps C t_oNames_1 (σ.kills [1]) K := rfl
theorem fn_oNames {args : List AV} {r : AV} (ha : args.length.ble Tryd.f92.ntmps = true) (h : run (AFn Tryd.prog) ir_oNames (endQ res_oNames r) (initSt args)) : AFn Tryd.prog 92 args r :=
  AFn.of_code (pv := false) (hint := fun _ => []) (c := Tryd.f92.body.getD .skip) (by kernel_rfl) (by kernel_rfl) Tryd.func92 (by kernel_rfl) (by kernel_rfl) (by kernel_rfl) (of_decide_eq_true (by kernel_rfl)) (Nat.le_of_ble_eq_true ha) (Nat.le_of_ble_eq_true (by kernel_rfl)) (run_ok h)
/-! ### percolate/op.Line -/
def r_oLine_0 : Reg := ⟨[], [⟨(.box 6 43 (.t 0)), (some 1), none, [], []⟩, ⟨(.mv (.c (.str ⟨#[]⟩))), (some 2), none, [], []⟩], [1], [], false⟩
def t_oLine_1 : List ROp := [⟨(.load 6 true (.t 1)), (some 4), none, [5], []⟩, ⟨(.callv (.c (.clo 91 [] [])) [(.t 4)]), (some 5), none, [], []⟩, ⟨(.bin .neq (.t 5) (.c (.int .i64 0))), (some 6), none, [], []⟩]
def r_oLine_1 : Reg := ⟨[], t_oLine_1, [5], [], false⟩
def r_oLine_2 : Reg := ⟨[], [⟨(.mv (.c (.str ⟨#[98, 97, 100]⟩))), (some 2), none, [], []⟩], [], [], false⟩
def h_oLine_3 : List ROp := [⟨(.callv (.c (.clo 92 [] [])) []), (some 7), none, [14, 15], []⟩, ⟨(.faddr 0 (.t 1)), (some 8), none, [7, 14, 15], []⟩, ⟨(.load 1 false (.t 8)), (some 9), none, [7, 14, 15], []⟩, ⟨(.iaddr 1 (.t 7) (.t 9)), (some 10), none, [14, 15], []⟩, ⟨(.load 1 false (.t 10)), (some 11), none, [14, 15], []⟩, ⟨(.faddr 1 (.t 1)), (some 12), none, [7, 14, 15], []⟩, ⟨(.load 1 false (.t 12)), (some 13), none, [7, 14, 15], []⟩, ⟨(.callv (.c (.clo 70 [] [])) [(.t 13)]), (some 14), none, [15], []⟩]
def r_oLine_3 : Reg := ⟨h_oLine_3, [⟨(.bsl 1 9 [(.t 11), (.t 14)]), (some 15), none, [], []⟩, ⟨(.mv (.t 15)), (some 3), none, [], []⟩], [7, 14, 15], [], true⟩
def t_oLine_4 : List ROp := [⟨(.load 6 true (.t 1)), (some 17), none, [18], []⟩, ⟨(.callv (.c (.clo 93 [] [])) [(.t 17)]), (some 18), none, [], []⟩, ⟨(.mv (.t 18)), (some 16), none, [], []⟩]
def r_oLine_4 : Reg := ⟨[], t_oLine_4, [18], [], false⟩
def t_oLine_5 : List ROp := [⟨(.mv (.t 3)), (some 19), none, [22, 23], []⟩, ⟨(.faddr 4 (.t 1)), (some 20), none, [22, 23], []⟩, ⟨(.load 1 false (.t 20)), (some 21), none, [22, 23], []⟩, ⟨(.callv (.c (.clo 70 [] [])) [(.t 21)]), (some 22), none, [23], []⟩, ⟨(.bsl 1 9 [(.t 22)]), (some 23), none, [], []⟩, ⟨(.append 1 9 16 (.t 19) (.t 23)), (some 24), none, [], []⟩, ⟨(.mv (.t 24)), (some 3), none, [], []⟩]
def r_oLine_5 : Reg := ⟨[], t_oLine_5, [22, 23], [], false⟩
def t_oLine_6 : List ROp := [⟨(.load 6 true (.t 1)), (some 26), none, [27], []⟩, ⟨(.callv (.c (.clo 94 [] [])) [(.t 26)]), (some 27), none, [], []⟩, ⟨(.mv (.t 27)), (some 28), none, [], []⟩, ⟨(.faddr 3 (.t 1)), (some 29), (some (28, true)), [], []⟩, ⟨(.load 1 false (.t 29)), (some 30), (some (28, true)), [], []⟩, ⟨(.pick (.t 28) (.t 30) (.c (.bool false))), (some 31), none, [], []⟩, ⟨(.mv (.t 31)), (some 25), none, [], []⟩]
def r_oLine_6 : Reg := ⟨[], t_oLine_6, [27], [], false⟩
def t_oLine_7 : List ROp := [⟨(.mv (.t 3)), (some 32), none, [33], []⟩, ⟨(.bsl 1 9 [(.c (.str ⟨#[42]⟩))]), (some 33), none, [], []⟩, ⟨(.append 1 9 16 (.t 32) (.t 33)), (some 34), none, [], []⟩, ⟨(.mv (.t 34)), (some 3), none, [], []⟩]
def r_oLine_7 : Reg := ⟨[], t_oLine_7, [33], [], false⟩
def t_oLine_8 : List ROp := [⟨(.load 6 true (.t 1)), (some 36), none, [37], []⟩, ⟨(.callv (.c (.clo 94 [] [])) [(.t 36)]), (some 37), none, [], []⟩, ⟨(.mv (.t 37)), (some 35), none, [], []⟩]
def r_oLine_8 : Reg := ⟨[], t_oLine_8, [37], [], false⟩
def t_oLine_9 : List ROp := [⟨(.mv (.t 3)), (some 38), none, [41, 42], []⟩, ⟨(.faddr 2 (.t 1)), (some 39), none, [41, 42], []⟩, ⟨(.load 1 false (.t 39)), (some 40), none, [41, 42], []⟩, ⟨(.callv (.c (.clo 70 [] [])) [(.t 40)]), (some 41), none, [42], []⟩, ⟨(.bsl 1 9 [(.t 41)]), (some 42), none, [], []⟩, ⟨(.append 1 9 16 (.t 38) (.t 42)), (some 43), none, [], []⟩, ⟨(.mv (.t 43)), (some 3), none, [], []⟩]
def r_oLine_9 : Reg := ⟨[], t_oLine_9, [41, 42], [], false⟩
def t_oLine_10 : List ROp := [⟨(.faddr 0 (.t 1)), (some 44), none, [], []⟩, ⟨(.load 1 false (.t 44)), (some 45), none, [], []⟩, ⟨(.bin .eql (.t 45) (.c (.int .i64 6))), (some 46), none, [], []⟩]
def r_oLine_10 : Reg := ⟨[], t_oLine_10, [], [], false⟩
def t_oLine_11 : List ROp := [⟨(.mv (.t 3)), (some 47), none, [50, 51], []⟩, ⟨(.faddr 5 (.t 1)), (some 48), none, [50, 51], []⟩, ⟨(.load 1 false (.t 48)), (some 49), none, [50, 51], []⟩, ⟨(.callv (.c (.clo 46 [] [])) [(.t 49)]), (some 50), none, [51], []⟩, ⟨(.bsl 1 9 [(.t 50)]), (some 51), none, [], []⟩, ⟨(.append 1 9 16 (.t 47) (.t 51)), (some 52), none, [], []⟩, ⟨(.mv (.t 52)), (some 3), none, [], []⟩]
def r_oLine_11 : Reg := ⟨[], t_oLine_11, [50, 51], [], false⟩
def t_oLine_12 : List ROp := [⟨(.mv (.t 3)), (some 53), none, [54], []⟩, ⟨(.callv (.c (.clo 47 [] [])) [(.t 53), (.c (.str ⟨#[32]⟩))]), (some 54), none, [], []⟩, ⟨(.mv (.t 54)), (some 2), none, [], []⟩]
def r_oLine_12 : Reg := ⟨[], t_oLine_12, [54], [], false⟩
def ir_oLine : IR := (.seq (.reg r_oLine_0)
  (.seq (.seq (.reg r_oLine_1)
  (.cond (.t 6) (.seq (.reg r_oLine_2)
  .ret)
  .skip))
  (.seq (.reg r_oLine_3)
  (.seq (.block 0 (.seq (.reg r_oLine_4)
  (.cond (.t 16) (.reg r_oLine_5)
  (.seq (.reg r_oLine_6)
  (.cond (.t 25) (.reg r_oLine_7)
  (.seq (.reg r_oLine_8)
  (.cond (.t 35) (.reg r_oLine_9)
  .skip)))))))
  (.seq (.seq (.reg r_oLine_10)
  (.cond (.t 46) (.reg r_oLine_11)
  .skip))
  (.seq (.reg r_oLine_12)
  .ret))))))
def res_oLine : List RDesc := [(.tmp 2)]
theorem e_oLine_0 (C : FuncId → List AV → AV → Prop) (σ : St) (K : St → Prop) : runReg C r_oLine_0 σ K = runOps C [⟨(.box 6 43 (.t 0)), (some 1), none, [], []⟩, ⟨(.mv (.c (.str ⟨#[]⟩))), (some 2), none, [], []⟩] (σ.kills [1]) K := rfl
theorem e_oLine_1 (C : FuncId → List AV → AV → Prop) (σ : St) (K : St → Prop) : runReg C r_oLine_1 σ K = runOps C t_oLine_1 (σ.kills [5]) K := rfl
theorem e_oLine_2 (C : FuncId → List AV → AV → Prop) (σ : St) (K : St → Prop) : runReg C r_oLine_2 σ K = runOps C [⟨(.mv (.c (.str ⟨#[98, 97, 100]⟩))), (some 2), none, [], []⟩] (σ.kills []) K := rfl
theorem e_oLine_3 (C : FuncId → List AV → AV → Prop) (σ : St) (K : St → Prop) : runReg C r_oLine_3 σ K = runHead C [] [⟨(.bsl 1 9 [(.t 11), (.t 14)]), (some 15), none, [], []⟩, ⟨(.mv (.t 15)), (some 3), none, [], []⟩] h_oLine_3 (σ.kills [7, 14, 15]) K := rfl
theorem e_oLine_4 (C : FuncId → List AV → AV → Prop) (σ : St) (K : St → Prop) : runReg C r_oLine_4 σ K = runOps C t_oLine_4 (σ.kills [18]) K := rfl
theorem e_oLine_5 (C : FuncId → List AV → AV → Prop) (σ : St) (K : St → Prop) : runReg C r_oLine_5 σ K = runOps C t_oLine_5 (σ.kills [22, 23]) K := rfl
theorem e_oLine_6 (C : FuncId → List AV → AV → Prop) (σ : St) (K : St → Prop) : runReg C r_oLine_6 σ K = runOps C t_oLine_6 (σ.kills [27]) K := rfl
theorem e_oLine_7 (C : FuncId → List AV → AV → Prop) (σ : St) (K : St → Prop) : runReg C r_oLine_7 σ K = runOps C t_oLine_7 (σ.kills [33]) K := rfl
theorem e_oLine_8 (C : FuncId → List AV → AV → Prop) (σ : St) (K : St → Prop) : runReg C r_oLine_8 σ K = runOps C t_oLine_8 (σ.kills [37]) K := rfl
theorem e_oLine_9 (C : FuncId → List AV → AV → Prop) (σ : St) (K : St → Prop) : runReg C r_oLine_9 σ K = runOps C t_oLine_9 (σ.kills [41, 42]) K := rfl
theorem e_oLine_10 (C : FuncId → List AV → AV → Prop) (σ : St) (K : St → Prop) : runReg C r_oLine_10 σ K = runOps C t_oLine_10 (σ.kills []) K := rfl
theorem e_oLine_11 (C : FuncId → List AV → AV → Prop) (σ : St) (K : St → Prop) : runReg C r_oLine_11 σ K = runOps C t_oLine_11 (σ.kills [50, 51]) K := rfl
theorem e_oLine_12 (C : FuncId → List AV → AV → Prop) (σ : St) (K : St → Prop) : runReg C r_oLine_12 σ K = runOps C t_oLine_12 (σ.kills [54]) K := rfl
theorem fn_oLine {args : List AV} {r : AV} (ha : args.length.ble Tryd.f54.ntmps = true) (h : run (AFn Tryd.prog) ir_oLine (endQ res_oLine r) (initSt args)) : AFn Tryd.prog 54 args r :=
  AFn.of_code (pv := false) (hint := fun _ => []) (c := Tryd.f54.body.getD .skip) (by kernel_rfl) (by kernel_rfl) Tryd.func54 (by kernel_rfl) (by kernel_rfl) (by kernel_rfl) (of_decide_eq_true (by kernel_rfl)) (Nat.le_of_ble_eq_true ha) (Nat.le_of_ble_eq_true (by kernel_rfl)) (run_ok h)
attribute [local go_sem ↓] ir_oNames
attribute [local go_sem] res_oNames e_oNames_0 e_oNames_1 t_oNames_1
attribute [local go_sem ↓] ir_oLine
attribute [local go_sem] res_oLine e_oLine_0 e_oLine_1 t_oLine_1 e_oLine_2 e_oLine_3 h_oLine_3 e_oLine_4 t_oLine_4 e_oLine_5 t_oLine_5 e_oLine_6 t_oLine_6 e_oLine_7 t_oLine_7 e_oLine_8 t_oLine_8 e_oLine_9 t_oLine_9 e_oLine_10 t_oLine_10 e_oLine_11 t_oLine_11 e_oLine_12 t_oLine_12
theorem oNames_ok : AFn Tryd.prog 92 [] (.own 1 9 [.str ⟨#[98, 97, 100]⟩, .str ⟨#[112, 117, 116]⟩, .str ⟨#[97, 100, 100]⟩, .str ⟨#[100, 101, 108]⟩, .str ⟨#[119, 105, 112, 101]⟩, .str ⟨#[103, 101, 116]⟩, .str ⟨#[115, 99, 97, 110]⟩]) := by
  refine fn_oNames rfl ?_
  simp (maxSteps := 4000000) only [go_sem, ↓reduceIte, reduceCtorEq, Nat.reduceEqDiff, Nat.reduceBEq, Nat.reduceAdd, Nat.reduceSub, Nat.reduceMul, Nat.reduceLT, Nat.reduceLeDiff, Nat.reduceBNe, Int.reduceBEq, Int.reduceBNe, Int.reduceLT, Int.reduceLE, Opr.a, Spn.a, nul]
theorem oLine_no (o : Opr) (h : o.key.size ≤ 9000000000) (hr : o.right = false) : AFn Tryd.prog 54 [o.a] (.str ⟨#[98, 97, 100]⟩) := by
  refine fn_oLine rfl ?_
  have hR := oRight_ok o h
  rw [hr] at hR
  simp (maxSteps := 4000000) only [go_sem, ↓reduceIte, reduceCtorEq, Nat.reduceEqDiff, Nat.reduceBEq, Nat.reduceAdd, Nat.reduceSub, Nat.reduceMul, Nat.reduceLT, Nat.reduceLeDiff, Nat.reduceBNe, Int.reduceBEq, Int.reduceBNe, Int.reduceLT, Int.reduceLE, Opr.a, Spn.a, nul]
  (first | refine calling hR ?_ | refine callingH hR ?_)
  simp (maxSteps := 4000000) only [go_sem, ↓reduceIte, reduceCtorEq, Nat.reduceEqDiff, Nat.reduceBEq, Nat.reduceAdd, Nat.reduceSub, Nat.reduceMul, Nat.reduceLT, Nat.reduceLeDiff, Nat.reduceBNe, Int.reduceBEq, Int.reduceBNe, Int.reduceLT, Int.reduceLE, Opr.a, Spn.a, nul]
set_option maxHeartbeats 4000000 in
theorem oLine_ok (o : Opr) (hr : o.right = true) : AFn Tryd.prog 54 [o.a] (.str (lineO o)) := by
  refine fn_oLine rfl ?_
  obtain ⟨hk1, hk6, hkey, hhi, hval, p1, p2, p3, p4⟩ := right_parts hr
  obtain ⟨kind, key, hi, op, val, lim⟩ := o
  simp only at hk1 hk6 hkey hhi hval p1 p2 p3 p4
  have q1 := quoteF_size key
  have q2 := quoteF_size hi
  have q3 := quoteF_size val
  have s3 : ∀ a b c : UInt8, (⟨#[a, b, c]⟩ : ByteArray).size = 3 := fun _ _ _ => rfl
  have s4 : ∀ a b c d : UInt8, (⟨#[a, b, c, d]⟩ : ByteArray).size = 4 := fun _ _ _ _ => rfl
  have s1 : ∀ a : UInt8, (⟨#[a]⟩ : ByteArray).size = 1 := fun _ => rfl
  have sd : lim ≤ 64 → 1 ≤ lim → (decS lim).size ≤ 1000 := fun h1 h2 => by
    have := Lib.itoa_length_le lim (by omega) (by omega)
    rw [decS_size]; omega
  have hk : kind = 1 ∨ kind = 2 ∨ kind = 3 ∨ kind = 4 ∨ kind = 5 ∨ kind = 6 := by omega
  rcases hk with rfl | rfl | rfl | rfl | rfl | rfl
  · -- kind 1
    have hv : AFn Tryd.prog 93 [.agg [.int .i64 1, .str key, .str hi, .bool op, .str val, .int .i64 lim]] (.bool true) := valued_ok ⟨1, key, hi, op, val, lim⟩
    have hg : AFn Tryd.prog 94 [.agg [.int .i64 1, .str key, .str hi, .bool op, .str val, .int .i64 lim]] (.bool false) := ranged_ok ⟨1, key, hi, op, val, lim⟩
    have hR : AFn Tryd.prog 91 [.agg [.int .i64 1, .str key, .str hi, .bool op, .str val, .int .i64 lim]] (.int .i64 0) := by
      have := oRight_ok ⟨1, key, hi, op, val, lim⟩ (by show key.size ≤ _; omega)
      rw [hr] at this; exact this
    have tn : Int.toNat 1 = 1 := rfl
    have hj := join_ok [(⟨#[112, 117, 116]⟩ : ByteArray), quoteF key, quoteF val] ⟨#[32]⟩ (by simp) (joined_small _ (by simp) (by simp [s1, s3, s4]; omega))
    rw [show lineO ⟨1, key, hi, op, val, lim⟩ = joinB [(⟨#[112, 117, 116]⟩ : ByteArray), quoteF key, quoteF val] ⟨#[32]⟩ from rfl]
    (repeat (first | simp (maxSteps := 4000000) only [go_sem, ↓reduceIte, reduceCtorEq, Nat.reduceEqDiff, Nat.reduceBEq, Nat.reduceAdd, Nat.reduceSub, Nat.reduceMul, Nat.reduceLT, Nat.reduceLeDiff, Nat.reduceBNe, Int.reduceBEq, Int.reduceBNe, Int.reduceLT, Int.reduceLE, Opr.a, Spn.a, nul, tn] | refine calling (hR) ?_ | refine callingH (hR) ?_ | refine calling (hv) ?_ | refine callingH (hv) ?_ | refine calling (hg) ?_ | refine callingH (hg) ?_ | refine calling (oNames_ok) ?_ | refine callingH (oNames_ok) ?_ | refine calling (quote_ok key (by omega)) ?_ | refine callingH (quote_ok key (by omega)) ?_ | refine calling (quote_ok val (by omega)) ?_ | refine callingH (quote_ok val (by omega)) ?_ | refine calling (quote_ok hi (by omega)) ?_ | refine callingH (quote_ok hi (by omega)) ?_ | refine calling (hj) ?_ | refine callingH (hj) ?_ | refine And.intro (by omega) ?_ | refine And.intro (fun d hd => by (repeat (rcases hd with rfl | hd; · exact ⟨rfl, rfl⟩)); cases hd) ?_))
  · -- kind 2
    have hv : AFn Tryd.prog 93 [.agg [.int .i64 2, .str key, .str hi, .bool op, .str val, .int .i64 lim]] (.bool true) := valued_ok ⟨2, key, hi, op, val, lim⟩
    have hg : AFn Tryd.prog 94 [.agg [.int .i64 2, .str key, .str hi, .bool op, .str val, .int .i64 lim]] (.bool false) := ranged_ok ⟨2, key, hi, op, val, lim⟩
    have hR : AFn Tryd.prog 91 [.agg [.int .i64 2, .str key, .str hi, .bool op, .str val, .int .i64 lim]] (.int .i64 0) := by
      have := oRight_ok ⟨2, key, hi, op, val, lim⟩ (by show key.size ≤ _; omega)
      rw [hr] at this; exact this
    have tn : Int.toNat 2 = 2 := rfl
    have hj := join_ok [(⟨#[97, 100, 100]⟩ : ByteArray), quoteF key, quoteF val] ⟨#[32]⟩ (by simp) (joined_small _ (by simp) (by simp [s1, s3, s4]; omega))
    rw [show lineO ⟨2, key, hi, op, val, lim⟩ = joinB [(⟨#[97, 100, 100]⟩ : ByteArray), quoteF key, quoteF val] ⟨#[32]⟩ from rfl]
    (repeat (first | simp (maxSteps := 4000000) only [go_sem, ↓reduceIte, reduceCtorEq, Nat.reduceEqDiff, Nat.reduceBEq, Nat.reduceAdd, Nat.reduceSub, Nat.reduceMul, Nat.reduceLT, Nat.reduceLeDiff, Nat.reduceBNe, Int.reduceBEq, Int.reduceBNe, Int.reduceLT, Int.reduceLE, Opr.a, Spn.a, nul, tn] | refine calling (hR) ?_ | refine callingH (hR) ?_ | refine calling (hv) ?_ | refine callingH (hv) ?_ | refine calling (hg) ?_ | refine callingH (hg) ?_ | refine calling (oNames_ok) ?_ | refine callingH (oNames_ok) ?_ | refine calling (quote_ok key (by omega)) ?_ | refine callingH (quote_ok key (by omega)) ?_ | refine calling (quote_ok val (by omega)) ?_ | refine callingH (quote_ok val (by omega)) ?_ | refine calling (quote_ok hi (by omega)) ?_ | refine callingH (quote_ok hi (by omega)) ?_ | refine calling (hj) ?_ | refine callingH (hj) ?_ | refine And.intro (by omega) ?_ | refine And.intro (fun d hd => by (repeat (rcases hd with rfl | hd; · exact ⟨rfl, rfl⟩)); cases hd) ?_))
  · -- kind 3
    have hv : AFn Tryd.prog 93 [.agg [.int .i64 3, .str key, .str hi, .bool op, .str val, .int .i64 lim]] (.bool false) := valued_ok ⟨3, key, hi, op, val, lim⟩
    have hg : AFn Tryd.prog 94 [.agg [.int .i64 3, .str key, .str hi, .bool op, .str val, .int .i64 lim]] (.bool false) := ranged_ok ⟨3, key, hi, op, val, lim⟩
    have hR : AFn Tryd.prog 91 [.agg [.int .i64 3, .str key, .str hi, .bool op, .str val, .int .i64 lim]] (.int .i64 0) := by
      have := oRight_ok ⟨3, key, hi, op, val, lim⟩ (by show key.size ≤ _; omega)
      rw [hr] at this; exact this
    have tn : Int.toNat 3 = 3 := rfl
    have hj := join_ok [(⟨#[100, 101, 108]⟩ : ByteArray), quoteF key] ⟨#[32]⟩ (by simp) (joined_small _ (by simp) (by simp [s1, s3, s4]; omega))
    rw [show lineO ⟨3, key, hi, op, val, lim⟩ = joinB [(⟨#[100, 101, 108]⟩ : ByteArray), quoteF key] ⟨#[32]⟩ from rfl]
    (repeat (first | simp (maxSteps := 4000000) only [go_sem, ↓reduceIte, reduceCtorEq, Nat.reduceEqDiff, Nat.reduceBEq, Nat.reduceAdd, Nat.reduceSub, Nat.reduceMul, Nat.reduceLT, Nat.reduceLeDiff, Nat.reduceBNe, Int.reduceBEq, Int.reduceBNe, Int.reduceLT, Int.reduceLE, Opr.a, Spn.a, nul, tn] | refine calling (hR) ?_ | refine callingH (hR) ?_ | refine calling (hv) ?_ | refine callingH (hv) ?_ | refine calling (hg) ?_ | refine callingH (hg) ?_ | refine calling (oNames_ok) ?_ | refine callingH (oNames_ok) ?_ | refine calling (quote_ok key (by omega)) ?_ | refine callingH (quote_ok key (by omega)) ?_ | refine calling (quote_ok val (by omega)) ?_ | refine callingH (quote_ok val (by omega)) ?_ | refine calling (quote_ok hi (by omega)) ?_ | refine callingH (quote_ok hi (by omega)) ?_ | refine calling (hj) ?_ | refine callingH (hj) ?_ | refine And.intro (by omega) ?_ | refine And.intro (fun d hd => by (repeat (rcases hd with rfl | hd; · exact ⟨rfl, rfl⟩)); cases hd) ?_))
  · -- kind 4
    have hv : AFn Tryd.prog 93 [.agg [.int .i64 4, .str key, .str hi, .bool op, .str val, .int .i64 lim]] (.bool false) := valued_ok ⟨4, key, hi, op, val, lim⟩
    have hg : AFn Tryd.prog 94 [.agg [.int .i64 4, .str key, .str hi, .bool op, .str val, .int .i64 lim]] (.bool true) := ranged_ok ⟨4, key, hi, op, val, lim⟩
    have hR : AFn Tryd.prog 91 [.agg [.int .i64 4, .str key, .str hi, .bool op, .str val, .int .i64 lim]] (.int .i64 0) := by
      have := oRight_ok ⟨4, key, hi, op, val, lim⟩ (by show key.size ≤ _; omega)
      rw [hr] at this; exact this
    have tn : Int.toNat 4 = 4 := rfl
    cases op with
    | true =>
      have hj := join_ok [(⟨#[119, 105, 112, 101]⟩ : ByteArray), quoteF key, (⟨#[42]⟩ : ByteArray)] ⟨#[32]⟩ (by simp) (joined_small _ (by simp) (by simp [s1, s3, s4]; omega))
      rw [show lineO ⟨4, key, hi, true, val, lim⟩ = joinB [(⟨#[119, 105, 112, 101]⟩ : ByteArray), quoteF key, (⟨#[42]⟩ : ByteArray)] ⟨#[32]⟩ from rfl]
      (repeat (first | simp (maxSteps := 4000000) only [go_sem, ↓reduceIte, reduceCtorEq, Nat.reduceEqDiff, Nat.reduceBEq, Nat.reduceAdd, Nat.reduceSub, Nat.reduceMul, Nat.reduceLT, Nat.reduceLeDiff, Nat.reduceBNe, Int.reduceBEq, Int.reduceBNe, Int.reduceLT, Int.reduceLE, Opr.a, Spn.a, nul, tn] | refine calling (hR) ?_ | refine callingH (hR) ?_ | refine calling (hv) ?_ | refine callingH (hv) ?_ | refine calling (hg) ?_ | refine callingH (hg) ?_ | refine calling (oNames_ok) ?_ | refine callingH (oNames_ok) ?_ | refine calling (quote_ok key (by omega)) ?_ | refine callingH (quote_ok key (by omega)) ?_ | refine calling (quote_ok val (by omega)) ?_ | refine callingH (quote_ok val (by omega)) ?_ | refine calling (quote_ok hi (by omega)) ?_ | refine callingH (quote_ok hi (by omega)) ?_ | refine calling (hj) ?_ | refine callingH (hj) ?_ | refine And.intro (by omega) ?_ | refine And.intro (fun d hd => by (repeat (rcases hd with rfl | hd; · exact ⟨rfl, rfl⟩)); cases hd) ?_))
    | false =>
      have hj := join_ok [(⟨#[119, 105, 112, 101]⟩ : ByteArray), quoteF key, quoteF hi] ⟨#[32]⟩ (by simp) (joined_small _ (by simp) (by simp [s1, s3, s4]; omega))
      rw [show lineO ⟨4, key, hi, false, val, lim⟩ = joinB [(⟨#[119, 105, 112, 101]⟩ : ByteArray), quoteF key, quoteF hi] ⟨#[32]⟩ from rfl]
      (repeat (first | simp (maxSteps := 4000000) only [go_sem, ↓reduceIte, reduceCtorEq, Nat.reduceEqDiff, Nat.reduceBEq, Nat.reduceAdd, Nat.reduceSub, Nat.reduceMul, Nat.reduceLT, Nat.reduceLeDiff, Nat.reduceBNe, Int.reduceBEq, Int.reduceBNe, Int.reduceLT, Int.reduceLE, Opr.a, Spn.a, nul, tn] | refine calling (hR) ?_ | refine callingH (hR) ?_ | refine calling (hv) ?_ | refine callingH (hv) ?_ | refine calling (hg) ?_ | refine callingH (hg) ?_ | refine calling (oNames_ok) ?_ | refine callingH (oNames_ok) ?_ | refine calling (quote_ok key (by omega)) ?_ | refine callingH (quote_ok key (by omega)) ?_ | refine calling (quote_ok val (by omega)) ?_ | refine callingH (quote_ok val (by omega)) ?_ | refine calling (quote_ok hi (by omega)) ?_ | refine callingH (quote_ok hi (by omega)) ?_ | refine calling (hj) ?_ | refine callingH (hj) ?_ | refine And.intro (by omega) ?_ | refine And.intro (fun d hd => by (repeat (rcases hd with rfl | hd; · exact ⟨rfl, rfl⟩)); cases hd) ?_))
  · -- kind 5
    have hv : AFn Tryd.prog 93 [.agg [.int .i64 5, .str key, .str hi, .bool op, .str val, .int .i64 lim]] (.bool false) := valued_ok ⟨5, key, hi, op, val, lim⟩
    have hg : AFn Tryd.prog 94 [.agg [.int .i64 5, .str key, .str hi, .bool op, .str val, .int .i64 lim]] (.bool false) := ranged_ok ⟨5, key, hi, op, val, lim⟩
    have hR : AFn Tryd.prog 91 [.agg [.int .i64 5, .str key, .str hi, .bool op, .str val, .int .i64 lim]] (.int .i64 0) := by
      have := oRight_ok ⟨5, key, hi, op, val, lim⟩ (by show key.size ≤ _; omega)
      rw [hr] at this; exact this
    have tn : Int.toNat 5 = 5 := rfl
    have hj := join_ok [(⟨#[103, 101, 116]⟩ : ByteArray), quoteF key] ⟨#[32]⟩ (by simp) (joined_small _ (by simp) (by simp [s1, s3, s4]; omega))
    rw [show lineO ⟨5, key, hi, op, val, lim⟩ = joinB [(⟨#[103, 101, 116]⟩ : ByteArray), quoteF key] ⟨#[32]⟩ from rfl]
    (repeat (first | simp (maxSteps := 4000000) only [go_sem, ↓reduceIte, reduceCtorEq, Nat.reduceEqDiff, Nat.reduceBEq, Nat.reduceAdd, Nat.reduceSub, Nat.reduceMul, Nat.reduceLT, Nat.reduceLeDiff, Nat.reduceBNe, Int.reduceBEq, Int.reduceBNe, Int.reduceLT, Int.reduceLE, Opr.a, Spn.a, nul, tn] | refine calling (hR) ?_ | refine callingH (hR) ?_ | refine calling (hv) ?_ | refine callingH (hv) ?_ | refine calling (hg) ?_ | refine callingH (hg) ?_ | refine calling (oNames_ok) ?_ | refine callingH (oNames_ok) ?_ | refine calling (quote_ok key (by omega)) ?_ | refine callingH (quote_ok key (by omega)) ?_ | refine calling (quote_ok val (by omega)) ?_ | refine callingH (quote_ok val (by omega)) ?_ | refine calling (quote_ok hi (by omega)) ?_ | refine callingH (quote_ok hi (by omega)) ?_ | refine calling (hj) ?_ | refine callingH (hj) ?_ | refine And.intro (by omega) ?_ | refine And.intro (fun d hd => by (repeat (rcases hd with rfl | hd; · exact ⟨rfl, rfl⟩)); cases hd) ?_))
  · -- kind 6
    have hv : AFn Tryd.prog 93 [.agg [.int .i64 6, .str key, .str hi, .bool op, .str val, .int .i64 lim]] (.bool false) := valued_ok ⟨6, key, hi, op, val, lim⟩
    have hg : AFn Tryd.prog 94 [.agg [.int .i64 6, .str key, .str hi, .bool op, .str val, .int .i64 lim]] (.bool true) := ranged_ok ⟨6, key, hi, op, val, lim⟩
    have hR : AFn Tryd.prog 91 [.agg [.int .i64 6, .str key, .str hi, .bool op, .str val, .int .i64 lim]] (.int .i64 0) := by
      have := oRight_ok ⟨6, key, hi, op, val, lim⟩ (by show key.size ≤ _; omega)
      rw [hr] at this; exact this
    have l12 : 1 ≤ lim ∧ lim ≤ 64 := by simpa using p4
    have tn : Int.toNat 6 = 6 := rfl
    cases op with
    | true =>
      have hj := join_ok [(⟨#[115, 99, 97, 110]⟩ : ByteArray), quoteF key, (⟨#[42]⟩ : ByteArray), decS lim] ⟨#[32]⟩ (by simp) (joined_small _ (by simp) (by simp [s1, s3, s4]; omega))
      rw [show lineO ⟨6, key, hi, true, val, lim⟩ = joinB [(⟨#[115, 99, 97, 110]⟩ : ByteArray), quoteF key, (⟨#[42]⟩ : ByteArray), decS lim] ⟨#[32]⟩ from rfl]
      (repeat (first | simp (maxSteps := 4000000) only [go_sem, ↓reduceIte, reduceCtorEq, Nat.reduceEqDiff, Nat.reduceBEq, Nat.reduceAdd, Nat.reduceSub, Nat.reduceMul, Nat.reduceLT, Nat.reduceLeDiff, Nat.reduceBNe, Int.reduceBEq, Int.reduceBNe, Int.reduceLT, Int.reduceLE, Opr.a, Spn.a, nul, tn] | refine calling (hR) ?_ | refine callingH (hR) ?_ | refine calling (hv) ?_ | refine callingH (hv) ?_ | refine calling (hg) ?_ | refine callingH (hg) ?_ | refine calling (oNames_ok) ?_ | refine callingH (oNames_ok) ?_ | refine calling (quote_ok key (by omega)) ?_ | refine callingH (quote_ok key (by omega)) ?_ | refine calling (quote_ok val (by omega)) ?_ | refine callingH (quote_ok val (by omega)) ?_ | refine calling (quote_ok hi (by omega)) ?_ | refine callingH (quote_ok hi (by omega)) ?_ | refine calling (dec_ok lim ⟨by omega, by omega⟩) ?_ | refine callingH (dec_ok lim ⟨by omega, by omega⟩) ?_ | refine calling (hj) ?_ | refine callingH (hj) ?_ | refine And.intro (by omega) ?_ | refine And.intro (fun d hd => by (repeat (rcases hd with rfl | hd; · exact ⟨rfl, rfl⟩)); cases hd) ?_))
    | false =>
      have hj := join_ok [(⟨#[115, 99, 97, 110]⟩ : ByteArray), quoteF key, quoteF hi, decS lim] ⟨#[32]⟩ (by simp) (joined_small _ (by simp) (by simp [s1, s3, s4]; omega))
      rw [show lineO ⟨6, key, hi, false, val, lim⟩ = joinB [(⟨#[115, 99, 97, 110]⟩ : ByteArray), quoteF key, quoteF hi, decS lim] ⟨#[32]⟩ from rfl]
      (repeat (first | simp (maxSteps := 4000000) only [go_sem, ↓reduceIte, reduceCtorEq, Nat.reduceEqDiff, Nat.reduceBEq, Nat.reduceAdd, Nat.reduceSub, Nat.reduceMul, Nat.reduceLT, Nat.reduceLeDiff, Nat.reduceBNe, Int.reduceBEq, Int.reduceBNe, Int.reduceLT, Int.reduceLE, Opr.a, Spn.a, nul, tn] | refine calling (hR) ?_ | refine callingH (hR) ?_ | refine calling (hv) ?_ | refine callingH (hv) ?_ | refine calling (hg) ?_ | refine callingH (hg) ?_ | refine calling (oNames_ok) ?_ | refine callingH (oNames_ok) ?_ | refine calling (quote_ok key (by omega)) ?_ | refine callingH (quote_ok key (by omega)) ?_ | refine calling (quote_ok val (by omega)) ?_ | refine callingH (quote_ok val (by omega)) ?_ | refine calling (quote_ok hi (by omega)) ?_ | refine callingH (quote_ok hi (by omega)) ?_ | refine calling (dec_ok lim ⟨by omega, by omega⟩) ?_ | refine callingH (dec_ok lim ⟨by omega, by omega⟩) ?_ | refine calling (hj) ?_ | refine callingH (hj) ?_ | refine And.intro (by omega) ?_ | refine And.intro (fun d hd => by (repeat (rcases hd with rfl | hd; · exact ⟨rfl, rfl⟩)); cases hd) ?_))
end
section
/-
  Layer 7: an operation's line is read as it: the plain law.
-/
open Go.RowKit Go.Lib
set_option linter.unusedVariables false
set_option linter.unusedSimpArgs false
set_option maxRecDepth 100000
theorem wl_word : ∀ {w : List UInt8}, (32 : UInt8) ∉ w → wl w = [w]
  | [], _ => rfl
  | c :: l, h => by
    have h1 : c ≠ 32 := fun e => h (by rw [e]; exact List.mem_cons_self ..)
    rw [wl, if_neg h1, wl_word (w := l) (fun e => h (List.mem_cons_of_mem _ e))]
theorem wl_app : ∀ {w : List UInt8} {l : List UInt8}, (32 : UInt8) ∉ w → wl (w ++ 32 :: l) = w :: wl l
  | [], l, _ => by rw [List.nil_append, wl, if_pos rfl]
  | c :: w, l, h => by
    have h1 : c ≠ 32 := fun e => h (by rw [e]; exact List.mem_cons_self ..)
    rw [List.cons_append, wl, if_neg h1, wl_app (w := w) (fun e => h (List.mem_cons_of_mem _ e))]
theorem wl_tail : ∀ (ws : List (List UInt8)) (w : List UInt8), (32 : UInt8) ∉ w → (∀ x, x ∈ ws → (32 : UInt8) ∉ x) → wl (w ++ Lib.joinTail [32] ws) = w :: ws
  | [], w, hw, _ => by
    show wl (w ++ []) = _
    rw [List.append_nil, wl_word hw]
  | y :: ws, w, hw, h => by
    show wl (w ++ ((32 :: y) ++ Lib.joinTail [32] ws)) = _
    rw [List.cons_append, wl_app hw, wl_tail ws y (h y (List.mem_cons_self ..)) fun x hx => h x (List.mem_cons_of_mem _ hx)]
theorem wl_joinB (w : ByteArray) (ws : List ByteArray) (h : ∀ x, x ∈ w :: ws → (32 : UInt8) ∉ x.data.toList) : wl (joinB (w :: ws) ⟨#[32]⟩).data.toList = w.data.toList :: ws.map (·.data.toList) := by
  show wl (Lib.join ((w :: ws).map (·.data.toList)) [32]) = _
  rw [List.map_cons, Lib.join_cons]
  refine wl_tail _ _ (h w (List.mem_cons_self ..)) fun x hx => ?_
  obtain ⟨y, hy, rfl⟩ := List.mem_map.1 hx
  exact h y (List.mem_cons_of_mem _ hy)
theorem plain_no32 : ∀ c : UInt8, plainB c = true → c ≠ 32 := forall_u8 (by decide +kernel)
theorem hex_no32 : ∀ n : Fin 16, hexD n.val ≠ 32 := by decide +kernel
theorem quoteL_no32 : ∀ l : List UInt8, (32 : UInt8) ∉ quoteL l
  | [] => by simp [quoteL]
  | c :: l => by
    have ih := quoteL_no32 l
    have hc := c.toNat_lt
    rw [quoteL]
    intro h
    rcases List.mem_append.1 h with h | h
    · cases hp : plainB c with
      | true =>
        rw [hp, if_pos rfl] at h
        exact plain_no32 c hp (List.mem_singleton.1 h).symm
      | false =>
        rw [hp, if_neg (by simp)] at h
        rcases List.mem_cons.1 h with h | h
        · exact absurd h (by decide)
        · rcases List.mem_cons.1 h with h | h
          · exact hex_no32 ⟨c.toNat / 16, by omega⟩ h.symm
          · exact hex_no32 ⟨c.toNat % 16, by omega⟩ (List.mem_singleton.1 h).symm
    · exact ih h
theorem quoteF_no32 (s : ByteArray) : (32 : UInt8) ∉ (quoteF s).data.toList := by
  rw [quoteF_list]
  split
  · decide
  · exact quoteL_no32 _
theorem dig_no32 (d : Nat) (h : d < 10) : (32 : UInt8) ≠ UInt8.ofNat (48 + d) := by
  intro e
  have := congrArg UInt8.toNat e
  have h2 := dig_nat d h
  rw [← this] at h2
  have : ((32 : UInt8).toNat : Int) = 32 := rfl
  omega
theorem dd_no32 : ∀ u : Nat, (32 : UInt8) ∉ decDigits u := by
  intro u
  induction u using Nat.strongRecOn with
  | ind u ih =>
    by_cases h : u < 10
    · rw [dd_small u h]
      intro e
      exact dig_no32 u h (List.mem_singleton.1 e)
    · rw [dd_step u h]
      intro e
      rcases List.mem_append.1 e with e | e
      · exact ih (u / 10) (by omega) e
      · exact dig_no32 (u % 10) (by omega) (List.mem_singleton.1 e)
theorem decS_list (n : Int) (h : 0 ≤ n) : (decS n).data.toList = decDigits n.toNat := by
  show Lib.itoa n = _
  exact itoa_nn h
/-- the first text that a word is read as -/
def uq1 (s : ByteArray) : ByteArray := match uqF s with
  | .tup (.str x :: _) => x
  | _ => nul
def uqb (s : ByteArray) : Bool := match uqF s with
  | .tup (_ :: .bool b :: _) => b
  | _ => false
theorem uqF_shape (s : ByteArray) : uqF s = .tup [.str (uq1 s), .bool (uqb s)] := by
  have : ∀ q, uqAns q = .tup [.str (match uqAns q with | .tup (.str x :: _) => x | _ => nul), .bool (match uqAns q with | .tup (_ :: .bool b :: _) => b | _ => false)] := by
    intro q; cases q <;> rfl
  unfold uq1 uqb uqF
  split
  · rfl
  · exact this _
theorem uq1_quote (s : ByteArray) : uq1 (quoteF s) = s := by unfold uq1; rw [uqF_quote]
def ud1 (s : ByteArray) : Int := match udF s with
  | .tup (.int _ n :: _) => n
  | _ => 0
def udb (s : ByteArray) : Bool := match udF s with
  | .tup (_ :: .bool b :: _) => b
  | _ => false
theorem udF_shape (s : ByteArray) : udF s = .tup [.int .i64 (ud1 s), .bool (udb s)] := by
  have : ∀ q, udAns q = .tup [.int .i64 (match udAns q with | .tup (.int _ n :: _) => n | _ => 0), .bool (match udAns q with | .tup (_ :: .bool b :: _) => b | _ => false)] := by
    intro q; cases q <;> rfl
  unfold ud1 udb udF
  split
  · rfl
  · exact this _
theorem ud1_dec (n : Int) (h0 : 0 ≤ n) (h1 : n ≤ 999999999) : ud1 (decS n) = n := by
  unfold ud1; rw [udF_dec n ⟨by omega, by omega⟩, if_pos ⟨h0, h1⟩]
/-- the kinds' words, and a word's place among them -/
def namesL : List ByteArray := [⟨#[98, 97, 100]⟩, ⟨#[112, 117, 116]⟩, ⟨#[97, 100, 100]⟩, ⟨#[100, 101, 108]⟩, ⟨#[119, 105, 112, 101]⟩, ⟨#[103, 101, 116]⟩, ⟨#[115, 99, 97, 110]⟩]
def idxS (x : ByteArray) : List ByteArray → Nat → Int
  | [], _ => -1
  | y :: l, i => if x.toList == y.toList then (i : Int) else idxS x l (i + 1)
def parseO (l : List ByteArray) : Opr :=
  let k := idxS (l.getD 0 nul) namesL 0
  let key := uq1 (l.getD 1 nul)
  let w := l.getD 2 nul
  let lim := if k == 6 then ud1 (l.getD 3 nul) else 0
  if k == 1 || k == 2 then ⟨k, key, nul, false, uq1 w, lim⟩
  else if k == 4 || k == 6 then (if w.toList == (ByteArray.mk #[42]).toList then ⟨k, key, nul, true, nul, lim⟩ else ⟨k, key, uq1 w, false, nul, lim⟩)
  else ⟨k, key, nul, false, nul, lim⟩
def lineX (o : Opr) : ByteArray := if o.right then lineO o else ⟨#[98, 97, 100]⟩
def wordsP (s : ByteArray) : List ByteArray := (wl s.data.toList).map wb ++ [nul, nul, nul]
def parseF (s : ByteArray) : Opr × Bool :=
  let o := parseO (wordsP s)
  if o.right && ((lineX o).toList == s.toList) then (o, true) else (Opr.zero, false)
theorem wb_data (s : ByteArray) : wb s.data.toList = s := by cases s; rfl
theorem quote_not_star (s : ByteArray) : ((quoteF s).toList == (ByteArray.mk #[42]).toList) = false := by
  rw [beq_eq_false_iff_ne]
  intro e
  rw [ByteArray.toList_eq, ByteArray.toList_eq] at e
  have h := quoteF_list s
  rw [e] at h
  split at h
  · cases h
  · cases hl : s.data.toList with
    | nil => contradiction
    | cons c l =>
      rw [hl, quoteL] at h
      cases hp : plainB c with
      | true =>
        rw [hp, if_pos rfl, List.singleton_append] at h
        have : c = 42 := (List.cons.inj h).1.symm
        subst this
        exact absurd hp (by decide +kernel)
      | false =>
        rw [hp, if_neg (by simp)] at h
        have := congrArg List.length h
        simp at this
theorem line_words (o : Opr) (hr : o.right = true) : (wl (lineO o).data.toList).map wb = lineW o := by
  have hp := right_parts hr
  obtain ⟨_, _, _, _, _, _, _, _, p4⟩ := hp
  have e : ∃ w ws, lineW o = w :: ws ∧ ∀ x, x ∈ w :: ws → (32 : UInt8) ∉ x.data.toList := by
    refine ⟨_, _, rfl, fun x hx => ?_⟩
    have hx' : x ∈ lineW o := hx
    unfold lineW at hx'
    rcases List.mem_append.1 hx' with h | h
    · rcases List.mem_append.1 h with h | h
      · rcases List.mem_cons.1 h with rfl | h
        · unfold kindW
          repeat' split
          all_goals decide
        · rw [List.mem_singleton.1 h]; exact quoteF_no32 _
      · split at h
        · rw [List.mem_singleton.1 h]; exact quoteF_no32 _
        · split at h
          · split at h
            · rw [List.mem_singleton.1 h]; decide
            · rw [List.mem_singleton.1 h]; exact quoteF_no32 _
          · simp at h
    · split at h
      · rename_i h6
        rw [h6] at p4
        have : 1 ≤ o.lim ∧ o.lim ≤ 64 := by simpa using p4
        rw [List.mem_singleton.1 h, decS_list _ (by omega)]
        exact dd_no32 _
      · simp at h
  obtain ⟨w, ws, e, h⟩ := e
  unfold lineO
  rw [e, wl_joinB w ws h, List.map_cons, wb_data, List.map_map]
  congr 1
  conv => rhs; rw [← List.map_id ws]
  exact List.map_congr_left fun x _ => wb_data x
theorem parse_line (o : Opr) (hr : o.right = true) : parseF (lineX o) = (o, true) := by
  have hx : lineX o = lineO o := by unfold lineX; rw [if_pos hr]
  have ho : parseO (wordsP (lineX o)) = o := by
    rw [hx]
    unfold wordsP
    rw [line_words o hr]
    obtain ⟨hk1, hk6, hkey, hhi, hval, p1, p2, p3, p4⟩ := right_parts hr
    obtain ⟨kind, key, hi, op, val, lim⟩ := o
    simp only at hk1 hk6 hkey hhi hval p1 p2 p3 p4
    have hk : kind = 1 ∨ kind = 2 ∨ kind = 3 ∨ kind = 4 ∨ kind = 5 ∨ kind = 6 := by omega
    rcases hk with rfl | rfl | rfl | rfl | rfl | rfl
    · have q : nilB hi = true ∧ op = false := by cases op <;> simp_all [Opr.ranged]
      have hl : lim = 0 := by simpa using p4
      have eh := nilB_eq q.1
      have eo := q.2
      subst hl eh eo
      have e : idxS (⟨#[112, 117, 116]⟩ : ByteArray) namesL 0 = 1 := by decide +kernel
      show parseO [⟨#[112, 117, 116]⟩, quoteF key, quoteF val, nul, nul, nul] = _
      unfold parseO
      simp [e, uq1_quote, List.getD_cons_zero, List.getD_cons_succ, nul]
    · have q : nilB hi = true ∧ op = false := by cases op <;> simp_all [Opr.ranged]
      have hl : lim = 0 := by simpa using p4
      have eh := nilB_eq q.1
      have eo := q.2
      subst hl eh eo
      have e : idxS (⟨#[97, 100, 100]⟩ : ByteArray) namesL 0 = 2 := by decide +kernel
      show parseO [⟨#[97, 100, 100]⟩, quoteF key, quoteF val, nul, nul, nul] = _
      unfold parseO
      simp [e, uq1_quote, List.getD_cons_zero, List.getD_cons_succ, nul]
    · have q : nilB hi = true ∧ op = false := by cases op <;> simp_all [Opr.ranged]
      have v : nilB val = true := by simpa [Opr.valued] using p1
      have hl : lim = 0 := by simpa using p4
      have eh := nilB_eq q.1
      have eo := q.2
      have ev := nilB_eq v
      subst hl eh eo ev
      have e : idxS (⟨#[100, 101, 108]⟩ : ByteArray) namesL 0 = 3 := by decide +kernel
      show parseO [⟨#[100, 101, 108]⟩, quoteF key, nul, nul, nul] = _
      unfold parseO
      simp [e, uq1_quote, List.getD_cons_zero, List.getD_cons_succ, nul]
    · have v : nilB val = true := by simpa [Opr.valued] using p1
      have hl : lim = 0 := by simpa using p4
      have ev := nilB_eq v
      subst hl ev
      have e : idxS (⟨#[119, 105, 112, 101]⟩ : ByteArray) namesL 0 = 4 := by decide +kernel
      cases op with
      | true =>
        have eh := nilB_eq (by simpa using p2 : nilB hi = true)
        subst eh
        show parseO [⟨#[119, 105, 112, 101]⟩, quoteF key, ⟨#[42]⟩, nul, nul, nul] = _
        unfold parseO
        simp [e, uq1_quote, List.getD_cons_zero, List.getD_cons_succ, nul]
      | false =>
        show parseO [⟨#[119, 105, 112, 101]⟩, quoteF key, quoteF hi, nul, nul, nul] = _
        unfold parseO
        have hs := quote_not_star hi
        simp only [beq_eq_false_iff_ne, ne_eq] at hs
        simp [e, uq1_quote, List.getD_cons_zero, List.getD_cons_succ, nul]
        exact fun e => hs (e.trans (by decide +kernel))
    · have q : nilB hi = true ∧ op = false := by cases op <;> simp_all [Opr.ranged]
      have v : nilB val = true := by simpa [Opr.valued] using p1
      have hl : lim = 0 := by simpa using p4
      have eh := nilB_eq q.1
      have eo := q.2
      have ev := nilB_eq v
      subst hl eh eo ev
      have e : idxS (⟨#[103, 101, 116]⟩ : ByteArray) namesL 0 = 5 := by decide +kernel
      show parseO [⟨#[103, 101, 116]⟩, quoteF key, nul, nul, nul] = _
      unfold parseO
      simp [e, uq1_quote, List.getD_cons_zero, List.getD_cons_succ, nul]
    · have v : nilB val = true := by simpa [Opr.valued] using p1
      have l12 : 1 ≤ lim ∧ lim ≤ 64 := by simpa using p4
      have ev := nilB_eq v
      subst ev
      have el := ud1_dec lim (by omega) (by omega)
      have e : idxS (⟨#[115, 99, 97, 110]⟩ : ByteArray) namesL 0 = 6 := by decide +kernel
      cases op with
      | true =>
        have eh := nilB_eq (by simpa using p2 : nilB hi = true)
        subst eh
        show parseO [⟨#[115, 99, 97, 110]⟩, quoteF key, ⟨#[42]⟩, decS lim, nul, nul, nul] = _
        unfold parseO
        simp [e, uq1_quote, el, List.getD_cons_zero, List.getD_cons_succ, nul]
      | false =>
        show parseO [⟨#[115, 99, 97, 110]⟩, quoteF key, quoteF hi, decS lim, nul, nul, nul] = _
        unfold parseO
        have hs := quote_not_star hi
        simp only [beq_eq_false_iff_ne, ne_eq] at hs
        simp [e, uq1_quote, el, List.getD_cons_zero, List.getD_cons_succ, nul]
        exact fun e => hs (e.trans (by decide +kernel))
  unfold parseF
  simp only
  rw [ho, hr, beq_self_eq_true]; rfl
theorem parse_of {s : ByteArray} (h : (parseF s).2 = true) : (parseF s).1.right = true ∧ lineX (parseF s).1 = s := by
  unfold parseF at h ⊢
  simp only at h ⊢
  split at h
  · rename_i hc
    rw [if_pos hc]
    simp only [Bool.and_eq_true, beq_iff_eq] at hc
    obtain ⟨h1, h2⟩ := hc
    refine ⟨h1, ?_⟩
    rw [ByteArray.toList_eq, ByteArray.toList_eq] at h2
    exact ba_ext h2
  · cases h
end
section
/-
  Plain facts about texts as lists of bytes: the order 'bytesLess', the common front, what parts two texts. No program, no world.
-/
namespace kp
open Go.Op (bytesLess)
def common : List UInt8 → List UInt8 → Nat
  | a :: x, b :: y => if a = b then common x y + 1 else 0
  | _, _ => 0
theorem less_cons (a b : UInt8) (x y : List UInt8) : bytesLess (a :: x) (b :: y) = (decide (a < b) || (a == b && bytesLess x y)) := rfl
theorem less_nil (x : List UInt8) : bytesLess x [] = false := by cases x <;> rfl
theorem nil_less (b : UInt8) (y : List UInt8) : bytesLess [] (b :: y) = true := rfl
theorem less_irrefl : ∀ x : List UInt8, bytesLess x x = false
  | [] => rfl
  | a :: x => by simp [less_cons, less_irrefl x]
end kp
end
section
/-
  Layer 7 on the plain machine: what the document says of operations.
-/
open Go.RowKit
set_option linter.unusedVariables false
set_option linter.unusedSimpArgs false
set_option maxRecDepth 100000
attribute [local go_sem ↓] runOp headOp
theorem drop_less (x y : List UInt8) (j : Nat) (hx : j < x.length) (hy : j < y.length) : Op.bytesLess (x.drop j) (y.drop j) = if (x.getD j 0) = (y.getD j 0) then Op.bytesLess (x.drop (j + 1)) (y.drop (j + 1)) else decide (x.getD j 0 < y.getD j 0) := by
  rw [List.drop_eq_getElem_cons hx, List.drop_eq_getElem_cons hy, kp.less_cons, List.getD_eq_getElem?_getD, List.getD_eq_getElem?_getD, List.getElem?_eq_getElem hx, List.getElem?_eq_getElem hy]
  simp only [Option.getD_some]
  by_cases h : x[j] = y[j]
  · rw [if_pos h, h]; simp
  · rw [if_neg h]; simp [h]
def lessInv (a b : ByteArray) (r : Bool) (k : Nat) (σ : St) : Prop :=
  ∃ j : Nat, j ≤ a.size ∧ j ≤ b.size ∧ k = a.size - j ∧ σ.T 0 = .str a ∧ σ.T 1 = .str b ∧ σ.T 5 = .int .i64 j ∧ Op.bytesLess (a.data.toList.drop j) (b.data.toList.drop j) = r
/-! ### percolate/percolateref01.Less -/
def r_rLess_0 : Reg := ⟨[], [⟨(.mv (.c (.bool false))), (some 4), none, [], []⟩], [], [], false⟩
def r_rLess_1 : Reg := ⟨[], [⟨(.mv (.c (.int .i64 0))), (some 5), none, [], []⟩], [], [], false⟩
def t_rLess_2 : List ROp := [⟨(.mv (.t 5)), (some 6), none, [], []⟩, ⟨(.mv (.t 0)), (some 7), none, [], []⟩, ⟨(.len true (.t 7)), (some 8), none, [], []⟩, ⟨(.bin .lss (.t 6) (.t 8)), (some 9), none, [], []⟩, ⟨(.mv (.t 9)), (some 10), none, [], []⟩, ⟨(.mv (.t 5)), (some 11), (some (10, true)), [], []⟩, ⟨(.mv (.t 1)), (some 12), (some (10, true)), [], []⟩, ⟨(.len true (.t 12)), (some 13), (some (10, true)), [], []⟩, ⟨(.bin .lss (.t 11) (.t 13)), (some 14), (some (10, true)), [], []⟩, ⟨(.pick (.t 10) (.t 14) (.c (.bool false))), (some 15), none, [], []⟩]
def r_rLess_2 : Reg := ⟨[], t_rLess_2, [], [], false⟩
def h_rLess_3 : List ROp := [⟨(.mv (.t 0)), (some 18), none, [], []⟩, ⟨(.mv (.t 5)), (some 19), none, [], []⟩, ⟨(.idx (.t 18) (.t 19)), (some 20), none, [], []⟩, ⟨(.mv (.t 1)), (some 21), none, [], []⟩, ⟨(.mv (.t 5)), (some 22), none, [], []⟩, ⟨(.idx (.t 21) (.t 22)), (some 23), none, [], []⟩]
def r_rLess_3 : Reg := ⟨h_rLess_3, [⟨(.bin .neq (.t 20) (.t 23)), (some 24), none, [], []⟩], [], [], true⟩
def h_rLess_4 : List ROp := [⟨(.mv (.t 0)), (some 25), none, [], []⟩, ⟨(.mv (.t 5)), (some 26), none, [], []⟩, ⟨(.idx (.t 25) (.t 26)), (some 27), none, [], []⟩, ⟨(.mv (.t 1)), (some 28), none, [], []⟩, ⟨(.mv (.t 5)), (some 29), none, [], []⟩, ⟨(.idx (.t 28) (.t 29)), (some 30), none, [], []⟩]
def r_rLess_4 : Reg := ⟨h_rLess_4, [⟨(.bin .lss (.t 27) (.t 30)), (some 31), none, [], []⟩, ⟨(.mv (.t 31)), (some 4), none, [], []⟩], [], [], true⟩
def t_rLess_5 : List ROp := [⟨(.mv (.t 5)), (some 16), none, [], []⟩, ⟨(.bin .add (.t 16) (.c (.int .i64 1))), (some 17), none, [], []⟩, ⟨(.mv (.t 17)), (some 5), none, [], []⟩]
def r_rLess_5 : Reg := ⟨[], t_rLess_5, [], [], false⟩
def r_rLess_l6 : IR := (.seq (.seq (.reg r_rLess_2)
  (.cond (.t 15) .skip
  (.exit 0)))
  (.seq (.block 1 (.seq (.reg r_rLess_3)
  (.cond (.t 24) (.seq (.reg r_rLess_4)
  .ret)
  .skip)))
  (.reg r_rLess_5)))
def t_rLess_7 : List ROp := [⟨(.mv (.t 0)), (some 32), none, [], []⟩, ⟨(.len true (.t 32)), (some 33), none, [], []⟩, ⟨(.mv (.t 1)), (some 34), none, [], []⟩, ⟨(.len true (.t 34)), (some 35), none, [], []⟩, ⟨(.bin .lss (.t 33) (.t 35)), (some 36), none, [], []⟩, ⟨(.mv (.t 36)), (some 4), none, [], []⟩]
def r_rLess_7 : Reg := ⟨[], t_rLess_7, [], [], false⟩
def ir_rLess : IR := (.seq (.reg r_rLess_0)
  (.seq (.seq (.reg r_rLess_1)
  (.block 0 (.loop r_rLess_l6)))
  (.seq (.reg r_rLess_7)
  .ret)))
def res_rLess : List RDesc := [(.tmp 4)]
theorem e_rLess_0 (C : FuncId → List AV → AV → Prop) (σ : St) (K : St → Prop) : runReg C r_rLess_0 σ K = runOps C [⟨(.mv (.c (.bool false))), (some 4), none, [], []⟩] (σ.kills []) K := rfl
theorem e_rLess_1 (C : FuncId → List AV → AV → Prop) (σ : St) (K : St → Prop) : runReg C r_rLess_1 σ K = runOps C [⟨(.mv (.c (.int .i64 0))), (some 5), none, [], []⟩] (σ.kills []) K := rfl
theorem e_rLess_2 (C : FuncId → List AV → AV → Prop) (σ : St) (K : St → Prop) : runReg C r_rLess_2 σ K = runOps C t_rLess_2 (σ.kills []) K := rfl
theorem e_rLess_3 (C : FuncId → List AV → AV → Prop) (σ : St) (K : St → Prop) : runReg C r_rLess_3 σ K = runHead C [] [⟨(.bin .neq (.t 20) (.t 23)), (some 24), none, [], []⟩] h_rLess_3 (σ.kills []) K := rfl
theorem e_rLess_4 (C : FuncId → List AV → AV → Prop) (σ : St) (K : St → Prop) : runReg C r_rLess_4 σ K = runHead C [] [⟨(.bin .lss (.t 27) (.t 30)), (some 31), none, [], []⟩, ⟨(.mv (.t 31)), (some 4), none, [], []⟩] h_rLess_4 (σ.kills []) K := rfl
theorem e_rLess_5 (C : FuncId → List AV → AV → Prop) (σ : St) (K : St → Prop) : runReg C r_rLess_5 σ K = runOps C t_rLess_5 (σ.kills []) K := rfl
theorem e_rLess_7 (C : FuncId → List AV → AV → Prop) (σ : St) (K : St → Prop) : runReg C r_rLess_7 σ K = runOps C t_rLess_7 (σ.kills []) K := rfl
theorem fn_rLess {args : List AV} {r : AV} (ha : args.length.ble Tryd.f103.ntmps = true) (h : run (AFn Tryd.prog) ir_rLess (endQ res_rLess r) (initSt args)) : AFn Tryd.prog 103 args r :=
  AFn.of_code (pv := false) (hint := fun _ => []) (c := Tryd.f103.body.getD .skip) (by kernel_rfl) (by kernel_rfl) Tryd.func103 (by kernel_rfl) (by kernel_rfl) (by kernel_rfl) (of_decide_eq_true (by kernel_rfl)) (Nat.le_of_ble_eq_true ha) (Nat.le_of_ble_eq_true (by kernel_rfl)) (run_ok h)
attribute [local go_sem ↓] ir_rLess
attribute [local go_sem] res_rLess e_rLess_0 e_rLess_1 e_rLess_2 t_rLess_2 e_rLess_3 h_rLess_3 e_rLess_4 h_rLess_4 e_rLess_5 t_rLess_5 e_rLess_7 t_rLess_7
theorem refLess (a b : ByteArray) (ha : a.size ≤ 9223372036854775807) (hb : b.size ≤ 9223372036854775807) : AFn Tryd.prog 103 [.str a, .str b] (.bool (leB a b)) := by
  have hla : a.data.toList.length = a.size := by rw [Array.length_toList]; rfl
  have hlb : b.data.toList.length = b.size := by rw [Array.length_toList]; rfl
  refine fn_rLess rfl ?_
  simp (maxSteps := 4000000) only [go_sem, ↓reduceIte, reduceCtorEq, Nat.reduceEqDiff, Nat.reduceBEq, Nat.reduceAdd, Nat.reduceSub, Nat.reduceMul, Nat.reduceLT, Nat.reduceLeDiff, Nat.reduceBNe, Int.reduceBEq, Int.reduceBNe, Int.reduceLT, Int.reduceLE, Opr.a, Spn.a, nul]
  refine run_loop (lessInv a b (leB a b)) (k := a.size) ⟨0, by omega, by omega, rfl, ?_, ?_, ?_, ?_⟩ ?_
  · simp (maxSteps := 4000000) only [go_sem, ↓reduceIte, reduceCtorEq, Nat.reduceEqDiff, Nat.reduceBEq, Nat.reduceAdd, Nat.reduceSub, Nat.reduceMul, Nat.reduceLT, Nat.reduceLeDiff, Nat.reduceBNe, Int.reduceBEq, Int.reduceBNe, Int.reduceLT, Int.reduceLE, Opr.a, Spn.a, nul]
  · simp (maxSteps := 4000000) only [go_sem, ↓reduceIte, reduceCtorEq, Nat.reduceEqDiff, Nat.reduceBEq, Nat.reduceAdd, Nat.reduceSub, Nat.reduceMul, Nat.reduceLT, Nat.reduceLeDiff, Nat.reduceBNe, Int.reduceBEq, Int.reduceBNe, Int.reduceLT, Int.reduceLE, Opr.a, Spn.a, nul]
  · simp (maxSteps := 4000000) only [go_sem, ↓reduceIte, reduceCtorEq, Nat.reduceEqDiff, Nat.reduceBEq, Nat.reduceAdd, Nat.reduceSub, Nat.reduceMul, Nat.reduceLT, Nat.reduceLeDiff, Nat.reduceBNe, Int.reduceBEq, Int.reduceBNe, Int.reduceLT, Int.reduceLE, Opr.a, Spn.a, nul]
    rfl
  · simp only [List.drop_zero, leB, ByteArray.toList_eq]
  rintro k σ ⟨j, hja, hjb, rfl, t0, t1, t5, hr⟩
  simp only [r_rLess_l6]
  by_cases h1 : j < a.size
  · have h1' : (j : Int) < (a.size : Int) := by omega
    by_cases h2 : j < b.size
    · have h2' : (j : Int) < (b.size : Int) := by omega
      have hw : IntKind.i64.wrap ((j : Int) + 1) = ((j + 1 : Nat) : Int) := by rw [IntWalk.i64_in _ (by omega)]; rfl
      rw [drop_less _ _ _ (by omega) (by omega)] at hr
      by_cases h3 : a.data.toList.getD j 0 = b.data.toList.getD j 0
      · rw [if_pos h3] at hr
        simp (maxSteps := 4000000) only [go_sem, ↓reduceIte, reduceCtorEq, Nat.reduceEqDiff, Nat.reduceBEq, Nat.reduceAdd, Nat.reduceSub, Nat.reduceMul, Nat.reduceLT, Nat.reduceLeDiff, Nat.reduceBNe, Int.reduceBEq, Int.reduceBNe, Int.reduceLT, Int.reduceLE, Opr.a, Spn.a, nul, t0, t1, t5, h1', h2', h3, decide_true, Int.toNat_natCast, bne_self_eq_false]
        refine ⟨by omega, by omega, ?_⟩
        refine ⟨a.size - (j + 1), by omega, j + 1, by omega, by omega, rfl, ?_, ?_, ?_, hr⟩ <;>
          (simp (maxSteps := 4000000) only [go_sem, ↓reduceIte, reduceCtorEq, Nat.reduceEqDiff, Nat.reduceBEq, Nat.reduceAdd, Nat.reduceSub, Nat.reduceMul, Nat.reduceLT, Nat.reduceLeDiff, Nat.reduceBNe, Int.reduceBEq, Int.reduceBNe, Int.reduceLT, Int.reduceLE, Opr.a, Spn.a, nul, t0, t1, t5, hw])
      · rw [if_neg h3] at hr
        have h3' : (((a.data.toList.getD j 0).toNat : Int) != ((b.data.toList.getD j 0).toNat : Int)) = true := by
          simp only [bne_iff_ne, ne_eq]
          intro e
          exact h3 (UInt8.toNat.inj (by omega))
        simp (maxSteps := 4000000) only [go_sem, ↓reduceIte, reduceCtorEq, Nat.reduceEqDiff, Nat.reduceBEq, Nat.reduceAdd, Nat.reduceSub, Nat.reduceMul, Nat.reduceLT, Nat.reduceLeDiff, Nat.reduceBNe, Int.reduceBEq, Int.reduceBNe, Int.reduceLT, Int.reduceLE, Opr.a, Spn.a, nul, t0, t1, t5, h1', h2', decide_true, Int.toNat_natCast, h3']
        refine ⟨by omega, by omega, ?_⟩
        rw [← hr]
        simp [UInt8.lt_iff_toNat_lt]
    · have h2' : ¬ (j : Int) < (b.size : Int) := by omega
      simp (maxSteps := 4000000) only [go_sem, ↓reduceIte, reduceCtorEq, Nat.reduceEqDiff, Nat.reduceBEq, Nat.reduceAdd, Nat.reduceSub, Nat.reduceMul, Nat.reduceLT, Nat.reduceLeDiff, Nat.reduceBNe, Int.reduceBEq, Int.reduceBNe, Int.reduceLT, Int.reduceLE, Opr.a, Spn.a, nul, t0, t1, t5, h1', h2', decide_true, decide_false]
      rw [← hr, show j = b.size by omega]
      rw [show b.data.toList.drop b.size = [] by rw [List.drop_eq_nil_of_le (by omega)], kp.less_nil]
      have : ¬ (a.size : Int) < b.size := by omega
      simp [this]
  · have h1' : ¬ (j : Int) < (a.size : Int) := by omega
    simp (maxSteps := 4000000) only [go_sem, ↓reduceIte, reduceCtorEq, Nat.reduceEqDiff, Nat.reduceBEq, Nat.reduceAdd, Nat.reduceSub, Nat.reduceMul, Nat.reduceLT, Nat.reduceLeDiff, Nat.reduceBNe, Int.reduceBEq, Int.reduceBNe, Int.reduceLT, Int.reduceLE, Opr.a, Spn.a, nul, t0, t1, t5, h1', decide_false]
    have e : j = a.size := by omega
    subst e
    rw [← hr, show a.data.toList.drop a.size = [] by rw [List.drop_eq_nil_of_le (by omega)]]
    by_cases h2 : a.size < b.size
    · rw [List.drop_eq_getElem_cons (by omega), kp.nil_less]
      simp; omega
    · rw [List.drop_eq_nil_of_le (by omega), kp.less_nil]
      simp; omega
/-! ### percolate/percolateref02.Has -/
def r_rHas_0 : Reg := ⟨[], [⟨(.box 3 58 (.t 0)), (some 2), none, [], []⟩, ⟨(.mv (.c (.bool false))), (some 4), none, [], []⟩], [2], [], false⟩
def t_rHas_1 : List ROp := [⟨(.mv (.t 1)), (some 5), none, [8, 17], []⟩, ⟨(.faddr 0 (.t 2)), (some 6), none, [8, 17], []⟩, ⟨(.load 1 false (.t 6)), (some 7), none, [8, 17], []⟩, ⟨(.callv (.c (.clo 103 [] [])) [(.t 5), (.t 7)]), (some 8), none, [17], []⟩, ⟨(.un .not (.t 8)), (some 9), none, [17], []⟩, ⟨(.mv (.t 9)), (some 10), none, [17], []⟩, ⟨(.faddr 2 (.t 2)), (some 11), (some (10, true)), [17], []⟩, ⟨(.load 1 false (.t 11)), (some 12), (some (10, true)), [17], []⟩, ⟨(.mv (.t 12)), (some 13), (some (10, true)), [17], []⟩, ⟨(.mv (.t 1)), (some 14), (some (13, false)), [17], []⟩, ⟨(.faddr 1 (.t 2)), (some 15), (some (13, false)), [17], []⟩, ⟨(.load 1 false (.t 15)), (some 16), (some (13, false)), [17], []⟩, ⟨(.callv (.c (.clo 103 [] [])) [(.t 14), (.t 16)]), (some 17), (some (13, false)), [], []⟩, ⟨(.pick (.t 13) (.c (.bool true)) (.t 17)), (some 18), (some (10, true)), [], []⟩, ⟨(.pick (.t 10) (.t 18) (.c (.bool false))), (some 19), none, [], []⟩, ⟨(.mv (.t 19)), (some 4), none, [], []⟩]
def r_rHas_1 : Reg := ⟨[], t_rHas_1, [8, 17], [], false⟩
def ir_rHas : IR := (.seq (.reg r_rHas_0)
  (.seq (.reg r_rHas_1)
  .ret))
def res_rHas : List RDesc := [(.tmp 4)]
theorem e_rHas_0 (C : FuncId → List AV → AV → Prop) (σ : St) (K : St → Prop) : runReg C r_rHas_0 σ K = runOps C [⟨(.box 3 58 (.t 0)), (some 2), none, [], []⟩, ⟨(.mv (.c (.bool false))), (some 4), none, [], []⟩] (σ.kills [2]) K := rfl
theorem e_rHas_1 (C : FuncId → List AV → AV → Prop) (σ : St) (K : St → Prop) : runReg C r_rHas_1 σ K = runOps C t_rHas_1 (σ.kills [8, 17]) K := rfl
theorem fn_rHas {args : List AV} {r : AV} (ha : args.length.ble Tryd.f131.ntmps = true) (h : run (AFn Tryd.prog) ir_rHas (endQ res_rHas r) (initSt args)) : AFn Tryd.prog 131 args r :=
  AFn.of_code (pv := false) (hint := fun _ => []) (c := Tryd.f131.body.getD .skip) (by kernel_rfl) (by kernel_rfl) Tryd.func131 (by kernel_rfl) (by kernel_rfl) (by kernel_rfl) (of_decide_eq_true (by kernel_rfl)) (Nat.le_of_ble_eq_true ha) (Nat.le_of_ble_eq_true (by kernel_rfl)) (run_ok h)
/-! ### percolate/percolateref02.Empty -/
def r_rEmpty_0 : Reg := ⟨[], [⟨(.box 3 58 (.t 0)), (some 1), none, [], []⟩, ⟨(.mv (.c (.bool false))), (some 2), none, [], []⟩], [1], [], false⟩
def t_rEmpty_1 : List ROp := [⟨(.load 3 true (.t 1)), (some 3), none, [6], []⟩, ⟨(.faddr 0 (.t 1)), (some 4), none, [6], []⟩, ⟨(.load 1 false (.t 4)), (some 5), none, [6], []⟩, ⟨(.callv (.c (.clo 131 [] [])) [(.t 3), (.t 5)]), (some 6), none, [], []⟩, ⟨(.un .not (.t 6)), (some 7), none, [], []⟩, ⟨(.mv (.t 7)), (some 2), none, [], []⟩]
def r_rEmpty_1 : Reg := ⟨[], t_rEmpty_1, [6], [], false⟩
def ir_rEmpty : IR := (.seq (.reg r_rEmpty_0)
  (.seq (.reg r_rEmpty_1)
  .ret))
def res_rEmpty : List RDesc := [(.tmp 2)]
theorem e_rEmpty_0 (C : FuncId → List AV → AV → Prop) (σ : St) (K : St → Prop) : runReg C r_rEmpty_0 σ K = runOps C [⟨(.box 3 58 (.t 0)), (some 1), none, [], []⟩, ⟨(.mv (.c (.bool false))), (some 2), none, [], []⟩] (σ.kills [1]) K := rfl
theorem e_rEmpty_1 (C : FuncId → List AV → AV → Prop) (σ : St) (K : St → Prop) : runReg C r_rEmpty_1 σ K = runOps C t_rEmpty_1 (σ.kills [6]) K := rfl
theorem fn_rEmpty {args : List AV} {r : AV} (ha : args.length.ble Tryd.f100.ntmps = true) (h : run (AFn Tryd.prog) ir_rEmpty (endQ res_rEmpty r) (initSt args)) : AFn Tryd.prog 100 args r :=
  AFn.of_code (pv := false) (hint := fun _ => []) (c := Tryd.f100.body.getD .skip) (by kernel_rfl) (by kernel_rfl) Tryd.func100 (by kernel_rfl) (by kernel_rfl) (by kernel_rfl) (of_decide_eq_true (by kernel_rfl)) (Nat.le_of_ble_eq_true ha) (Nat.le_of_ble_eq_true (by kernel_rfl)) (run_ok h)
/-! ### percolate/percolateref07.Span -/
def t_rSpan_0 : List ROp := [⟨(.box 6 43 (.t 0)), (some 1), none, [2], []⟩, ⟨(.alloc 3 58 (.agg [(.str ⟨#[]⟩), (.str ⟨#[]⟩), (.bool false)])), (some 2), none, [], []⟩]
def r_rSpan_0 : Reg := ⟨[], t_rSpan_0, [1, 2], [], false⟩
def t_rSpan_1 : List ROp := [⟨(.faddr 0 (.t 1)), (some 3), none, [], []⟩, ⟨(.load 1 false (.t 3)), (some 4), none, [], []⟩, ⟨(.bin .eql (.t 4) (.c (.int .i64 4))), (some 5), none, [], []⟩, ⟨(.mv (.t 5)), (some 6), none, [], []⟩, ⟨(.faddr 0 (.t 1)), (some 7), (some (6, false)), [], []⟩, ⟨(.load 1 false (.t 7)), (some 8), (some (6, false)), [], []⟩, ⟨(.bin .eql (.t 8) (.c (.int .i64 6))), (some 9), (some (6, false)), [], []⟩, ⟨(.pick (.t 6) (.c (.bool true)) (.t 9)), (some 10), none, [], []⟩]
def r_rSpan_1 : Reg := ⟨[], t_rSpan_1, [], [], false⟩
def t_rSpan_2 : List ROp := [⟨(.faddr 1 (.t 1)), (some 11), none, [], []⟩, ⟨(.load 1 false (.t 11)), (some 12), none, [], []⟩, ⟨(.faddr 2 (.t 1)), (some 13), none, [], []⟩, ⟨(.load 1 false (.t 13)), (some 14), none, [], []⟩, ⟨(.faddr 3 (.t 1)), (some 15), none, [], []⟩, ⟨(.load 1 false (.t 15)), (some 16), none, [], []⟩, ⟨(.bld [(.str ⟨#[]⟩), (.str ⟨#[]⟩), (.bool false)] [⟨0, 1, (.t 12)⟩, ⟨1, 1, (.t 14)⟩, ⟨2, 1, (.t 16)⟩]), (some 17), none, [], []⟩, ⟨(.store 3 (.t 2) (.t 17)), none, none, [], []⟩]
def r_rSpan_2 : Reg := ⟨[], t_rSpan_2, [], [], false⟩
def t_rSpan_3 : List ROp := [⟨(.faddr 1 (.t 1)), (some 18), none, [], []⟩, ⟨(.load 1 false (.t 18)), (some 19), none, [], []⟩, ⟨(.faddr 1 (.t 1)), (some 20), none, [], []⟩, ⟨(.load 1 false (.t 20)), (some 21), none, [], []⟩, ⟨(.bin .add (.t 21) (.c (.str ⟨#[0]⟩))), (some 22), none, [], []⟩, ⟨(.bld [(.str ⟨#[]⟩), (.str ⟨#[]⟩), (.bool false)] [⟨0, 1, (.t 19)⟩, ⟨1, 1, (.t 22)⟩]), (some 23), none, [], []⟩, ⟨(.store 3 (.t 2) (.t 23)), none, none, [], []⟩]
def r_rSpan_3 : Reg := ⟨[], t_rSpan_3, [], [], false⟩
def ir_rSpan : IR := (.seq (.reg r_rSpan_0)
  (.seq (.seq (.reg r_rSpan_1)
  (.cond (.t 10) (.seq (.reg r_rSpan_2)
  .ret)
  .skip))
  (.seq (.reg r_rSpan_3)
  .ret)))
def res_rSpan : List RDesc := [(.cell 2 3 true)]
theorem e_rSpan_0 (C : FuncId → List AV → AV → Prop) (σ : St) (K : St → Prop) : runReg C r_rSpan_0 σ K = runOps C t_rSpan_0 (σ.kills [1, 2]) K := rfl
theorem e_rSpan_1 (C : FuncId → List AV → AV → Prop) (σ : St) (K : St → Prop) : runReg C r_rSpan_1 σ K = runOps C t_rSpan_1 (σ.kills []) K := rfl
theorem e_rSpan_2 (C : FuncId → List AV → AV → Prop) (σ : St) (K : St → Prop) : runReg C r_rSpan_2 σ K = runOps C t_rSpan_2 (σ.kills []) K := rfl
theorem e_rSpan_3 (C : FuncId → List AV → AV → Prop) (σ : St) (K : St → Prop) : runReg C r_rSpan_3 σ K = runOps C t_rSpan_3 (σ.kills []) K := rfl
theorem fn_rSpan {args : List AV} {r : AV} (ha : args.length.ble Tryd.f101.ntmps = true) (h : run (AFn Tryd.prog) ir_rSpan (endQ res_rSpan r) (initSt args)) : AFn Tryd.prog 101 args r :=
  AFn.of_code (pv := false) (hint := fun _ => []) (c := Tryd.f101.body.getD .skip) (by kernel_rfl) (by kernel_rfl) Tryd.func101 (by kernel_rfl) (by kernel_rfl) (by kernel_rfl) (of_decide_eq_true (by kernel_rfl)) (Nat.le_of_ble_eq_true ha) (Nat.le_of_ble_eq_true (by kernel_rfl)) (run_ok h)
/-! ### percolate/percolateref07.Long -/
def r_rLong_0 : Reg := ⟨[], [⟨(.box 6 43 (.t 0)), (some 2), none, [], []⟩, ⟨(.mv (.c (.bool false))), (some 4), none, [], []⟩], [2], [], false⟩
def t_rLong_1 : List ROp := [⟨(.faddr 1 (.t 2)), (some 5), none, [], []⟩, ⟨(.load 1 false (.t 5)), (some 6), none, [], []⟩, ⟨(.len true (.t 6)), (some 7), none, [], []⟩, ⟨(.mv (.t 1)), (some 8), none, [], []⟩, ⟨(.bin .leq (.t 7) (.t 8)), (some 9), none, [], []⟩, ⟨(.mv (.t 9)), (some 10), none, [], []⟩, ⟨(.faddr 2 (.t 2)), (some 11), (some (10, true)), [], []⟩, ⟨(.load 1 false (.t 11)), (some 12), (some (10, true)), [], []⟩, ⟨(.len true (.t 12)), (some 13), (some (10, true)), [], []⟩, ⟨(.mv (.t 1)), (some 14), (some (10, true)), [], []⟩, ⟨(.bin .leq (.t 13) (.t 14)), (some 15), (some (10, true)), [], []⟩, ⟨(.pick (.t 10) (.t 15) (.c (.bool false))), (some 16), none, [], []⟩, ⟨(.mv (.t 16)), (some 17), none, [], []⟩, ⟨(.faddr 4 (.t 2)), (some 18), (some (17, true)), [], []⟩, ⟨(.load 1 false (.t 18)), (some 19), (some (17, true)), [], []⟩, ⟨(.len true (.t 19)), (some 20), (some (17, true)), [], []⟩, ⟨(.mv (.t 1)), (some 21), (some (17, true)), [], []⟩, ⟨(.bin .leq (.t 20) (.t 21)), (some 22), (some (17, true)), [], []⟩, ⟨(.pick (.t 17) (.t 22) (.c (.bool false))), (some 23), none, [], []⟩, ⟨(.mv (.t 23)), (some 4), none, [], []⟩]
def r_rLong_1 : Reg := ⟨[], t_rLong_1, [], [], false⟩
def ir_rLong : IR := (.seq (.reg r_rLong_0)
  (.seq (.reg r_rLong_1)
  .ret))
def res_rLong : List RDesc := [(.tmp 4)]
theorem e_rLong_0 (C : FuncId → List AV → AV → Prop) (σ : St) (K : St → Prop) : runReg C r_rLong_0 σ K = runOps C [⟨(.box 6 43 (.t 0)), (some 2), none, [], []⟩, ⟨(.mv (.c (.bool false))), (some 4), none, [], []⟩] (σ.kills [2]) K := rfl
theorem e_rLong_1 (C : FuncId → List AV → AV → Prop) (σ : St) (K : St → Prop) : runReg C r_rLong_1 σ K = runOps C t_rLong_1 (σ.kills []) K := rfl
theorem fn_rLong {args : List AV} {r : AV} (ha : args.length.ble Tryd.f49.ntmps = true) (h : run (AFn Tryd.prog) ir_rLong (endQ res_rLong r) (initSt args)) : AFn Tryd.prog 49 args r :=
  AFn.of_code (pv := false) (hint := fun _ => []) (c := Tryd.f49.body.getD .skip) (by kernel_rfl) (by kernel_rfl) Tryd.func49 (by kernel_rfl) (by kernel_rfl) (by kernel_rfl) (of_decide_eq_true (by kernel_rfl)) (Nat.le_of_ble_eq_true ha) (Nat.le_of_ble_eq_true (by kernel_rfl)) (run_ok h)
attribute [local go_sem ↓] ir_rHas
attribute [local go_sem] res_rHas e_rHas_0 e_rHas_1 t_rHas_1
attribute [local go_sem ↓] ir_rEmpty
attribute [local go_sem] res_rEmpty e_rEmpty_0 e_rEmpty_1 t_rEmpty_1
attribute [local go_sem ↓] ir_rSpan
attribute [local go_sem] res_rSpan e_rSpan_0 t_rSpan_0 e_rSpan_1 t_rSpan_1 e_rSpan_2 t_rSpan_2 e_rSpan_3 t_rSpan_3
attribute [local go_sem ↓] ir_rLong
attribute [local go_sem] res_rLong e_rLong_0 e_rLong_1 t_rLong_1
theorem rEmpty_ok (s : Spn) (h1 : s.lo.size ≤ 9000000000) (h2 : s.hi.size ≤ 9000000000) : AFn Tryd.prog 100 [s.a] (.bool s.empty) := by
  have hi : leB s.lo s.lo = false := kp.less_irrefl _
  have has : AFn Tryd.prog 131 [s.a, .str s.lo] (.bool (!s.empty)) := by
    refine fn_rHas rfl ?_
    unfold Spn.empty
    simp (maxSteps := 4000000) only [go_sem, ↓reduceIte, reduceCtorEq, Nat.reduceEqDiff, Nat.reduceBEq, Nat.reduceAdd, Nat.reduceSub, Nat.reduceMul, Nat.reduceLT, Nat.reduceLeDiff, Nat.reduceBNe, Int.reduceBEq, Int.reduceBNe, Int.reduceLT, Int.reduceLE, Opr.a, Spn.a, nul]
    (first | refine calling (refLess s.lo s.lo (by omega) (by omega)) ?_ | refine callingH (refLess s.lo s.lo (by omega) (by omega)) ?_)
    cases h3 : s.op with
    | true => simp (maxSteps := 4000000) only [go_sem, ↓reduceIte, reduceCtorEq, Nat.reduceEqDiff, Nat.reduceBEq, Nat.reduceAdd, Nat.reduceSub, Nat.reduceMul, Nat.reduceLT, Nat.reduceLeDiff, Nat.reduceBNe, Int.reduceBEq, Int.reduceBNe, Int.reduceLT, Int.reduceLE, Opr.a, Spn.a, nul, hi, h3]
    | false =>
      simp (maxSteps := 4000000) only [go_sem, ↓reduceIte, reduceCtorEq, Nat.reduceEqDiff, Nat.reduceBEq, Nat.reduceAdd, Nat.reduceSub, Nat.reduceMul, Nat.reduceLT, Nat.reduceLeDiff, Nat.reduceBNe, Int.reduceBEq, Int.reduceBNe, Int.reduceLT, Int.reduceLE, Opr.a, Spn.a, nul, hi, h3]
      (first | refine calling (refLess s.lo s.hi (by omega) (by omega)) ?_ | refine callingH (refLess s.lo s.hi (by omega) (by omega)) ?_)
      simp (maxSteps := 4000000) only [go_sem, ↓reduceIte, reduceCtorEq, Nat.reduceEqDiff, Nat.reduceBEq, Nat.reduceAdd, Nat.reduceSub, Nat.reduceMul, Nat.reduceLT, Nat.reduceLeDiff, Nat.reduceBNe, Int.reduceBEq, Int.reduceBNe, Int.reduceLT, Int.reduceLE, Opr.a, Spn.a, nul, hi, h3]
  refine fn_rEmpty rfl ?_
  simp (maxSteps := 4000000) only [go_sem, ↓reduceIte, reduceCtorEq, Nat.reduceEqDiff, Nat.reduceBEq, Nat.reduceAdd, Nat.reduceSub, Nat.reduceMul, Nat.reduceLT, Nat.reduceLeDiff, Nat.reduceBNe, Int.reduceBEq, Int.reduceBNe, Int.reduceLT, Int.reduceLE, Opr.a, Spn.a, nul]
  (first | refine calling has ?_ | refine callingH has ?_)
  simp (maxSteps := 4000000) only [go_sem, ↓reduceIte, reduceCtorEq, Nat.reduceEqDiff, Nat.reduceBEq, Nat.reduceAdd, Nat.reduceSub, Nat.reduceMul, Nat.reduceLT, Nat.reduceLeDiff, Nat.reduceBNe, Int.reduceBEq, Int.reduceBNe, Int.reduceLT, Int.reduceLE, Opr.a, Spn.a, nul]
theorem rSpan_ok (o : Opr) (h : o.key.size ≤ 9000000000) : AFn Tryd.prog 101 [o.a] o.span.a := by
  refine fn_rSpan rfl ?_
  unfold Opr.span Opr.ranged nextB
  have z1 : (ByteArray.mk #[0]).size = 1 := rfl
  cases h4 : (o.kind == 4) <;> cases h6 : (o.kind == 6) <;> (simp (maxSteps := 4000000) only [go_sem, ↓reduceIte, reduceCtorEq, Nat.reduceEqDiff, Nat.reduceBEq, Nat.reduceAdd, Nat.reduceSub, Nat.reduceMul, Nat.reduceLT, Nat.reduceLeDiff, Nat.reduceBNe, Int.reduceBEq, Int.reduceBNe, Int.reduceLT, Int.reduceLE, Opr.a, Spn.a, nul, h4, h6, Bool.or_self, z1]; try omega)
def Opr.long (o : Opr) (n : Int) : Bool := decide ((o.key.size : Int) ≤ n) && decide ((o.hi.size : Int) ≤ n) && decide ((o.val.size : Int) ≤ n)
theorem rLong_ok (o : Opr) (n : Int) : AFn Tryd.prog 49 [o.a, .int .i64 n] (.bool (o.long n)) := by
  refine fn_rLong rfl ?_
  unfold Opr.long
  by_cases h1 : (o.key.size : Int) ≤ n <;> by_cases h2 : (o.hi.size : Int) ≤ n <;> by_cases h3 : (o.val.size : Int) ≤ n <;> (simp (maxSteps := 4000000) only [go_sem, ↓reduceIte, reduceCtorEq, Nat.reduceEqDiff, Nat.reduceBEq, Nat.reduceAdd, Nat.reduceSub, Nat.reduceMul, Nat.reduceLT, Nat.reduceLeDiff, Nat.reduceBNe, Int.reduceBEq, Int.reduceBNe, Int.reduceLT, Int.reduceLE, Opr.a, Spn.a, nul, h1, h2, h3])
/-! ### percolate/percolateref07.Right -/
def r_rRight_0 : Reg := ⟨[], [⟨(.box 6 43 (.t 0)), (some 1), none, [], []⟩, ⟨(.mv (.c (.bool false))), (some 2), none, [], []⟩], [1], [], false⟩
def t_rRight_1 : List ROp := [⟨(.faddr 0 (.t 1)), (some 3), none, [], []⟩, ⟨(.load 1 false (.t 3)), (some 4), none, [], []⟩, ⟨(.bin .lss (.t 4) (.c (.int .i64 1))), (some 5), none, [], []⟩, ⟨(.mv (.t 5)), (some 6), none, [], []⟩, ⟨(.faddr 0 (.t 1)), (some 7), (some (6, false)), [], []⟩, ⟨(.load 1 false (.t 7)), (some 8), (some (6, false)), [], []⟩, ⟨(.bin .gtr (.t 8) (.c (.int .i64 6))), (some 9), (some (6, false)), [], []⟩, ⟨(.pick (.t 6) (.c (.bool true)) (.t 9)), (some 10), none, [], []⟩, ⟨(.mv (.t 10)), (some 11), none, [], []⟩, ⟨(.faddr 1 (.t 1)), (some 12), (some (11, false)), [], []⟩, ⟨(.load 1 false (.t 12)), (some 13), (some (11, false)), [], []⟩, ⟨(.len true (.t 13)), (some 14), (some (11, false)), [], []⟩, ⟨(.bin .gtr (.t 14) (.c (.int .i64 16))), (some 15), (some (11, false)), [], []⟩, ⟨(.pick (.t 11) (.c (.bool true)) (.t 15)), (some 16), none, [], []⟩, ⟨(.mv (.t 16)), (some 17), none, [], []⟩, ⟨(.faddr 2 (.t 1)), (some 18), (some (17, false)), [], []⟩, ⟨(.load 1 false (.t 18)), (some 19), (some (17, false)), [], []⟩, ⟨(.len true (.t 19)), (some 20), (some (17, false)), [], []⟩, ⟨(.bin .gtr (.t 20) (.c (.int .i64 16))), (some 21), (some (17, false)), [], []⟩, ⟨(.pick (.t 17) (.c (.bool true)) (.t 21)), (some 22), none, [], []⟩, ⟨(.mv (.t 22)), (some 23), none, [], []⟩, ⟨(.faddr 4 (.t 1)), (some 24), (some (23, false)), [], []⟩, ⟨(.load 1 false (.t 24)), (some 25), (some (23, false)), [], []⟩, ⟨(.len true (.t 25)), (some 26), (some (23, false)), [], []⟩, ⟨(.bin .gtr (.t 26) (.c (.int .i64 16))), (some 27), (some (23, false)), [], []⟩, ⟨(.pick (.t 23) (.c (.bool true)) (.t 27)), (some 28), none, [], []⟩]
def r_rRight_1 : Reg := ⟨[], t_rRight_1, [], [], false⟩
def r_rRight_2 : Reg := ⟨[], [⟨(.mv (.c (.bool false))), (some 2), none, [], []⟩], [], [], false⟩
def t_rRight_3 : List ROp := [⟨(.faddr 0 (.t 1)), (some 29), none, [], []⟩, ⟨(.load 1 false (.t 29)), (some 30), none, [], []⟩, ⟨(.bin .gtr (.t 30) (.c (.int .i64 2))), (some 31), none, [], []⟩, ⟨(.mv (.t 31)), (some 32), none, [], []⟩, ⟨(.faddr 4 (.t 1)), (some 33), (some (32, true)), [], []⟩, ⟨(.load 1 false (.t 33)), (some 34), (some (32, true)), [], []⟩, ⟨(.bin .neq (.t 34) (.c (.str ⟨#[]⟩))), (some 35), (some (32, true)), [], []⟩, ⟨(.pick (.t 32) (.t 35) (.c (.bool false))), (some 36), none, [], []⟩, ⟨(.mv (.t 36)), (some 37), none, [], []⟩, ⟨(.faddr 0 (.t 1)), (some 38), (some (37, false)), [], []⟩, ⟨(.load 1 false (.t 38)), (some 39), (some (37, false)), [], []⟩, ⟨(.bin .neq (.t 39) (.c (.int .i64 6))), (some 40), (some (37, false)), [], []⟩, ⟨(.mv (.t 40)), (some 41), (some (37, false)), [], []⟩, ⟨(.faddr 5 (.t 1)), (some 42), (some (41, true)), [], []⟩, ⟨(.load 1 false (.t 42)), (some 43), (some (41, true)), [], []⟩, ⟨(.bin .neq (.t 43) (.c (.int .i64 0))), (some 44), (some (41, true)), [], []⟩, ⟨(.pick (.t 41) (.t 44) (.c (.bool false))), (some 45), (some (37, false)), [], []⟩, ⟨(.pick (.t 37) (.c (.bool true)) (.t 45)), (some 46), none, [], []⟩, ⟨(.mv (.t 46)), (some 47), none, [], []⟩, ⟨(.faddr 0 (.t 1)), (some 48), (some (47, false)), [], []⟩, ⟨(.load 1 false (.t 48)), (some 49), (some (47, false)), [], []⟩, ⟨(.bin .eql (.t 49) (.c (.int .i64 6))), (some 50), (some (47, false)), [], []⟩, ⟨(.mv (.t 50)), (some 51), (some (47, false)), [], []⟩, ⟨(.faddr 5 (.t 1)), (some 52), (some (51, true)), [], []⟩, ⟨(.load 1 false (.t 52)), (some 53), (some (51, true)), [], []⟩, ⟨(.bin .lss (.t 53) (.c (.int .i64 1))), (some 54), (some (51, true)), [], []⟩, ⟨(.mv (.t 54)), (some 55), (some (51, true)), [], []⟩, ⟨(.faddr 5 (.t 1)), (some 56), (some (55, false)), [], []⟩, ⟨(.load 1 false (.t 56)), (some 57), (some (55, false)), [], []⟩, ⟨(.bin .gtr (.t 57) (.c (.int .i64 64))), (some 58), (some (55, false)), [], []⟩, ⟨(.pick (.t 55) (.c (.bool true)) (.t 58)), (some 59), (some (51, true)), [], []⟩, ⟨(.pick (.t 51) (.t 59) (.c (.bool false))), (some 60), (some (47, false)), [], []⟩, ⟨(.pick (.t 47) (.c (.bool true)) (.t 60)), (some 61), none, [], []⟩]
def r_rRight_3 : Reg := ⟨[], t_rRight_3, [], [], false⟩
def r_rRight_4 : Reg := ⟨[], [⟨(.mv (.c (.bool false))), (some 2), none, [], []⟩], [], [], false⟩
def t_rRight_5 : List ROp := [⟨(.faddr 0 (.t 1)), (some 62), none, [], []⟩, ⟨(.load 1 false (.t 62)), (some 63), none, [], []⟩, ⟨(.bin .eql (.t 63) (.c (.int .i64 4))), (some 64), none, [], []⟩, ⟨(.mv (.t 64)), (some 65), none, [], []⟩, ⟨(.faddr 0 (.t 1)), (some 66), (some (65, false)), [], []⟩, ⟨(.load 1 false (.t 66)), (some 67), (some (65, false)), [], []⟩, ⟨(.bin .eql (.t 67) (.c (.int .i64 6))), (some 68), (some (65, false)), [], []⟩, ⟨(.pick (.t 65) (.c (.bool true)) (.t 68)), (some 69), none, [], []⟩]
def r_rRight_5 : Reg := ⟨[], t_rRight_5, [], [], false⟩
def t_rRight_6 : List ROp := [⟨(.load 6 true (.t 1)), (some 70), none, [71, 72], []⟩, ⟨(.callv (.c (.clo 101 [] [])) [(.t 70)]), (some 71), none, [72], []⟩, ⟨(.callv (.c (.clo 100 [] [])) [(.t 71)]), (some 72), none, [], []⟩, ⟨(.un .not (.t 72)), (some 73), none, [], []⟩, ⟨(.mv (.t 73)), (some 74), none, [], []⟩, ⟨(.faddr 3 (.t 1)), (some 75), (some (74, true)), [], []⟩, ⟨(.load 1 false (.t 75)), (some 76), (some (74, true)), [], []⟩, ⟨(.un .not (.t 76)), (some 77), (some (74, true)), [], []⟩, ⟨(.mv (.t 77)), (some 78), (some (74, true)), [], []⟩, ⟨(.faddr 2 (.t 1)), (some 79), (some (78, false)), [], []⟩, ⟨(.load 1 false (.t 79)), (some 80), (some (78, false)), [], []⟩, ⟨(.bin .eql (.t 80) (.c (.str ⟨#[]⟩))), (some 81), (some (78, false)), [], []⟩, ⟨(.pick (.t 78) (.c (.bool true)) (.t 81)), (some 82), (some (74, true)), [], []⟩, ⟨(.pick (.t 74) (.t 82) (.c (.bool false))), (some 83), none, [], []⟩, ⟨(.mv (.t 83)), (some 2), none, [], []⟩]
def r_rRight_6 : Reg := ⟨[], t_rRight_6, [71, 72], [], false⟩
def t_rRight_7 : List ROp := [⟨(.faddr 2 (.t 1)), (some 84), none, [], []⟩, ⟨(.load 1 false (.t 84)), (some 85), none, [], []⟩, ⟨(.bin .eql (.t 85) (.c (.str ⟨#[]⟩))), (some 86), none, [], []⟩, ⟨(.mv (.t 86)), (some 87), none, [], []⟩, ⟨(.faddr 3 (.t 1)), (some 88), (some (87, true)), [], []⟩, ⟨(.load 1 false (.t 88)), (some 89), (some (87, true)), [], []⟩, ⟨(.un .not (.t 89)), (some 90), (some (87, true)), [], []⟩, ⟨(.pick (.t 87) (.t 90) (.c (.bool false))), (some 91), none, [], []⟩, ⟨(.mv (.t 91)), (some 2), none, [], []⟩]
def r_rRight_7 : Reg := ⟨[], t_rRight_7, [], [], false⟩
def ir_rRight : IR := (.seq (.reg r_rRight_0)
  (.seq (.seq (.reg r_rRight_1)
  (.cond (.t 28) (.seq (.reg r_rRight_2)
  .ret)
  .skip))
  (.seq (.seq (.reg r_rRight_3)
  (.cond (.t 61) (.seq (.reg r_rRight_4)
  .ret)
  .skip))
  (.seq (.seq (.reg r_rRight_5)
  (.cond (.t 69) (.seq (.reg r_rRight_6)
  .ret)
  .skip))
  (.seq (.reg r_rRight_7)
  .ret)))))
def res_rRight : List RDesc := [(.tmp 2)]
theorem e_rRight_0 (C : FuncId → List AV → AV → Prop) (σ : St) (K : St → Prop) : runReg C r_rRight_0 σ K = runOps C [⟨(.box 6 43 (.t 0)), (some 1), none, [], []⟩, ⟨(.mv (.c (.bool false))), (some 2), none, [], []⟩] (σ.kills [1]) K := rfl
theorem e_rRight_1 (C : FuncId → List AV → AV → Prop) (σ : St) (K : St → Prop) : runReg C r_rRight_1 σ K = runOps C t_rRight_1 (σ.kills []) K := rfl
theorem e_rRight_2 (C : FuncId → List AV → AV → Prop) (σ : St) (K : St → Prop) : runReg C r_rRight_2 σ K = runOps C [⟨(.mv (.c (.bool false))), (some 2), none, [], []⟩] (σ.kills []) K := rfl
theorem e_rRight_3 (C : FuncId → List AV → AV → Prop) (σ : St) (K : St → Prop) : runReg C r_rRight_3 σ K = runOps C t_rRight_3 (σ.kills []) K := rfl
theorem e_rRight_4 (C : FuncId → List AV → AV → Prop) (σ : St) (K : St → Prop) : runReg C r_rRight_4 σ K = runOps C [⟨(.mv (.c (.bool false))), (some 2), none, [], []⟩] (σ.kills []) K := rfl
theorem e_rRight_5 (C : FuncId → List AV → AV → Prop) (σ : St) (K : St → Prop) : runReg C r_rRight_5 σ K = runOps C t_rRight_5 (σ.kills []) K := rfl
theorem e_rRight_6 (C : FuncId → List AV → AV → Prop) (σ : St) (K : St → Prop) : runReg C r_rRight_6 σ K = runOps C t_rRight_6 (σ.kills [71, 72]) K := rfl
theorem e_rRight_7 (C : FuncId → List AV → AV → Prop) (σ : St) (K : St → Prop) : runReg C r_rRight_7 σ K = runOps C t_rRight_7 (σ.kills []) K := rfl
theorem fn_rRight {args : List AV} {r : AV} (ha : args.length.ble Tryd.f65.ntmps = true) (h : run (AFn Tryd.prog) ir_rRight (endQ res_rRight r) (initSt args)) : AFn Tryd.prog 65 args r :=
  AFn.of_code (pv := false) (hint := fun _ => []) (c := Tryd.f65.body.getD .skip) (by kernel_rfl) (by kernel_rfl) Tryd.func65 (by kernel_rfl) (by kernel_rfl) (by kernel_rfl) (of_decide_eq_true (by kernel_rfl)) (Nat.le_of_ble_eq_true ha) (Nat.le_of_ble_eq_true (by kernel_rfl)) (run_ok h)
attribute [local go_sem ↓] ir_rRight
attribute [local go_sem] res_rRight e_rRight_0 e_rRight_1 t_rRight_1 e_rRight_2 e_rRight_3 t_rRight_3 e_rRight_4 e_rRight_5 t_rRight_5 e_rRight_6 t_rRight_6 e_rRight_7 t_rRight_7
set_option maxHeartbeats 4000000 in
theorem rRight_ok (o : Opr) (h : o.key.size ≤ 9000000000) (hh : o.hi.size ≤ 9000000000) : AFn Tryd.prog 65 [o.a] (.bool o.right) := by
  refine fn_rRight rfl ?_
  have hHI := hh
  clear hh
  obtain ⟨kind, key, hi, op, val, lim⟩ := o
  have sE0 : ∀ k, k = 4 ∨ k = 6 → AFn Tryd.prog 101 [.agg [.int .i64 k, .str key, .str hi, .bool op, .str val, .int .i64 lim]] (.agg [.str key, .str hi, .bool op]) := fun k hk => by
    have := rSpan_ok ⟨k, key, hi, op, val, lim⟩ h
    have e : Opr.span ⟨k, key, hi, op, val, lim⟩ = ⟨key, hi, op⟩ := by rcases hk with rfl | rfl <;> rfl
    rw [e] at this
    exact this
  have eE : AFn Tryd.prog 100 [.agg [.str key, .str hi, .bool op]] (.bool (!op && !leB key hi)) := rEmpty_ok ⟨key, hi, op⟩ h hHI
  have hk : kind < 1 ∨ 6 < kind ∨ kind = 1 ∨ kind = 2 ∨ kind = 3 ∨ kind = 4 ∨ kind = 5 ∨ kind = 6 := by omega
  rcases hk with hk | hk | rfl | rfl | rfl | rfl | rfl | rfl
  · have k1 : ¬ 1 ≤ kind := by omega
    have ans : Opr.right ⟨kind, key, hi, op, val, lim⟩ = false := by unfold Opr.right; simp [k1]
    rw [ans]
    simp (maxSteps := 4000000) only [go_sem, ↓reduceIte, reduceCtorEq, Nat.reduceEqDiff, Nat.reduceBEq, Nat.reduceAdd, Nat.reduceSub, Nat.reduceMul, Nat.reduceLT, Nat.reduceLeDiff, Nat.reduceBNe, Int.reduceBEq, Int.reduceBNe, Int.reduceLT, Int.reduceLE, Opr.a, Spn.a, nul, hk]
  · have k1 : 1 ≤ kind := by omega
    have k2 : ¬ kind ≤ 6 := by omega
    have k3 : ¬ kind < 1 := by omega
    have ans : Opr.right ⟨kind, key, hi, op, val, lim⟩ = false := by unfold Opr.right; simp [k1, k2]
    rw [ans]
    simp (maxSteps := 4000000) only [go_sem, ↓reduceIte, reduceCtorEq, Nat.reduceEqDiff, Nat.reduceBEq, Nat.reduceAdd, Nat.reduceSub, Nat.reduceMul, Nat.reduceLT, Nat.reduceLeDiff, Nat.reduceBNe, Int.reduceBEq, Int.reduceBNe, Int.reduceLT, Int.reduceLE, Opr.a, Spn.a, nul, hk, k3]
  · -- kind 1
    by_cases ha : (key.size : Int) ≤ 16
    case neg =>
      have g0 : 16 < (key.size : Int) := by omega
      (repeat (first | simp (maxSteps := 4000000) only [go_sem, ↓reduceIte, reduceCtorEq, Nat.reduceEqDiff, Nat.reduceBEq, Nat.reduceAdd, Nat.reduceSub, Nat.reduceMul, Nat.reduceLT, Nat.reduceLeDiff, Nat.reduceBNe, Int.reduceBEq, Int.reduceBNe, Int.reduceLT, Int.reduceLE, Opr.a, Spn.a, nul, Opr.right, Opr.valued, Opr.ranged, Spn.empty, nilB, Int.reduceBEq, Bool.or_self, ha, g0] | refine calling (rSpan_ok ⟨kind, key, hi, op, val, lim⟩ h) ?_ | refine callingH (rSpan_ok ⟨kind, key, hi, op, val, lim⟩ h) ?_ | refine And.intro (by omega) ?_ | refine And.intro (fun d hd => by (repeat (rcases hd with rfl | hd; · exact ⟨rfl, rfl⟩)); cases hd) ?_))
    have ga : ¬ 16 < (key.size : Int) := by omega
    by_cases hb : (hi.size : Int) ≤ 16
    case neg =>
      have g0 : 16 < (hi.size : Int) := by omega
      (repeat (first | simp (maxSteps := 4000000) only [go_sem, ↓reduceIte, reduceCtorEq, Nat.reduceEqDiff, Nat.reduceBEq, Nat.reduceAdd, Nat.reduceSub, Nat.reduceMul, Nat.reduceLT, Nat.reduceLeDiff, Nat.reduceBNe, Int.reduceBEq, Int.reduceBNe, Int.reduceLT, Int.reduceLE, Opr.a, Spn.a, nul, Opr.right, Opr.valued, Opr.ranged, Spn.empty, nilB, Int.reduceBEq, Bool.or_self, ha, ga, hb, g0] | refine calling (rSpan_ok ⟨kind, key, hi, op, val, lim⟩ h) ?_ | refine callingH (rSpan_ok ⟨kind, key, hi, op, val, lim⟩ h) ?_ | refine And.intro (by omega) ?_ | refine And.intro (fun d hd => by (repeat (rcases hd with rfl | hd; · exact ⟨rfl, rfl⟩)); cases hd) ?_))
    have gb : ¬ 16 < (hi.size : Int) := by omega
    by_cases hc : (val.size : Int) ≤ 16
    case neg =>
      have g0 : 16 < (val.size : Int) := by omega
      (repeat (first | simp (maxSteps := 4000000) only [go_sem, ↓reduceIte, reduceCtorEq, Nat.reduceEqDiff, Nat.reduceBEq, Nat.reduceAdd, Nat.reduceSub, Nat.reduceMul, Nat.reduceLT, Nat.reduceLeDiff, Nat.reduceBNe, Int.reduceBEq, Int.reduceBNe, Int.reduceLT, Int.reduceLE, Opr.a, Spn.a, nul, Opr.right, Opr.valued, Opr.ranged, Spn.empty, nilB, Int.reduceBEq, Bool.or_self, ha, ga, hb, gb, hc, g0] | refine calling (rSpan_ok ⟨kind, key, hi, op, val, lim⟩ h) ?_ | refine callingH (rSpan_ok ⟨kind, key, hi, op, val, lim⟩ h) ?_ | refine And.intro (by omega) ?_ | refine And.intro (fun d hd => by (repeat (rcases hd with rfl | hd; · exact ⟨rfl, rfl⟩)); cases hd) ?_))
    have gc : ¬ 16 < (val.size : Int) := by omega
    cases hz : (lim == 0)
    case false =>
      have hz' : (lim != 0) = true := by rw [bne, hz]; rfl
      (repeat (first | simp (maxSteps := 4000000) only [go_sem, ↓reduceIte, reduceCtorEq, Nat.reduceEqDiff, Nat.reduceBEq, Nat.reduceAdd, Nat.reduceSub, Nat.reduceMul, Nat.reduceLT, Nat.reduceLeDiff, Nat.reduceBNe, Int.reduceBEq, Int.reduceBNe, Int.reduceLT, Int.reduceLE, Opr.a, Spn.a, nul, Opr.right, Opr.valued, Opr.ranged, Spn.empty, nilB, Int.reduceBEq, Bool.or_self, ha, ga, hb, gb, hc, gc, hz, hz'] | refine calling (rSpan_ok ⟨kind, key, hi, op, val, lim⟩ h) ?_ | refine callingH (rSpan_ok ⟨kind, key, hi, op, val, lim⟩ h) ?_ | refine And.intro (by omega) ?_ | refine And.intro (fun d hd => by (repeat (rcases hd with rfl | hd; · exact ⟨rfl, rfl⟩)); cases hd) ?_))
    have hz' : (lim != 0) = false := by rw [bne, hz]; rfl
    cases hh : (hi.toList == (ByteArray.mk #[]).toList) <;> cases op <;> (repeat (first | simp (maxSteps := 4000000) only [go_sem, ↓reduceIte, reduceCtorEq, Nat.reduceEqDiff, Nat.reduceBEq, Nat.reduceAdd, Nat.reduceSub, Nat.reduceMul, Nat.reduceLT, Nat.reduceLeDiff, Nat.reduceBNe, Int.reduceBEq, Int.reduceBNe, Int.reduceLT, Int.reduceLE, Opr.a, Spn.a, nul, Opr.right, Opr.valued, Opr.ranged, Spn.empty, nilB, Int.reduceBEq, Bool.or_self, ha, ga, hb, gb, hc, gc, hz, hz', hh] | refine calling (rSpan_ok ⟨kind, key, hi, op, val, lim⟩ h) ?_ | refine callingH (rSpan_ok ⟨kind, key, hi, op, val, lim⟩ h) ?_ | refine And.intro (by omega) ?_ | refine And.intro (fun d hd => by (repeat (rcases hd with rfl | hd; · exact ⟨rfl, rfl⟩)); cases hd) ?_))
  · -- kind 2
    by_cases ha : (key.size : Int) ≤ 16
    case neg =>
      have g0 : 16 < (key.size : Int) := by omega
      (repeat (first | simp (maxSteps := 4000000) only [go_sem, ↓reduceIte, reduceCtorEq, Nat.reduceEqDiff, Nat.reduceBEq, Nat.reduceAdd, Nat.reduceSub, Nat.reduceMul, Nat.reduceLT, Nat.reduceLeDiff, Nat.reduceBNe, Int.reduceBEq, Int.reduceBNe, Int.reduceLT, Int.reduceLE, Opr.a, Spn.a, nul, Opr.right, Opr.valued, Opr.ranged, Spn.empty, nilB, Int.reduceBEq, Bool.or_self, ha, g0] | refine calling (rSpan_ok ⟨kind, key, hi, op, val, lim⟩ h) ?_ | refine callingH (rSpan_ok ⟨kind, key, hi, op, val, lim⟩ h) ?_ | refine And.intro (by omega) ?_ | refine And.intro (fun d hd => by (repeat (rcases hd with rfl | hd; · exact ⟨rfl, rfl⟩)); cases hd) ?_))
    have ga : ¬ 16 < (key.size : Int) := by omega
    by_cases hb : (hi.size : Int) ≤ 16
    case neg =>
      have g0 : 16 < (hi.size : Int) := by omega
      (repeat (first | simp (maxSteps := 4000000) only [go_sem, ↓reduceIte, reduceCtorEq, Nat.reduceEqDiff, Nat.reduceBEq, Nat.reduceAdd, Nat.reduceSub, Nat.reduceMul, Nat.reduceLT, Nat.reduceLeDiff, Nat.reduceBNe, Int.reduceBEq, Int.reduceBNe, Int.reduceLT, Int.reduceLE, Opr.a, Spn.a, nul, Opr.right, Opr.valued, Opr.ranged, Spn.empty, nilB, Int.reduceBEq, Bool.or_self, ha, ga, hb, g0] | refine calling (rSpan_ok ⟨kind, key, hi, op, val, lim⟩ h) ?_ | refine callingH (rSpan_ok ⟨kind, key, hi, op, val, lim⟩ h) ?_ | refine And.intro (by omega) ?_ | refine And.intro (fun d hd => by (repeat (rcases hd with rfl | hd; · exact ⟨rfl, rfl⟩)); cases hd) ?_))
    have gb : ¬ 16 < (hi.size : Int) := by omega
    by_cases hc : (val.size : Int) ≤ 16
    case neg =>
      have g0 : 16 < (val.size : Int) := by omega
      (repeat (first | simp (maxSteps := 4000000) only [go_sem, ↓reduceIte, reduceCtorEq, Nat.reduceEqDiff, Nat.reduceBEq, Nat.reduceAdd, Nat.reduceSub, Nat.reduceMul, Nat.reduceLT, Nat.reduceLeDiff, Nat.reduceBNe, Int.reduceBEq, Int.reduceBNe, Int.reduceLT, Int.reduceLE, Opr.a, Spn.a, nul, Opr.right, Opr.valued, Opr.ranged, Spn.empty, nilB, Int.reduceBEq, Bool.or_self, ha, ga, hb, gb, hc, g0] | refine calling (rSpan_ok ⟨kind, key, hi, op, val, lim⟩ h) ?_ | refine callingH (rSpan_ok ⟨kind, key, hi, op, val, lim⟩ h) ?_ | refine And.intro (by omega) ?_ | refine And.intro (fun d hd => by (repeat (rcases hd with rfl | hd; · exact ⟨rfl, rfl⟩)); cases hd) ?_))
    have gc : ¬ 16 < (val.size : Int) := by omega
    cases hz : (lim == 0)
    case false =>
      have hz' : (lim != 0) = true := by rw [bne, hz]; rfl
      (repeat (first | simp (maxSteps := 4000000) only [go_sem, ↓reduceIte, reduceCtorEq, Nat.reduceEqDiff, Nat.reduceBEq, Nat.reduceAdd, Nat.reduceSub, Nat.reduceMul, Nat.reduceLT, Nat.reduceLeDiff, Nat.reduceBNe, Int.reduceBEq, Int.reduceBNe, Int.reduceLT, Int.reduceLE, Opr.a, Spn.a, nul, Opr.right, Opr.valued, Opr.ranged, Spn.empty, nilB, Int.reduceBEq, Bool.or_self, ha, ga, hb, gb, hc, gc, hz, hz'] | refine calling (rSpan_ok ⟨kind, key, hi, op, val, lim⟩ h) ?_ | refine callingH (rSpan_ok ⟨kind, key, hi, op, val, lim⟩ h) ?_ | refine And.intro (by omega) ?_ | refine And.intro (fun d hd => by (repeat (rcases hd with rfl | hd; · exact ⟨rfl, rfl⟩)); cases hd) ?_))
    have hz' : (lim != 0) = false := by rw [bne, hz]; rfl
    cases hh : (hi.toList == (ByteArray.mk #[]).toList) <;> cases op <;> (repeat (first | simp (maxSteps := 4000000) only [go_sem, ↓reduceIte, reduceCtorEq, Nat.reduceEqDiff, Nat.reduceBEq, Nat.reduceAdd, Nat.reduceSub, Nat.reduceMul, Nat.reduceLT, Nat.reduceLeDiff, Nat.reduceBNe, Int.reduceBEq, Int.reduceBNe, Int.reduceLT, Int.reduceLE, Opr.a, Spn.a, nul, Opr.right, Opr.valued, Opr.ranged, Spn.empty, nilB, Int.reduceBEq, Bool.or_self, ha, ga, hb, gb, hc, gc, hz, hz', hh] | refine calling (rSpan_ok ⟨kind, key, hi, op, val, lim⟩ h) ?_ | refine callingH (rSpan_ok ⟨kind, key, hi, op, val, lim⟩ h) ?_ | refine And.intro (by omega) ?_ | refine And.intro (fun d hd => by (repeat (rcases hd with rfl | hd; · exact ⟨rfl, rfl⟩)); cases hd) ?_))
  · -- kind 3
    by_cases ha : (key.size : Int) ≤ 16
    case neg =>
      have g0 : 16 < (key.size : Int) := by omega
      (repeat (first | simp (maxSteps := 4000000) only [go_sem, ↓reduceIte, reduceCtorEq, Nat.reduceEqDiff, Nat.reduceBEq, Nat.reduceAdd, Nat.reduceSub, Nat.reduceMul, Nat.reduceLT, Nat.reduceLeDiff, Nat.reduceBNe, Int.reduceBEq, Int.reduceBNe, Int.reduceLT, Int.reduceLE, Opr.a, Spn.a, nul, Opr.right, Opr.valued, Opr.ranged, Spn.empty, nilB, Int.reduceBEq, Bool.or_self, ha, g0] | refine calling (rSpan_ok ⟨kind, key, hi, op, val, lim⟩ h) ?_ | refine callingH (rSpan_ok ⟨kind, key, hi, op, val, lim⟩ h) ?_ | refine And.intro (by omega) ?_ | refine And.intro (fun d hd => by (repeat (rcases hd with rfl | hd; · exact ⟨rfl, rfl⟩)); cases hd) ?_))
    have ga : ¬ 16 < (key.size : Int) := by omega
    by_cases hb : (hi.size : Int) ≤ 16
    case neg =>
      have g0 : 16 < (hi.size : Int) := by omega
      (repeat (first | simp (maxSteps := 4000000) only [go_sem, ↓reduceIte, reduceCtorEq, Nat.reduceEqDiff, Nat.reduceBEq, Nat.reduceAdd, Nat.reduceSub, Nat.reduceMul, Nat.reduceLT, Nat.reduceLeDiff, Nat.reduceBNe, Int.reduceBEq, Int.reduceBNe, Int.reduceLT, Int.reduceLE, Opr.a, Spn.a, nul, Opr.right, Opr.valued, Opr.ranged, Spn.empty, nilB, Int.reduceBEq, Bool.or_self, ha, ga, hb, g0] | refine calling (rSpan_ok ⟨kind, key, hi, op, val, lim⟩ h) ?_ | refine callingH (rSpan_ok ⟨kind, key, hi, op, val, lim⟩ h) ?_ | refine And.intro (by omega) ?_ | refine And.intro (fun d hd => by (repeat (rcases hd with rfl | hd; · exact ⟨rfl, rfl⟩)); cases hd) ?_))
    have gb : ¬ 16 < (hi.size : Int) := by omega
    by_cases hc : (val.size : Int) ≤ 16
    case neg =>
      have g0 : 16 < (val.size : Int) := by omega
      (repeat (first | simp (maxSteps := 4000000) only [go_sem, ↓reduceIte, reduceCtorEq, Nat.reduceEqDiff, Nat.reduceBEq, Nat.reduceAdd, Nat.reduceSub, Nat.reduceMul, Nat.reduceLT, Nat.reduceLeDiff, Nat.reduceBNe, Int.reduceBEq, Int.reduceBNe, Int.reduceLT, Int.reduceLE, Opr.a, Spn.a, nul, Opr.right, Opr.valued, Opr.ranged, Spn.empty, nilB, Int.reduceBEq, Bool.or_self, ha, ga, hb, gb, hc, g0] | refine calling (rSpan_ok ⟨kind, key, hi, op, val, lim⟩ h) ?_ | refine callingH (rSpan_ok ⟨kind, key, hi, op, val, lim⟩ h) ?_ | refine And.intro (by omega) ?_ | refine And.intro (fun d hd => by (repeat (rcases hd with rfl | hd; · exact ⟨rfl, rfl⟩)); cases hd) ?_))
    have gc : ¬ 16 < (val.size : Int) := by omega
    cases hn : (val.toList == (ByteArray.mk #[]).toList)
    case false =>
      (repeat (first | simp (maxSteps := 4000000) only [go_sem, ↓reduceIte, reduceCtorEq, Nat.reduceEqDiff, Nat.reduceBEq, Nat.reduceAdd, Nat.reduceSub, Nat.reduceMul, Nat.reduceLT, Nat.reduceLeDiff, Nat.reduceBNe, Int.reduceBEq, Int.reduceBNe, Int.reduceLT, Int.reduceLE, Opr.a, Spn.a, nul, Opr.right, Opr.valued, Opr.ranged, Spn.empty, nilB, Int.reduceBEq, Bool.or_self, ha, ga, hb, gb, hc, gc, hn] | refine calling (rSpan_ok ⟨kind, key, hi, op, val, lim⟩ h) ?_ | refine callingH (rSpan_ok ⟨kind, key, hi, op, val, lim⟩ h) ?_ | refine And.intro (by omega) ?_ | refine And.intro (fun d hd => by (repeat (rcases hd with rfl | hd; · exact ⟨rfl, rfl⟩)); cases hd) ?_))
    cases hz : (lim == 0)
    case false =>
      have hz' : (lim != 0) = true := by rw [bne, hz]; rfl
      (repeat (first | simp (maxSteps := 4000000) only [go_sem, ↓reduceIte, reduceCtorEq, Nat.reduceEqDiff, Nat.reduceBEq, Nat.reduceAdd, Nat.reduceSub, Nat.reduceMul, Nat.reduceLT, Nat.reduceLeDiff, Nat.reduceBNe, Int.reduceBEq, Int.reduceBNe, Int.reduceLT, Int.reduceLE, Opr.a, Spn.a, nul, Opr.right, Opr.valued, Opr.ranged, Spn.empty, nilB, Int.reduceBEq, Bool.or_self, ha, ga, hb, gb, hc, gc, hn, hz, hz'] | refine calling (rSpan_ok ⟨kind, key, hi, op, val, lim⟩ h) ?_ | refine callingH (rSpan_ok ⟨kind, key, hi, op, val, lim⟩ h) ?_ | refine And.intro (by omega) ?_ | refine And.intro (fun d hd => by (repeat (rcases hd with rfl | hd; · exact ⟨rfl, rfl⟩)); cases hd) ?_))
    have hz' : (lim != 0) = false := by rw [bne, hz]; rfl
    cases hh : (hi.toList == (ByteArray.mk #[]).toList) <;> cases op <;> (repeat (first | simp (maxSteps := 4000000) only [go_sem, ↓reduceIte, reduceCtorEq, Nat.reduceEqDiff, Nat.reduceBEq, Nat.reduceAdd, Nat.reduceSub, Nat.reduceMul, Nat.reduceLT, Nat.reduceLeDiff, Nat.reduceBNe, Int.reduceBEq, Int.reduceBNe, Int.reduceLT, Int.reduceLE, Opr.a, Spn.a, nul, Opr.right, Opr.valued, Opr.ranged, Spn.empty, nilB, Int.reduceBEq, Bool.or_self, ha, ga, hb, gb, hc, gc, hn, hz, hz', hh] | refine calling (rSpan_ok ⟨kind, key, hi, op, val, lim⟩ h) ?_ | refine callingH (rSpan_ok ⟨kind, key, hi, op, val, lim⟩ h) ?_ | refine And.intro (by omega) ?_ | refine And.intro (fun d hd => by (repeat (rcases hd with rfl | hd; · exact ⟨rfl, rfl⟩)); cases hd) ?_))
  · -- kind 4
    have sE := sE0 4 (by omega)
    by_cases ha : (key.size : Int) ≤ 16
    case neg =>
      have g0 : 16 < (key.size : Int) := by omega
      (repeat (first | simp (maxSteps := 4000000) only [go_sem, ↓reduceIte, reduceCtorEq, Nat.reduceEqDiff, Nat.reduceBEq, Nat.reduceAdd, Nat.reduceSub, Nat.reduceMul, Nat.reduceLT, Nat.reduceLeDiff, Nat.reduceBNe, Int.reduceBEq, Int.reduceBNe, Int.reduceLT, Int.reduceLE, Opr.a, Spn.a, nul, Opr.right, Opr.valued, Opr.ranged, Spn.empty, nilB, Int.reduceBEq, Bool.or_self, ha, g0] | refine calling (sE) ?_ | refine callingH (sE) ?_ | refine calling (eE) ?_ | refine callingH (eE) ?_ | refine And.intro (by omega) ?_ | refine And.intro (fun d hd => by (repeat (rcases hd with rfl | hd; · exact ⟨rfl, rfl⟩)); cases hd) ?_))
    have ga : ¬ 16 < (key.size : Int) := by omega
    by_cases hb : (hi.size : Int) ≤ 16
    case neg =>
      have g0 : 16 < (hi.size : Int) := by omega
      (repeat (first | simp (maxSteps := 4000000) only [go_sem, ↓reduceIte, reduceCtorEq, Nat.reduceEqDiff, Nat.reduceBEq, Nat.reduceAdd, Nat.reduceSub, Nat.reduceMul, Nat.reduceLT, Nat.reduceLeDiff, Nat.reduceBNe, Int.reduceBEq, Int.reduceBNe, Int.reduceLT, Int.reduceLE, Opr.a, Spn.a, nul, Opr.right, Opr.valued, Opr.ranged, Spn.empty, nilB, Int.reduceBEq, Bool.or_self, ha, ga, hb, g0] | refine calling (sE) ?_ | refine callingH (sE) ?_ | refine calling (eE) ?_ | refine callingH (eE) ?_ | refine And.intro (by omega) ?_ | refine And.intro (fun d hd => by (repeat (rcases hd with rfl | hd; · exact ⟨rfl, rfl⟩)); cases hd) ?_))
    have gb : ¬ 16 < (hi.size : Int) := by omega
    by_cases hc : (val.size : Int) ≤ 16
    case neg =>
      have g0 : 16 < (val.size : Int) := by omega
      (repeat (first | simp (maxSteps := 4000000) only [go_sem, ↓reduceIte, reduceCtorEq, Nat.reduceEqDiff, Nat.reduceBEq, Nat.reduceAdd, Nat.reduceSub, Nat.reduceMul, Nat.reduceLT, Nat.reduceLeDiff, Nat.reduceBNe, Int.reduceBEq, Int.reduceBNe, Int.reduceLT, Int.reduceLE, Opr.a, Spn.a, nul, Opr.right, Opr.valued, Opr.ranged, Spn.empty, nilB, Int.reduceBEq, Bool.or_self, ha, ga, hb, gb, hc, g0] | refine calling (sE) ?_ | refine callingH (sE) ?_ | refine calling (eE) ?_ | refine callingH (eE) ?_ | refine And.intro (by omega) ?_ | refine And.intro (fun d hd => by (repeat (rcases hd with rfl | hd; · exact ⟨rfl, rfl⟩)); cases hd) ?_))
    have gc : ¬ 16 < (val.size : Int) := by omega
    cases hn : (val.toList == (ByteArray.mk #[]).toList)
    case false =>
      (repeat (first | simp (maxSteps := 4000000) only [go_sem, ↓reduceIte, reduceCtorEq, Nat.reduceEqDiff, Nat.reduceBEq, Nat.reduceAdd, Nat.reduceSub, Nat.reduceMul, Nat.reduceLT, Nat.reduceLeDiff, Nat.reduceBNe, Int.reduceBEq, Int.reduceBNe, Int.reduceLT, Int.reduceLE, Opr.a, Spn.a, nul, Opr.right, Opr.valued, Opr.ranged, Spn.empty, nilB, Int.reduceBEq, Bool.or_self, ha, ga, hb, gb, hc, gc, hn] | refine calling (sE) ?_ | refine callingH (sE) ?_ | refine calling (eE) ?_ | refine callingH (eE) ?_ | refine And.intro (by omega) ?_ | refine And.intro (fun d hd => by (repeat (rcases hd with rfl | hd; · exact ⟨rfl, rfl⟩)); cases hd) ?_))
    cases hz : (lim == 0)
    case false =>
      have hz' : (lim != 0) = true := by rw [bne, hz]; rfl
      (repeat (first | simp (maxSteps := 4000000) only [go_sem, ↓reduceIte, reduceCtorEq, Nat.reduceEqDiff, Nat.reduceBEq, Nat.reduceAdd, Nat.reduceSub, Nat.reduceMul, Nat.reduceLT, Nat.reduceLeDiff, Nat.reduceBNe, Int.reduceBEq, Int.reduceBNe, Int.reduceLT, Int.reduceLE, Opr.a, Spn.a, nul, Opr.right, Opr.valued, Opr.ranged, Spn.empty, nilB, Int.reduceBEq, Bool.or_self, ha, ga, hb, gb, hc, gc, hn, hz, hz'] | refine calling (sE) ?_ | refine callingH (sE) ?_ | refine calling (eE) ?_ | refine callingH (eE) ?_ | refine And.intro (by omega) ?_ | refine And.intro (fun d hd => by (repeat (rcases hd with rfl | hd; · exact ⟨rfl, rfl⟩)); cases hd) ?_))
    have hz' : (lim != 0) = false := by rw [bne, hz]; rfl
    cases op
    case false =>
      cases hl : leB key hi <;> (repeat (first | simp (maxSteps := 4000000) only [go_sem, ↓reduceIte, reduceCtorEq, Nat.reduceEqDiff, Nat.reduceBEq, Nat.reduceAdd, Nat.reduceSub, Nat.reduceMul, Nat.reduceLT, Nat.reduceLeDiff, Nat.reduceBNe, Int.reduceBEq, Int.reduceBNe, Int.reduceLT, Int.reduceLE, Opr.a, Spn.a, nul, Opr.right, Opr.valued, Opr.ranged, Spn.empty, nilB, Int.reduceBEq, Bool.or_self, ha, ga, hb, gb, hc, gc, hn, hz, hz', hl] | refine calling (sE) ?_ | refine callingH (sE) ?_ | refine calling (eE) ?_ | refine callingH (eE) ?_ | refine And.intro (by omega) ?_ | refine And.intro (fun d hd => by (repeat (rcases hd with rfl | hd; · exact ⟨rfl, rfl⟩)); cases hd) ?_))
    cases hh : (hi.toList == (ByteArray.mk #[]).toList) <;> (repeat (first | simp (maxSteps := 4000000) only [go_sem, ↓reduceIte, reduceCtorEq, Nat.reduceEqDiff, Nat.reduceBEq, Nat.reduceAdd, Nat.reduceSub, Nat.reduceMul, Nat.reduceLT, Nat.reduceLeDiff, Nat.reduceBNe, Int.reduceBEq, Int.reduceBNe, Int.reduceLT, Int.reduceLE, Opr.a, Spn.a, nul, Opr.right, Opr.valued, Opr.ranged, Spn.empty, nilB, Int.reduceBEq, Bool.or_self, ha, ga, hb, gb, hc, gc, hn, hz, hz', hh] | refine calling (sE) ?_ | refine callingH (sE) ?_ | refine calling (eE) ?_ | refine callingH (eE) ?_ | refine And.intro (by omega) ?_ | refine And.intro (fun d hd => by (repeat (rcases hd with rfl | hd; · exact ⟨rfl, rfl⟩)); cases hd) ?_))
  · -- kind 5
    by_cases ha : (key.size : Int) ≤ 16
    case neg =>
      have g0 : 16 < (key.size : Int) := by omega
      (repeat (first | simp (maxSteps := 4000000) only [go_sem, ↓reduceIte, reduceCtorEq, Nat.reduceEqDiff, Nat.reduceBEq, Nat.reduceAdd, Nat.reduceSub, Nat.reduceMul, Nat.reduceLT, Nat.reduceLeDiff, Nat.reduceBNe, Int.reduceBEq, Int.reduceBNe, Int.reduceLT, Int.reduceLE, Opr.a, Spn.a, nul, Opr.right, Opr.valued, Opr.ranged, Spn.empty, nilB, Int.reduceBEq, Bool.or_self, ha, g0] | refine calling (rSpan_ok ⟨kind, key, hi, op, val, lim⟩ h) ?_ | refine callingH (rSpan_ok ⟨kind, key, hi, op, val, lim⟩ h) ?_ | refine And.intro (by omega) ?_ | refine And.intro (fun d hd => by (repeat (rcases hd with rfl | hd; · exact ⟨rfl, rfl⟩)); cases hd) ?_))
    have ga : ¬ 16 < (key.size : Int) := by omega
    by_cases hb : (hi.size : Int) ≤ 16
    case neg =>
      have g0 : 16 < (hi.size : Int) := by omega
      (repeat (first | simp (maxSteps := 4000000) only [go_sem, ↓reduceIte, reduceCtorEq, Nat.reduceEqDiff, Nat.reduceBEq, Nat.reduceAdd, Nat.reduceSub, Nat.reduceMul, Nat.reduceLT, Nat.reduceLeDiff, Nat.reduceBNe, Int.reduceBEq, Int.reduceBNe, Int.reduceLT, Int.reduceLE, Opr.a, Spn.a, nul, Opr.right, Opr.valued, Opr.ranged, Spn.empty, nilB, Int.reduceBEq, Bool.or_self, ha, ga, hb, g0] | refine calling (rSpan_ok ⟨kind, key, hi, op, val, lim⟩ h) ?_ | refine callingH (rSpan_ok ⟨kind, key, hi, op, val, lim⟩ h) ?_ | refine And.intro (by omega) ?_ | refine And.intro (fun d hd => by (repeat (rcases hd with rfl | hd; · exact ⟨rfl, rfl⟩)); cases hd) ?_))
    have gb : ¬ 16 < (hi.size : Int) := by omega
    by_cases hc : (val.size : Int) ≤ 16
    case neg =>
      have g0 : 16 < (val.size : Int) := by omega
      (repeat (first | simp (maxSteps := 4000000) only [go_sem, ↓reduceIte, reduceCtorEq, Nat.reduceEqDiff, Nat.reduceBEq, Nat.reduceAdd, Nat.reduceSub, Nat.reduceMul, Nat.reduceLT, Nat.reduceLeDiff, Nat.reduceBNe, Int.reduceBEq, Int.reduceBNe, Int.reduceLT, Int.reduceLE, Opr.a, Spn.a, nul, Opr.right, Opr.valued, Opr.ranged, Spn.empty, nilB, Int.reduceBEq, Bool.or_self, ha, ga, hb, gb, hc, g0] | refine calling (rSpan_ok ⟨kind, key, hi, op, val, lim⟩ h) ?_ | refine callingH (rSpan_ok ⟨kind, key, hi, op, val, lim⟩ h) ?_ | refine And.intro (by omega) ?_ | refine And.intro (fun d hd => by (repeat (rcases hd with rfl | hd; · exact ⟨rfl, rfl⟩)); cases hd) ?_))
    have gc : ¬ 16 < (val.size : Int) := by omega
    cases hn : (val.toList == (ByteArray.mk #[]).toList)
    case false =>
      (repeat (first | simp (maxSteps := 4000000) only [go_sem, ↓reduceIte, reduceCtorEq, Nat.reduceEqDiff, Nat.reduceBEq, Nat.reduceAdd, Nat.reduceSub, Nat.reduceMul, Nat.reduceLT, Nat.reduceLeDiff, Nat.reduceBNe, Int.reduceBEq, Int.reduceBNe, Int.reduceLT, Int.reduceLE, Opr.a, Spn.a, nul, Opr.right, Opr.valued, Opr.ranged, Spn.empty, nilB, Int.reduceBEq, Bool.or_self, ha, ga, hb, gb, hc, gc, hn] | refine calling (rSpan_ok ⟨kind, key, hi, op, val, lim⟩ h) ?_ | refine callingH (rSpan_ok ⟨kind, key, hi, op, val, lim⟩ h) ?_ | refine And.intro (by omega) ?_ | refine And.intro (fun d hd => by (repeat (rcases hd with rfl | hd; · exact ⟨rfl, rfl⟩)); cases hd) ?_))
    cases hz : (lim == 0)
    case false =>
      have hz' : (lim != 0) = true := by rw [bne, hz]; rfl
      (repeat (first | simp (maxSteps := 4000000) only [go_sem, ↓reduceIte, reduceCtorEq, Nat.reduceEqDiff, Nat.reduceBEq, Nat.reduceAdd, Nat.reduceSub, Nat.reduceMul, Nat.reduceLT, Nat.reduceLeDiff, Nat.reduceBNe, Int.reduceBEq, Int.reduceBNe, Int.reduceLT, Int.reduceLE, Opr.a, Spn.a, nul, Opr.right, Opr.valued, Opr.ranged, Spn.empty, nilB, Int.reduceBEq, Bool.or_self, ha, ga, hb, gb, hc, gc, hn, hz, hz'] | refine calling (rSpan_ok ⟨kind, key, hi, op, val, lim⟩ h) ?_ | refine callingH (rSpan_ok ⟨kind, key, hi, op, val, lim⟩ h) ?_ | refine And.intro (by omega) ?_ | refine And.intro (fun d hd => by (repeat (rcases hd with rfl | hd; · exact ⟨rfl, rfl⟩)); cases hd) ?_))
    have hz' : (lim != 0) = false := by rw [bne, hz]; rfl
    cases hh : (hi.toList == (ByteArray.mk #[]).toList) <;> cases op <;> (repeat (first | simp (maxSteps := 4000000) only [go_sem, ↓reduceIte, reduceCtorEq, Nat.reduceEqDiff, Nat.reduceBEq, Nat.reduceAdd, Nat.reduceSub, Nat.reduceMul, Nat.reduceLT, Nat.reduceLeDiff, Nat.reduceBNe, Int.reduceBEq, Int.reduceBNe, Int.reduceLT, Int.reduceLE, Opr.a, Spn.a, nul, Opr.right, Opr.valued, Opr.ranged, Spn.empty, nilB, Int.reduceBEq, Bool.or_self, ha, ga, hb, gb, hc, gc, hn, hz, hz', hh] | refine calling (rSpan_ok ⟨kind, key, hi, op, val, lim⟩ h) ?_ | refine callingH (rSpan_ok ⟨kind, key, hi, op, val, lim⟩ h) ?_ | refine And.intro (by omega) ?_ | refine And.intro (fun d hd => by (repeat (rcases hd with rfl | hd; · exact ⟨rfl, rfl⟩)); cases hd) ?_))
  · -- kind 6
    have sE := sE0 6 (by omega)
    by_cases ha : (key.size : Int) ≤ 16
    case neg =>
      have g0 : 16 < (key.size : Int) := by omega
      (repeat (first | simp (maxSteps := 4000000) only [go_sem, ↓reduceIte, reduceCtorEq, Nat.reduceEqDiff, Nat.reduceBEq, Nat.reduceAdd, Nat.reduceSub, Nat.reduceMul, Nat.reduceLT, Nat.reduceLeDiff, Nat.reduceBNe, Int.reduceBEq, Int.reduceBNe, Int.reduceLT, Int.reduceLE, Opr.a, Spn.a, nul, Opr.right, Opr.valued, Opr.ranged, Spn.empty, nilB, Int.reduceBEq, Bool.or_self, ha, g0] | refine calling (sE) ?_ | refine callingH (sE) ?_ | refine calling (eE) ?_ | refine callingH (eE) ?_ | refine And.intro (by omega) ?_ | refine And.intro (fun d hd => by (repeat (rcases hd with rfl | hd; · exact ⟨rfl, rfl⟩)); cases hd) ?_))
    have ga : ¬ 16 < (key.size : Int) := by omega
    by_cases hb : (hi.size : Int) ≤ 16
    case neg =>
      have g0 : 16 < (hi.size : Int) := by omega
      (repeat (first | simp (maxSteps := 4000000) only [go_sem, ↓reduceIte, reduceCtorEq, Nat.reduceEqDiff, Nat.reduceBEq, Nat.reduceAdd, Nat.reduceSub, Nat.reduceMul, Nat.reduceLT, Nat.reduceLeDiff, Nat.reduceBNe, Int.reduceBEq, Int.reduceBNe, Int.reduceLT, Int.reduceLE, Opr.a, Spn.a, nul, Opr.right, Opr.valued, Opr.ranged, Spn.empty, nilB, Int.reduceBEq, Bool.or_self, ha, ga, hb, g0] | refine calling (sE) ?_ | refine callingH (sE) ?_ | refine calling (eE) ?_ | refine callingH (eE) ?_ | refine And.intro (by omega) ?_ | refine And.intro (fun d hd => by (repeat (rcases hd with rfl | hd; · exact ⟨rfl, rfl⟩)); cases hd) ?_))
    have gb : ¬ 16 < (hi.size : Int) := by omega
    by_cases hc : (val.size : Int) ≤ 16
    case neg =>
      have g0 : 16 < (val.size : Int) := by omega
      (repeat (first | simp (maxSteps := 4000000) only [go_sem, ↓reduceIte, reduceCtorEq, Nat.reduceEqDiff, Nat.reduceBEq, Nat.reduceAdd, Nat.reduceSub, Nat.reduceMul, Nat.reduceLT, Nat.reduceLeDiff, Nat.reduceBNe, Int.reduceBEq, Int.reduceBNe, Int.reduceLT, Int.reduceLE, Opr.a, Spn.a, nul, Opr.right, Opr.valued, Opr.ranged, Spn.empty, nilB, Int.reduceBEq, Bool.or_self, ha, ga, hb, gb, hc, g0] | refine calling (sE) ?_ | refine callingH (sE) ?_ | refine calling (eE) ?_ | refine callingH (eE) ?_ | refine And.intro (by omega) ?_ | refine And.intro (fun d hd => by (repeat (rcases hd with rfl | hd; · exact ⟨rfl, rfl⟩)); cases hd) ?_))
    have gc : ¬ 16 < (val.size : Int) := by omega
    cases hn : (val.toList == (ByteArray.mk #[]).toList)
    case false =>
      (repeat (first | simp (maxSteps := 4000000) only [go_sem, ↓reduceIte, reduceCtorEq, Nat.reduceEqDiff, Nat.reduceBEq, Nat.reduceAdd, Nat.reduceSub, Nat.reduceMul, Nat.reduceLT, Nat.reduceLeDiff, Nat.reduceBNe, Int.reduceBEq, Int.reduceBNe, Int.reduceLT, Int.reduceLE, Opr.a, Spn.a, nul, Opr.right, Opr.valued, Opr.ranged, Spn.empty, nilB, Int.reduceBEq, Bool.or_self, ha, ga, hb, gb, hc, gc, hn] | refine calling (sE) ?_ | refine callingH (sE) ?_ | refine calling (eE) ?_ | refine callingH (eE) ?_ | refine And.intro (by omega) ?_ | refine And.intro (fun d hd => by (repeat (rcases hd with rfl | hd; · exact ⟨rfl, rfl⟩)); cases hd) ?_))
    by_cases l1 : 1 ≤ lim
    case neg =>
      have l1' : lim < 1 := by omega
      (repeat (first | simp (maxSteps := 4000000) only [go_sem, ↓reduceIte, reduceCtorEq, Nat.reduceEqDiff, Nat.reduceBEq, Nat.reduceAdd, Nat.reduceSub, Nat.reduceMul, Nat.reduceLT, Nat.reduceLeDiff, Nat.reduceBNe, Int.reduceBEq, Int.reduceBNe, Int.reduceLT, Int.reduceLE, Opr.a, Spn.a, nul, Opr.right, Opr.valued, Opr.ranged, Spn.empty, nilB, Int.reduceBEq, Bool.or_self, ha, ga, hb, gb, hc, gc, hn, l1, l1'] | refine calling (sE) ?_ | refine callingH (sE) ?_ | refine calling (eE) ?_ | refine callingH (eE) ?_ | refine And.intro (by omega) ?_ | refine And.intro (fun d hd => by (repeat (rcases hd with rfl | hd; · exact ⟨rfl, rfl⟩)); cases hd) ?_))
    have l1' : ¬ lim < 1 := by omega
    by_cases l2 : lim ≤ 64
    case neg =>
      have l2' : 64 < lim := by omega
      (repeat (first | simp (maxSteps := 4000000) only [go_sem, ↓reduceIte, reduceCtorEq, Nat.reduceEqDiff, Nat.reduceBEq, Nat.reduceAdd, Nat.reduceSub, Nat.reduceMul, Nat.reduceLT, Nat.reduceLeDiff, Nat.reduceBNe, Int.reduceBEq, Int.reduceBNe, Int.reduceLT, Int.reduceLE, Opr.a, Spn.a, nul, Opr.right, Opr.valued, Opr.ranged, Spn.empty, nilB, Int.reduceBEq, Bool.or_self, ha, ga, hb, gb, hc, gc, hn, l1, l1', l2, l2'] | refine calling (sE) ?_ | refine callingH (sE) ?_ | refine calling (eE) ?_ | refine callingH (eE) ?_ | refine And.intro (by omega) ?_ | refine And.intro (fun d hd => by (repeat (rcases hd with rfl | hd; · exact ⟨rfl, rfl⟩)); cases hd) ?_))
    have l2' : ¬ 64 < lim := by omega
    cases op
    case false =>
      cases hl : leB key hi <;> (repeat (first | simp (maxSteps := 4000000) only [go_sem, ↓reduceIte, reduceCtorEq, Nat.reduceEqDiff, Nat.reduceBEq, Nat.reduceAdd, Nat.reduceSub, Nat.reduceMul, Nat.reduceLT, Nat.reduceLeDiff, Nat.reduceBNe, Int.reduceBEq, Int.reduceBNe, Int.reduceLT, Int.reduceLE, Opr.a, Spn.a, nul, Opr.right, Opr.valued, Opr.ranged, Spn.empty, nilB, Int.reduceBEq, Bool.or_self, ha, ga, hb, gb, hc, gc, hn, l1, l1', l2, l2', hl] | refine calling (sE) ?_ | refine callingH (sE) ?_ | refine calling (eE) ?_ | refine callingH (eE) ?_ | refine And.intro (by omega) ?_ | refine And.intro (fun d hd => by (repeat (rcases hd with rfl | hd; · exact ⟨rfl, rfl⟩)); cases hd) ?_))
    cases hh : (hi.toList == (ByteArray.mk #[]).toList) <;> (repeat (first | simp (maxSteps := 4000000) only [go_sem, ↓reduceIte, reduceCtorEq, Nat.reduceEqDiff, Nat.reduceBEq, Nat.reduceAdd, Nat.reduceSub, Nat.reduceMul, Nat.reduceLT, Nat.reduceLeDiff, Nat.reduceBNe, Int.reduceBEq, Int.reduceBNe, Int.reduceLT, Int.reduceLE, Opr.a, Spn.a, nul, Opr.right, Opr.valued, Opr.ranged, Spn.empty, nilB, Int.reduceBEq, Bool.or_self, ha, ga, hb, gb, hc, gc, hn, l1, l1', l2, l2', hh] | refine calling (sE) ?_ | refine callingH (sE) ?_ | refine calling (eE) ?_ | refine callingH (eE) ?_ | refine And.intro (by omega) ?_ | refine And.intro (fun d hd => by (repeat (rcases hd with rfl | hd; · exact ⟨rfl, rfl⟩)); cases hd) ?_))
end
end Go.Proofs.YthfdbjocpicbmaaDoor
