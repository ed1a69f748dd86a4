/-
  Layer 7 on the plain machine: the operation that bytes are: the code, walked.
-/
import Derived.Test.YtgpoglaojklfbaaDoorPkK2
import Derived.Test.YtgpoglaojklfbaaDoorPkO
namespace Go.Proofs.YtgpoglaojklfbaaDoor
open Go.RowKit
set_option linter.unusedVariables false
set_option linter.unusedSimpArgs false
set_option maxRecDepth 100000
attribute [local go_sem ↓] runOp headOp
attribute [local go_sem] ev0 ev1 ev2 ev3 ev4 evA stHOk.eq_1 stHOk.eq_2 stHSt.eq_1 stHSt.eq_2 okV valV fzV okF valF okBld valBld mxOk.eq_1 mxOk.eq_2 mxVal.eq_1 mxVal.eq_2 cellFit.eq_1 cellFit.eq_2 cellFit.eq_3 cellEq.eq_1 cellEq.eq_2 cellEq.eq_3 upd_at AV.flatB AV.flatBs binIok binIV binSok binSV cellsOk.eq_1 cellsOk.eq_2 cellsVal.eq_1 cellsVal.eq_2 objCells.eq_1 objCells.eq_2 objZ.eq_1 objZ.eq_2 objProt.eq_1 objProt.eq_2 oneObj ptrOk.eq_1 ptrOk.eq_2 ptrOk.eq_3 ptrCells.eq_1 ptrCells.eq_2 ptrCells.eq_3 lenOk.eq_1 lenOk.eq_2 lenOk.eq_3 lenOk.eq_4 lenVal.eq_1 lenVal.eq_2 lenVal.eq_3 lenVal.eq_4 faOk.eq_1 faOk.eq_2 faOk.eq_3 faVal.eq_1 faVal.eq_2 faVal.eq_3 iaOk.eq_1 iaOk.eq_2 iaOk.eq_3 iaVal.eq_1 iaVal.eq_2 iaVal.eq_3 slcLen.eq_1 slcLen.eq_2 slcLen.eq_3 slcLen.eq_4 bdOk.eq_1 bdOk.eq_2 bdVal.eq_1 bdVal.eq_2 slcOk.eq_1 slcOk.eq_2 slcOk.eq_3 slcOk.eq_4 slcVal.eq_1 slcVal.eq_2 slcVal.eq_3 slcVal.eq_4 slcFz.eq_1 slcFz.eq_2 byOk.eq_1 byOk.eq_2 byOk.eq_3 byOk.eq_4 byOk.eq_5 byOk.eq_6 byVal.eq_1 byVal.eq_2 byVal.eq_3 byFz.eq_1 byFz.eq_2 byFz.eq_3 byOks byVals byFzs allOne resSt.eq_1 resSt.eq_2 resName.eq_1 resName.eq_2 stOk.eq_1 stOk.eq_2 stArr.eq_1 stArr.eq_2 stSt.eq_1 stSt.eq_2 AV.patch nameOk_none gB.eq_1 gB.eq_2 gB.eq_3 gIs.eq_1 gIs.eq_2 gIs.eq_3 retV resV resVs evalV cellsV St.byval List.getD_cons_zero List.getD_cons_succ List.getD_nil List.map_cons List.map_nil List.length_cons List.length_nil List.take_succ_cons List.take_zero List.drop_succ_cons List.drop_zero List.headD_cons List.set_cons_zero List.append_nil List.nil_append List.cons_append List.contains_cons List.contains_nil List.elem_cons List.elem_nil List.all_cons List.all_nil List.getElem?_cons_zero List.getElem?_cons_succ List.filterMap_cons List.filterMap_nil Option.isSome_some Option.isSome_none Option.map_some Option.map_none Option.some.injEq AV.int.injEq AV.bool.injEq AV.str.injEq AV.tup.injEq AV.agg.injEq AV.sl.injEq List.cons.injEq Bool.false_eq_true Bool.true_eq_false Bool.not_true Bool.not_false Bool.and_true Bool.true_and Bool.or_false Bool.or_true Bool.false_or Bool.true_or Bool.or_self Bool.and_self Bool.not_eq_true' Bool.not_eq_false' Bool.not_not beq_self_eq_true true_and and_true false_and and_false and_self not_true_eq_false not_false_eq_true forall_const true_implies false_implies implies_true imp_self Nat.lt_add_one Nat.le_refl Nat.zero_le Nat.add_zero Nat.zero_add decide_true decide_false decide_eq_true_eq decide_eq_false_iff_not exists_eq_left exists_eq_left' ge_iff_le gt_iff_lt ite_branch ite_branch' nilOk.eq_1 nilOk.eq_2 nilMay.eq_1 nilMay.eq_2 AV.isSl.eq_1 objTy'.eq_1 objTy'.eq_2 apSt.eq_1 apArr.eq_1 apArr.eq_2 slOf.eq_1 fitsV List.mem_cons List.not_mem_nil Bool.false_and Bool.and_false primOk.eq_1 primOk.eq_2 primOk.eq_3 primOk.eq_4 primOk.eq_5 primVal.eq_1 primVal.eq_2 primVal.eq_3 primVal.eq_4 primVal.eq_5 mOk.eq_1 mOk.eq_2 mVal.eq_1 mVal.eq_2 mFz.eq_1 mFz.eq_2 mOks mVals mFzs mCalOk.eq_1 mCalOk.eq_2 mFn.eq_1 mFn.eq_2 mArgs.eq_1 mArgs.eq_2 ckOk.eq_1 ckOk.eq_2 cloOk.eq_1 ptrAt.eq_1 sh.eq_1 sh.eq_2 sh.eq_3 sh.eq_4 retM shH_small
/-! ### percolate/op.Of -/
def r_of_0 : Reg := ⟨[], [⟨(.alloc 6 34 (.agg [(.int .i64 0), (.str ⟨#[]⟩), (.str ⟨#[]⟩), (.bool false), (.str ⟨#[]⟩), (.int .i64 0)])), (some 2), none, [], []⟩, ⟨(.mv (.c (.bool false))), (some 3), none, [], []⟩], [2], [], false⟩
def r_of_1 : Reg := ⟨[], [⟨(.mv (.t 0)), (some 6), none, [8], []⟩, ⟨(.bld [(.str ⟨#[]⟩), (.bool false)] [⟨0, 1, (.t 6)⟩, ⟨1, 1, (.c (.bool true))⟩]), (some 7), none, [8], []⟩, ⟨(.box 2 70 (.t 7)), (some 8), none, [], []⟩, ⟨(.mv (.t 8)), (some 4), none, [], []⟩], [8], [], false⟩
def r_of_2 : List XOp := [(.op [] ⟨(.mv (.t 4)), (some 9), none, [], []⟩), (.mcall 10 (.c (.clo 48 [] [])) [(.t 9)]), (.op [] ⟨(.bld [(.int .i64 0), (.str ⟨#[]⟩), (.str ⟨#[]⟩), (.bool false), (.str ⟨#[]⟩), (.int .i64 0)] [⟨0, 1, (.t 10)⟩]), (some 11), none, [], []⟩), (.op [5] ⟨(.alloc 6 34 (.agg [(.int .i64 0), (.str ⟨#[]⟩), (.str ⟨#[]⟩), (.bool false), (.str ⟨#[]⟩), (.int .i64 0)])), (some 5), none, [], []⟩), (.op [] ⟨(.store 6 (.t 5) (.t 11)), none, none, [], []⟩)]
def r_of_3 : List XOp := [(.op [] ⟨(.mv (.t 4)), (some 12), none, [], []⟩), (.mcall 13 (.c (.clo 49 [] [])) [(.t 12)]), (.op [] ⟨(.faddr 1 (.t 5)), (some 14), none, [], []⟩), (.op [] ⟨(.store 1 (.t 14) (.t 13)), none, none, [], []⟩)]
def r_of_4 : Reg := ⟨[], [⟨(.load 6 true (.t 5)), (some 15), none, [16], []⟩, ⟨(.callv (.c (.clo 44 [] [])) [(.t 15)]), (some 16), none, [], []⟩], [16], [], false⟩
def r_of_5 : List XOp := [(.op [] ⟨(.mv (.t 4)), (some 17), none, [], []⟩), (.mcall 18 (.c (.clo 49 [] [])) [(.t 17)]), (.op [] ⟨(.faddr 4 (.t 5)), (some 19), none, [], []⟩), (.op [] ⟨(.store 1 (.t 19) (.t 18)), none, none, [], []⟩)]
def r_of_6 : Reg := ⟨[], [⟨(.load 6 true (.t 5)), (some 20), none, [21], []⟩, ⟨(.callv (.c (.clo 45 [] [])) [(.t 20)]), (some 21), none, [], []⟩], [21], [], false⟩
def r_of_7 : List XOp := [(.op [] ⟨(.mv (.t 4)), (some 22), none, [], []⟩), (.mcall 23 (.c (.clo 48 [] [])) [(.t 22)])]
def r_of_8 : Reg := ⟨[], [⟨(.bin .eql (.t 23) (.c (.int .i64 0))), (some 28), none, [], []⟩, ⟨(.mv (.t 28)), (some 27), none, [], []⟩], [], [], false⟩
def r_of_9 : List XOp := [(.op [] ⟨(.mv (.t 4)), (some 29), none, [], []⟩), (.mcall 30 (.c (.clo 49 [] [])) [(.t 29)]), (.op [] ⟨(.faddr 2 (.t 5)), (some 31), none, [], []⟩), (.op [] ⟨(.store 1 (.t 31) (.t 30)), none, none, [], []⟩)]
def r_of_10 : Reg := ⟨[], [⟨(.bin .eql (.t 23) (.c (.int .i64 1))), (some 33), none, [], []⟩, ⟨(.mv (.t 33)), (some 32), none, [], []⟩], [], [], false⟩
def r_of_11 : Reg := ⟨[], [⟨(.faddr 3 (.t 5)), (some 34), none, [], []⟩, ⟨(.store 1 (.t 34) (.c (.bool true))), none, none, [], []⟩], [], [], false⟩
def r_of_12 : List XOp := [(.op [] ⟨(.mv (.t 4)), (some 24), none, [], []⟩), (.nilck 25 (.t 24) none), (.op [] ⟨(.faddr 1 (.t 25)), (some 26), none, [], []⟩), (.op [] ⟨(.store 1 (.t 26) (.c (.bool false))), none, none, [], []⟩)]
def r_of_13 : Reg := ⟨[], [⟨(.faddr 0 (.t 5)), (some 35), none, [], []⟩, ⟨(.load 1 false (.t 35)), (some 36), none, [], []⟩, ⟨(.bin .eql (.t 36) (.c (.int .i64 6))), (some 37), none, [], []⟩], [], [], false⟩
def r_of_14 : List XOp := [(.op [] ⟨(.mv (.t 4)), (some 38), none, [], []⟩), (.mcall 39 (.c (.clo 48 [] [])) [(.t 38)]), (.op [] ⟨(.faddr 5 (.t 5)), (some 40), none, [], []⟩), (.op [] ⟨(.store 1 (.t 40) (.t 39)), none, none, [], []⟩)]
def r_of_15 : List XOp := [(.op [] ⟨(.mv (.t 4)), (some 41), none, [], []⟩), (.nilck 42 (.t 41) none), (.op [] ⟨(.faddr 1 (.t 42)), (some 43), none, [], []⟩), (.op [] ⟨(.load 1 false (.t 43)), (some 44), none, [], []⟩), (.op [] ⟨(.un .not (.t 44)), (some 45), none, [], []⟩), (.op [] ⟨(.mv (.t 45)), (some 46), none, [], []⟩), (.op [] ⟨(.mv (.t 4)), (some 47), (some (46, false)), [], []⟩), (.nilck 48 (.t 47) (some (46, false))), (.op [] ⟨(.faddr 0 (.t 48)), (some 49), (some (46, false)), [], []⟩), (.op [] ⟨(.load 1 false (.t 49)), (some 50), (some (46, false)), [], []⟩), (.op [] ⟨(.bin .neq (.t 50) (.c (.str ⟨#[]⟩))), (some 51), (some (46, false)), [], []⟩), (.op [] ⟨(.pick (.t 46) (.c (.bool true)) (.t 51)), (some 52), none, [], []⟩), (.op [] ⟨(.mv (.t 52)), (some 53), none, [], []⟩), (.op [] ⟨(.load 6 true (.t 5)), (some 54), (some (53, false)), [], []⟩), (.op [55] ⟨(.callv (.c (.clo 42 [] [])) [(.t 54)]), (some 55), (some (53, false)), [], []⟩), (.op [] ⟨(.bin .neq (.t 55) (.c (.int .i64 0))), (some 56), (some (53, false)), [], []⟩), (.op [] ⟨(.pick (.t 53) (.c (.bool true)) (.t 56)), (some 57), none, [], []⟩)]
def r_of_16 : Reg := ⟨[], [⟨(.bld [(.int .i64 0), (.str ⟨#[]⟩), (.str ⟨#[]⟩), (.bool false), (.str ⟨#[]⟩), (.int .i64 0)] []), (some 58), none, [], []⟩, ⟨(.store 6 (.t 2) (.t 58)), none, none, [], []⟩, ⟨(.mv (.c (.bool false))), (some 3), none, [], []⟩], [], [], false⟩
def r_of_17 : Reg := ⟨[], [⟨(.load 6 true (.t 5)), (some 59), none, [], []⟩, ⟨(.store 6 (.t 2) (.t 59)), none, none, [], []⟩, ⟨(.mv (.c (.bool true))), (some 3), none, [], []⟩], [], [], false⟩
def ir_of (P : Program) : IR := (.seq (.reg r_of_0)
  (.seq (.reg r_of_1)
  (.seq (.regx P r_of_2)
  (.seq (.regx P r_of_3)
  (.seq (.seq (.reg r_of_4)
  (.cond (.t 16) (.regx P r_of_5)
  .skip))
  (.seq (.seq (.reg r_of_6)
  (.cond (.t 21) (.seq (.regx P r_of_7)
  (.block 0 (.seq (.reg r_of_8)
  (.cond (.t 27) (.regx P r_of_9)
  (.seq (.reg r_of_10)
  (.cond (.t 32) (.reg r_of_11)
  (.regx P r_of_12)))))))
  .skip))
  (.seq (.seq (.reg r_of_13)
  (.cond (.t 37) (.regx P r_of_14)
  .skip))
  (.seq (.seq (.regx P r_of_15)
  (.cond (.t 57) (.seq (.reg r_of_16)
  .ret)
  .skip))
  (.seq (.reg r_of_17)
  .ret)))))))))
def res_of : List RDesc := [(.cell 2 6 true), (.tmp 3)]
theorem e_of_0 (C : FuncId → List AV → AV → Prop) (σ : St) (K : St → Prop) : runReg C r_of_0 σ K = runOps C [⟨(.alloc 6 34 (.agg [(.int .i64 0), (.str ⟨#[]⟩), (.str ⟨#[]⟩), (.bool false), (.str ⟨#[]⟩), (.int .i64 0)])), (some 2), none, [], []⟩, ⟨(.mv (.c (.bool false))), (some 3), none, [], []⟩] (σ.kills [2]) K := rfl
theorem e_of_1 (C : FuncId → List AV → AV → Prop) (σ : St) (K : St → Prop) : runReg C r_of_1 σ K = runOps C [⟨(.mv (.t 0)), (some 6), none, [8], []⟩, ⟨(.bld [(.str ⟨#[]⟩), (.bool false)] [⟨0, 1, (.t 6)⟩, ⟨1, 1, (.c (.bool true))⟩]), (some 7), none, [8], []⟩, ⟨(.box 2 70 (.t 7)), (some 8), none, [], []⟩, ⟨(.mv (.t 8)), (some 4), none, [], []⟩] (σ.kills [8]) K := rfl
theorem e_of_4 (C : FuncId → List AV → AV → Prop) (σ : St) (K : St → Prop) : runReg C r_of_4 σ K = runOps C [⟨(.load 6 true (.t 5)), (some 15), none, [16], []⟩, ⟨(.callv (.c (.clo 44 [] [])) [(.t 15)]), (some 16), none, [], []⟩] (σ.kills [16]) K := rfl
theorem e_of_6 (C : FuncId → List AV → AV → Prop) (σ : St) (K : St → Prop) : runReg C r_of_6 σ K = runOps C [⟨(.load 6 true (.t 5)), (some 20), none, [21], []⟩, ⟨(.callv (.c (.clo 45 [] [])) [(.t 20)]), (some 21), none, [], []⟩] (σ.kills [21]) K := rfl
theorem e_of_8 (C : FuncId → List AV → AV → Prop) (σ : St) (K : St → Prop) : runReg C r_of_8 σ K = runOps C [⟨(.bin .eql (.t 23) (.c (.int .i64 0))), (some 28), none, [], []⟩, ⟨(.mv (.t 28)), (some 27), none, [], []⟩] (σ.kills []) K := rfl
theorem e_of_10 (C : FuncId → List AV → AV → Prop) (σ : St) (K : St → Prop) : runReg C r_of_10 σ K = runOps C [⟨(.bin .eql (.t 23) (.c (.int .i64 1))), (some 33), none, [], []⟩, ⟨(.mv (.t 33)), (some 32), none, [], []⟩] (σ.kills []) K := rfl
theorem e_of_11 (C : FuncId → List AV → AV → Prop) (σ : St) (K : St → Prop) : runReg C r_of_11 σ K = runOps C [⟨(.faddr 3 (.t 5)), (some 34), none, [], []⟩, ⟨(.store 1 (.t 34) (.c (.bool true))), none, none, [], []⟩] (σ.kills []) K := rfl
theorem e_of_13 (C : FuncId → List AV → AV → Prop) (σ : St) (K : St → Prop) : runReg C r_of_13 σ K = runOps C [⟨(.faddr 0 (.t 5)), (some 35), none, [], []⟩, ⟨(.load 1 false (.t 35)), (some 36), none, [], []⟩, ⟨(.bin .eql (.t 36) (.c (.int .i64 6))), (some 37), none, [], []⟩] (σ.kills []) K := rfl
theorem e_of_16 (C : FuncId → List AV → AV → Prop) (σ : St) (K : St → Prop) : runReg C r_of_16 σ K = runOps C [⟨(.bld [(.int .i64 0), (.str ⟨#[]⟩), (.str ⟨#[]⟩), (.bool false), (.str ⟨#[]⟩), (.int .i64 0)] []), (some 58), none, [], []⟩, ⟨(.store 6 (.t 2) (.t 58)), none, none, [], []⟩, ⟨(.mv (.c (.bool false))), (some 3), none, [], []⟩] (σ.kills []) K := rfl
theorem e_of_17 (C : FuncId → List AV → AV → Prop) (σ : St) (K : St → Prop) : runReg C r_of_17 σ K = runOps C [⟨(.load 6 true (.t 5)), (some 59), none, [], []⟩, ⟨(.store 6 (.t 2) (.t 59)), none, none, [], []⟩, ⟨(.mv (.c (.bool true))), (some 3), none, [], []⟩] (σ.kills []) K := rfl
theorem fn_of {args : List AV} {r : AV} (ha : args.length.ble Tryd.f25.ntmps = true) (h : run (AFn Tryd.prog) (ir_of Tryd.prog) (endQ res_of r) (initSt args)) : AFn Tryd.prog 25 args r :=
  AFn.of_code (hint := fun _ => []) (c := Tryd.f25.body.getD .skip) (by kernel_rfl) (by kernel_rfl) Tryd.func25 (by kernel_rfl) (by kernel_rfl) (by kernel_rfl) (of_decide_eq_true (by kernel_rfl)) (Nat.le_of_ble_eq_true ha) (Nat.le_of_ble_eq_true (by kernel_rfl)) (run_ok h)

attribute [local go_sem ↓] ir_of
attribute [local go_sem] res_of e_of_0 e_of_1 e_of_4 e_of_6 e_of_8 e_of_10 e_of_11 e_of_13 e_of_16 e_of_17 r_of_2 r_of_3 r_of_5 r_of_7 r_of_9 r_of_12 r_of_14 r_of_15

set_option maxHeartbeats 8000000 in
theorem of_ok (s : ByteArray) (hs : s.size ≤ 1000000) : AFn Tryd.prog 25 [.str s] (.tup [(ofF s).1.a, .bool (ofF s).2]) := by
  refine fn_of rfl ?_
  obtain ⟨k, ek⟩ : ∃ k, tk1v s = k := ⟨_, rfl⟩
  obtain ⟨s1, ok1, e1⟩ : ∃ s1 ok1, tk1 s true = (s1, ok1) := ⟨_, _, rfl⟩
  obtain ⟨key, s2, is2, e2⟩ : ∃ key s2 is2, tkx s1 = (key, s2, is2) := ⟨_, _, _, rfl⟩
  have z1 : s1.size ≤ s.size := by have := tk1_size s true; rw [e1] at this; exact this
  have z2 := tkx_size s1
  rw [e2] at z2
  obtain ⟨zk, z2⟩ := z2
  simp only at zk z2
  have c1 : ∀ H, H 8 = some ⟨2, 70, [.agg [.str s, .bool true]], 0⟩ → MFn Tryd.prog 48 [.ptr 8 0 0] H (.int .i64 k) (upd H 8 (some ⟨2, 70, [.agg [.str s1, .bool ok1]], 0⟩)) := fun H hq => by
    have := byte1_ok s true H 8 (by omega) hq; rw [ek, e1] at this; exact this
  have c2 : ∀ H, H 8 = some ⟨2, 70, [.agg [.str s1, .bool ok1]], 0⟩ → MFn Tryd.prog 49 [.ptr 8 0 0] H (.str key) (upd H 8 (some ⟨2, 70, [.agg [.str s2, .bool (ok1 && is2)]], 0⟩)) := fun H hq => by
    have := text1_ok s1 ok1 H 8 (by omega) hq; rw [e2] at this; exact this
  obtain ⟨ok2, eo2⟩ : ∃ ok2, (ok1 && is2) = ok2 := ⟨_, rfl⟩
  rw [eo2] at c2
  simp (maxSteps := 4000000) only [go_sem, ↓reduceIte, reduceCtorEq, Nat.reduceEqDiff, Nat.reduceBEq, Nat.reduceAdd, Nat.reduceSub, Nat.reduceMul, Nat.reduceLT, Nat.reduceLeDiff, Nat.reduceBNe, Int.reduceBEq, Int.reduceBNe, Int.reduceLT, Int.reduceLE, Opr.a, Spn.a, nul]
  refine mcalling (c1 _ ?_) ?_
  · simp (maxSteps := 4000000) only [go_sem, ↓reduceIte, reduceCtorEq, Nat.reduceEqDiff, Nat.reduceBEq, Nat.reduceAdd, Nat.reduceSub, Nat.reduceMul, Nat.reduceLT, Nat.reduceLeDiff, Nat.reduceBNe, Int.reduceBEq, Int.reduceBNe, Int.reduceLT, Int.reduceLE, Opr.a, Spn.a, nul]
  simp (maxSteps := 4000000) only [go_sem, ↓reduceIte, reduceCtorEq, Nat.reduceEqDiff, Nat.reduceBEq, Nat.reduceAdd, Nat.reduceSub, Nat.reduceMul, Nat.reduceLT, Nat.reduceLeDiff, Nat.reduceBNe, Int.reduceBEq, Int.reduceBNe, Int.reduceLT, Int.reduceLE, Opr.a, Spn.a, nul]
  refine mcalling (c2 _ ?_) ?_
  · simp (maxSteps := 4000000) only [go_sem, ↓reduceIte, reduceCtorEq, Nat.reduceEqDiff, Nat.reduceBEq, Nat.reduceAdd, Nat.reduceSub, Nat.reduceMul, Nat.reduceLT, Nat.reduceLeDiff, Nat.reduceBNe, Int.reduceBEq, Int.reduceBNe, Int.reduceLT, Int.reduceLE, Opr.a, Spn.a, nul]
  simp (maxSteps := 4000000) only [go_sem, ↓reduceIte, reduceCtorEq, Nat.reduceEqDiff, Nat.reduceBEq, Nat.reduceAdd, Nat.reduceSub, Nat.reduceMul, Nat.reduceLT, Nat.reduceLeDiff, Nat.reduceBNe, Int.reduceBEq, Int.reduceBNe, Int.reduceLT, Int.reduceLE, Opr.a, Spn.a, nul]
  (first | refine calling (valued_ok ⟨k, key, ⟨#[]⟩, false, ⟨#[]⟩, 0⟩) ?_ | refine callingH (valued_ok ⟨k, key, ⟨#[]⟩, false, ⟨#[]⟩, 0⟩) ?_)
  cases hv : (k == 1 || k == 2) with
  | true =>
    have hv' : Opr.valued ⟨k, key, ⟨#[]⟩, false, ⟨#[]⟩, 0⟩ = true := hv
    have hk : k = 1 ∨ k = 2 := by simpa using hv
    have h4 : (k == 4) = false := by rw [beq_eq_false_iff_ne]; omega
    have h6 : (k == 6) = false := by rw [beq_eq_false_iff_ne]; omega
    obtain ⟨val, s3, is3, e3⟩ : ∃ val s3 is3, tkx s2 = (val, s3, is3) := ⟨_, _, _, rfl⟩
    have c3 : ∀ H, H 8 = some ⟨2, 70, [.agg [.str s2, .bool ok2]], 0⟩ → MFn Tryd.prog 49 [.ptr 8 0 0] H (.str val) (upd H 8 (some ⟨2, 70, [.agg [.str s3, .bool (ok2 && is3)]], 0⟩)) := fun H hq => by
      have := text1_ok s2 ok2 H 8 (by omega) hq; rw [e3] at this; exact this
    obtain ⟨ok3, eo3⟩ : ∃ ok3, (ok2 && is3) = ok3 := ⟨_, rfl⟩
    rw [eo3] at c3
    simp (maxSteps := 4000000) only [go_sem, ↓reduceIte, reduceCtorEq, Nat.reduceEqDiff, Nat.reduceBEq, Nat.reduceAdd, Nat.reduceSub, Nat.reduceMul, Nat.reduceLT, Nat.reduceLeDiff, Nat.reduceBNe, Int.reduceBEq, Int.reduceBNe, Int.reduceLT, Int.reduceLE, Opr.a, Spn.a, nul, hv']
    refine mcalling (c3 _ ?_) ?_
    · simp (maxSteps := 4000000) only [go_sem, ↓reduceIte, reduceCtorEq, Nat.reduceEqDiff, Nat.reduceBEq, Nat.reduceAdd, Nat.reduceSub, Nat.reduceMul, Nat.reduceLT, Nat.reduceLeDiff, Nat.reduceBNe, Int.reduceBEq, Int.reduceBNe, Int.reduceLT, Int.reduceLE, Opr.a, Spn.a, nul]
    simp (maxSteps := 4000000) only [go_sem, ↓reduceIte, reduceCtorEq, Nat.reduceEqDiff, Nat.reduceBEq, Nat.reduceAdd, Nat.reduceSub, Nat.reduceMul, Nat.reduceLT, Nat.reduceLeDiff, Nat.reduceBNe, Int.reduceBEq, Int.reduceBNe, Int.reduceLT, Int.reduceLE, Opr.a, Spn.a, nul]
    (first | refine calling (ranged_ok ⟨k, key, ⟨#[]⟩, false, val, 0⟩) ?_ | refine callingH (ranged_ok ⟨k, key, ⟨#[]⟩, false, val, 0⟩) ?_)
    have hg' : Opr.ranged ⟨k, key, ⟨#[]⟩, false, val, 0⟩ = false := by unfold Opr.ranged; rw [h4, h6]; rfl
    simp (maxSteps := 4000000) only [go_sem, ↓reduceIte, reduceCtorEq, Nat.reduceEqDiff, Nat.reduceBEq, Nat.reduceAdd, Nat.reduceSub, Nat.reduceMul, Nat.reduceLT, Nat.reduceLeDiff, Nat.reduceBNe, Int.reduceBEq, Int.reduceBNe, Int.reduceLT, Int.reduceLE, Opr.a, Spn.a, nul, hg', h6]
    have hR := oRight_ok ⟨k, key, ⟨#[]⟩, false, val, 0⟩ (by show key.size ≤ _; omega)
    rw [ofF_val s s1 s2 key k ok1 is2 ok2 ek e1 e2 eo2 val s3 is3 ok3 hv e3 eo3]
    cases ok3 with
    | false => simp (maxSteps := 4000000) only [go_sem, ↓reduceIte, reduceCtorEq, Nat.reduceEqDiff, Nat.reduceBEq, Nat.reduceAdd, Nat.reduceSub, Nat.reduceMul, Nat.reduceLT, Nat.reduceLeDiff, Nat.reduceBNe, Int.reduceBEq, Int.reduceBNe, Int.reduceLT, Int.reduceLE, Opr.a, Spn.a, nul, ek, e1, e2, eo2, hv, h4, h6, e3, eo3, hg', if_true, if_false, Opr.zero]
    | true =>
      cases hn : (s3.toList == (ByteArray.mk #[]).toList) with
      | false => simp (maxSteps := 4000000) only [go_sem, ↓reduceIte, reduceCtorEq, Nat.reduceEqDiff, Nat.reduceBEq, Nat.reduceAdd, Nat.reduceSub, Nat.reduceMul, Nat.reduceLT, Nat.reduceLeDiff, Nat.reduceBNe, Int.reduceBEq, Int.reduceBNe, Int.reduceLT, Int.reduceLE, Opr.a, Spn.a, nul, ek, e1, e2, eo2, hv, h4, h6, e3, eo3, hg', if_true, if_false, hn, nilB, Opr.zero]
      | true =>
        simp (maxSteps := 4000000) only [go_sem, ↓reduceIte, reduceCtorEq, Nat.reduceEqDiff, Nat.reduceBEq, Nat.reduceAdd, Nat.reduceSub, Nat.reduceMul, Nat.reduceLT, Nat.reduceLeDiff, Nat.reduceBNe, Int.reduceBEq, Int.reduceBNe, Int.reduceLT, Int.reduceLE, Opr.a, Spn.a, nul, ek, e1, e2, eo2, hv, h4, h6, e3, eo3, hg', if_true, if_false, hn, nilB]
        (first | refine calling hR ?_ | refine callingH hR ?_)
        cases hr : Opr.right ⟨k, key, ⟨#[]⟩, false, val, 0⟩ with
        | false => simp (maxSteps := 4000000) only [go_sem, ↓reduceIte, reduceCtorEq, Nat.reduceEqDiff, Nat.reduceBEq, Nat.reduceAdd, Nat.reduceSub, Nat.reduceMul, Nat.reduceLT, Nat.reduceLeDiff, Nat.reduceBNe, Int.reduceBEq, Int.reduceBNe, Int.reduceLT, Int.reduceLE, Opr.a, Spn.a, nul, ek, e1, e2, eo2, hv, h4, h6, e3, eo3, hg', if_true, if_false, hr, Opr.zero]
        | true => simp (maxSteps := 4000000) only [go_sem, ↓reduceIte, reduceCtorEq, Nat.reduceEqDiff, Nat.reduceBEq, Nat.reduceAdd, Nat.reduceSub, Nat.reduceMul, Nat.reduceLT, Nat.reduceLeDiff, Nat.reduceBNe, Int.reduceBEq, Int.reduceBNe, Int.reduceLT, Int.reduceLE, Opr.a, Spn.a, nul, ek, e1, e2, eo2, hv, h4, h6, e3, eo3, hg', if_true, if_false, hr]
  | false =>
    have hv' : Opr.valued ⟨k, key, ⟨#[]⟩, false, ⟨#[]⟩, 0⟩ = false := hv
    simp (maxSteps := 4000000) only [go_sem, ↓reduceIte, reduceCtorEq, Nat.reduceEqDiff, Nat.reduceBEq, Nat.reduceAdd, Nat.reduceSub, Nat.reduceMul, Nat.reduceLT, Nat.reduceLeDiff, Nat.reduceBNe, Int.reduceBEq, Int.reduceBNe, Int.reduceLT, Int.reduceLE, Opr.a, Spn.a, nul, hv']
    (first | refine calling (ranged_ok ⟨k, key, ⟨#[]⟩, false, ⟨#[]⟩, 0⟩) ?_ | refine callingH (ranged_ok ⟨k, key, ⟨#[]⟩, false, ⟨#[]⟩, 0⟩) ?_)
    cases hg : (k == 4 || k == 6) with
    | false =>
      have hg' : Opr.ranged ⟨k, key, ⟨#[]⟩, false, ⟨#[]⟩, 0⟩ = false := hg
      have h6 : (k == 6) = false := by cases h : (k == 6) <;> simp_all
      simp (maxSteps := 4000000) only [go_sem, ↓reduceIte, reduceCtorEq, Nat.reduceEqDiff, Nat.reduceBEq, Nat.reduceAdd, Nat.reduceSub, Nat.reduceMul, Nat.reduceLT, Nat.reduceLeDiff, Nat.reduceBNe, Int.reduceBEq, Int.reduceBNe, Int.reduceLT, Int.reduceLE, Opr.a, Spn.a, nul, hg', h6]
      have hR := oRight_ok ⟨k, key, ⟨#[]⟩, false, ⟨#[]⟩, 0⟩ (by show key.size ≤ _; omega)
      rw [ofF_none s s1 s2 key k ok1 is2 ok2 ek e1 e2 eo2 hv hg]
      cases ok2 with
      | false => simp (maxSteps := 4000000) only [go_sem, ↓reduceIte, reduceCtorEq, Nat.reduceEqDiff, Nat.reduceBEq, Nat.reduceAdd, Nat.reduceSub, Nat.reduceMul, Nat.reduceLT, Nat.reduceLeDiff, Nat.reduceBNe, Int.reduceBEq, Int.reduceBNe, Int.reduceLT, Int.reduceLE, Opr.a, Spn.a, nul, ek, e1, e2, eo2, hv, hg, h6, hg', if_true, if_false, Opr.zero]
      | true =>
        cases hn : (s2.toList == (ByteArray.mk #[]).toList) with
        | false => simp (maxSteps := 4000000) only [go_sem, ↓reduceIte, reduceCtorEq, Nat.reduceEqDiff, Nat.reduceBEq, Nat.reduceAdd, Nat.reduceSub, Nat.reduceMul, Nat.reduceLT, Nat.reduceLeDiff, Nat.reduceBNe, Int.reduceBEq, Int.reduceBNe, Int.reduceLT, Int.reduceLE, Opr.a, Spn.a, nul, ek, e1, e2, eo2, hv, hg, h6, hg', if_true, if_false, hn, nilB, Opr.zero]
        | true =>
          simp (maxSteps := 4000000) only [go_sem, ↓reduceIte, reduceCtorEq, Nat.reduceEqDiff, Nat.reduceBEq, Nat.reduceAdd, Nat.reduceSub, Nat.reduceMul, Nat.reduceLT, Nat.reduceLeDiff, Nat.reduceBNe, Int.reduceBEq, Int.reduceBNe, Int.reduceLT, Int.reduceLE, Opr.a, Spn.a, nul, ek, e1, e2, eo2, hv, hg, h6, hg', if_true, if_false, hn, nilB]
          (first | refine calling hR ?_ | refine callingH hR ?_)
          cases hr : Opr.right ⟨k, key, ⟨#[]⟩, false, ⟨#[]⟩, 0⟩ with
          | false => simp (maxSteps := 4000000) only [go_sem, ↓reduceIte, reduceCtorEq, Nat.reduceEqDiff, Nat.reduceBEq, Nat.reduceAdd, Nat.reduceSub, Nat.reduceMul, Nat.reduceLT, Nat.reduceLeDiff, Nat.reduceBNe, Int.reduceBEq, Int.reduceBNe, Int.reduceLT, Int.reduceLE, Opr.a, Spn.a, nul, ek, e1, e2, eo2, hv, hg, h6, hg', if_true, if_false, hr, Opr.zero]
          | true => simp (maxSteps := 4000000) only [go_sem, ↓reduceIte, reduceCtorEq, Nat.reduceEqDiff, Nat.reduceBEq, Nat.reduceAdd, Nat.reduceSub, Nat.reduceMul, Nat.reduceLT, Nat.reduceLeDiff, Nat.reduceBNe, Int.reduceBEq, Int.reduceBNe, Int.reduceLT, Int.reduceLE, Opr.a, Spn.a, nul, ek, e1, e2, eo2, hv, hg, h6, hg', if_true, if_false, hr]
    | true =>
      have hg' : Opr.ranged ⟨k, key, ⟨#[]⟩, false, ⟨#[]⟩, 0⟩ = true := hg
      obtain ⟨kd, ed⟩ : ∃ kd, tk1v s2 = kd := ⟨_, rfl⟩
      obtain ⟨s3, ok3, e3⟩ : ∃ s3 ok3, tk1 s2 ok2 = (s3, ok3) := ⟨_, _, rfl⟩
      have z3 : s3.size ≤ s2.size := by have := tk1_size s2 ok2; rw [e3] at this; exact this
      have c3 : ∀ H, H 8 = some ⟨2, 70, [.agg [.str s2, .bool ok2]], 0⟩ → MFn Tryd.prog 48 [.ptr 8 0 0] H (.int .i64 kd) (upd H 8 (some ⟨2, 70, [.agg [.str s3, .bool ok3]], 0⟩)) := fun H hq => by
        have := byte1_ok s2 ok2 H 8 (by omega) hq; rw [ed, e3] at this; exact this
      simp (maxSteps := 4000000) only [go_sem, ↓reduceIte, reduceCtorEq, Nat.reduceEqDiff, Nat.reduceBEq, Nat.reduceAdd, Nat.reduceSub, Nat.reduceMul, Nat.reduceLT, Nat.reduceLeDiff, Nat.reduceBNe, Int.reduceBEq, Int.reduceBNe, Int.reduceLT, Int.reduceLE, Opr.a, Spn.a, nul, hg']
      refine mcalling (c3 _ ?_) ?_
      · simp (maxSteps := 4000000) only [go_sem, ↓reduceIte, reduceCtorEq, Nat.reduceEqDiff, Nat.reduceBEq, Nat.reduceAdd, Nat.reduceSub, Nat.reduceMul, Nat.reduceLT, Nat.reduceLeDiff, Nat.reduceBNe, Int.reduceBEq, Int.reduceBNe, Int.reduceLT, Int.reduceLE, Opr.a, Spn.a, nul]
      cases d0 : (kd == 0) with
      | true =>
        obtain ⟨hi, s4, is4, e4⟩ : ∃ hi s4 is4, tkx s3 = (hi, s4, is4) := ⟨_, _, _, rfl⟩
        have z4 := (tkx_size s3).2
        rw [e4] at z4; simp only at z4
        have c4 : ∀ H, H 8 = some ⟨2, 70, [.agg [.str s3, .bool ok3]], 0⟩ → MFn Tryd.prog 49 [.ptr 8 0 0] H (.str hi) (upd H 8 (some ⟨2, 70, [.agg [.str s4, .bool (ok3 && is4)]], 0⟩)) := fun H hq => by
          have := text1_ok s3 ok3 H 8 (by omega) hq; rw [e4] at this; exact this
        obtain ⟨ok4, eo4⟩ : ∃ ok4, (ok3 && is4) = ok4 := ⟨_, rfl⟩
        rw [eo4] at c4
        simp (maxSteps := 4000000) only [go_sem, ↓reduceIte, reduceCtorEq, Nat.reduceEqDiff, Nat.reduceBEq, Nat.reduceAdd, Nat.reduceSub, Nat.reduceMul, Nat.reduceLT, Nat.reduceLeDiff, Nat.reduceBNe, Int.reduceBEq, Int.reduceBNe, Int.reduceLT, Int.reduceLE, Opr.a, Spn.a, nul, d0]
        refine mcalling (c4 _ ?_) ?_
        · simp (maxSteps := 4000000) only [go_sem, ↓reduceIte, reduceCtorEq, Nat.reduceEqDiff, Nat.reduceBEq, Nat.reduceAdd, Nat.reduceSub, Nat.reduceMul, Nat.reduceLT, Nat.reduceLeDiff, Nat.reduceBNe, Int.reduceBEq, Int.reduceBNe, Int.reduceLT, Int.reduceLE, Opr.a, Spn.a, nul, d0]
        cases h6 : (k == 6) with
        | false =>
          simp (maxSteps := 4000000) only [go_sem, ↓reduceIte, reduceCtorEq, Nat.reduceEqDiff, Nat.reduceBEq, Nat.reduceAdd, Nat.reduceSub, Nat.reduceMul, Nat.reduceLT, Nat.reduceLeDiff, Nat.reduceBNe, Int.reduceBEq, Int.reduceBNe, Int.reduceLT, Int.reduceLE, Opr.a, Spn.a, nul, d0, h6]
          have hR := oRight_ok ⟨k, key, hi, false, ⟨#[]⟩, 0⟩ (by show key.size ≤ _; omega)
          have h4 : (k == 4) = true := by simpa [h6] using hg
          rw [ofF_hi4 s s1 s2 key k ok1 is2 ok2 ek e1 e2 eo2 hv kd s3 ok3 ed e3 d0 hi s4 is4 ok4 e4 eo4 h4 h6]
          cases ok4 with
          | false => simp (maxSteps := 4000000) only [go_sem, ↓reduceIte, reduceCtorEq, Nat.reduceEqDiff, Nat.reduceBEq, Nat.reduceAdd, Nat.reduceSub, Nat.reduceMul, Nat.reduceLT, Nat.reduceLeDiff, Nat.reduceBNe, Int.reduceBEq, Int.reduceBNe, Int.reduceLT, Int.reduceLE, Opr.a, Spn.a, nul, ek, e1, e2, eo2, hv, hg, ed, e3, d0, e4, eo4, h6, if_true, if_false, Opr.zero]
          | true =>
            cases hn : (s4.toList == (ByteArray.mk #[]).toList) with
            | false => simp (maxSteps := 4000000) only [go_sem, ↓reduceIte, reduceCtorEq, Nat.reduceEqDiff, Nat.reduceBEq, Nat.reduceAdd, Nat.reduceSub, Nat.reduceMul, Nat.reduceLT, Nat.reduceLeDiff, Nat.reduceBNe, Int.reduceBEq, Int.reduceBNe, Int.reduceLT, Int.reduceLE, Opr.a, Spn.a, nul, ek, e1, e2, eo2, hv, hg, ed, e3, d0, e4, eo4, h6, if_true, if_false, hn, nilB, Opr.zero]
            | true =>
              simp (maxSteps := 4000000) only [go_sem, ↓reduceIte, reduceCtorEq, Nat.reduceEqDiff, Nat.reduceBEq, Nat.reduceAdd, Nat.reduceSub, Nat.reduceMul, Nat.reduceLT, Nat.reduceLeDiff, Nat.reduceBNe, Int.reduceBEq, Int.reduceBNe, Int.reduceLT, Int.reduceLE, Opr.a, Spn.a, nul, ek, e1, e2, eo2, hv, hg, ed, e3, d0, e4, eo4, h6, if_true, if_false, hn, nilB]
              (first | refine calling hR ?_ | refine callingH hR ?_)
              cases hr : Opr.right ⟨k, key, hi, false, ⟨#[]⟩, 0⟩ with
              | false => simp (maxSteps := 4000000) only [go_sem, ↓reduceIte, reduceCtorEq, Nat.reduceEqDiff, Nat.reduceBEq, Nat.reduceAdd, Nat.reduceSub, Nat.reduceMul, Nat.reduceLT, Nat.reduceLeDiff, Nat.reduceBNe, Int.reduceBEq, Int.reduceBNe, Int.reduceLT, Int.reduceLE, Opr.a, Spn.a, nul, ek, e1, e2, eo2, hv, hg, ed, e3, d0, e4, eo4, h6, if_true, if_false, hr, Opr.zero]
              | true => simp (maxSteps := 4000000) only [go_sem, ↓reduceIte, reduceCtorEq, Nat.reduceEqDiff, Nat.reduceBEq, Nat.reduceAdd, Nat.reduceSub, Nat.reduceMul, Nat.reduceLT, Nat.reduceLeDiff, Nat.reduceBNe, Int.reduceBEq, Int.reduceBNe, Int.reduceLT, Int.reduceLE, Opr.a, Spn.a, nul, ek, e1, e2, eo2, hv, hg, ed, e3, d0, e4, eo4, h6, if_true, if_false, hr]
        | true =>
          obtain ⟨lim, el⟩ : ∃ lim, tk1v s4 = lim := ⟨_, rfl⟩
          obtain ⟨s9, ok9, e9⟩ : ∃ s9 ok9, tk1 s4 ok4 = (s9, ok9) := ⟨_, _, rfl⟩
          have c9 : ∀ H, H 8 = some ⟨2, 70, [.agg [.str s4, .bool ok4]], 0⟩ → MFn Tryd.prog 48 [.ptr 8 0 0] H (.int .i64 lim) (upd H 8 (some ⟨2, 70, [.agg [.str s9, .bool ok9]], 0⟩)) := fun H hq => by
            have := byte1_ok s4 ok4 H 8 (by omega) hq; rw [el, e9] at this; exact this
          simp (maxSteps := 4000000) only [go_sem, ↓reduceIte, reduceCtorEq, Nat.reduceEqDiff, Nat.reduceBEq, Nat.reduceAdd, Nat.reduceSub, Nat.reduceMul, Nat.reduceLT, Nat.reduceLeDiff, Nat.reduceBNe, Int.reduceBEq, Int.reduceBNe, Int.reduceLT, Int.reduceLE, Opr.a, Spn.a, nul, d0, h6]
          refine mcalling (c9 _ ?_) ?_
          · simp (maxSteps := 4000000) only [go_sem, ↓reduceIte, reduceCtorEq, Nat.reduceEqDiff, Nat.reduceBEq, Nat.reduceAdd, Nat.reduceSub, Nat.reduceMul, Nat.reduceLT, Nat.reduceLeDiff, Nat.reduceBNe, Int.reduceBEq, Int.reduceBNe, Int.reduceLT, Int.reduceLE, Opr.a, Spn.a, nul, d0]
          simp (maxSteps := 4000000) only [go_sem, ↓reduceIte, reduceCtorEq, Nat.reduceEqDiff, Nat.reduceBEq, Nat.reduceAdd, Nat.reduceSub, Nat.reduceMul, Nat.reduceLT, Nat.reduceLeDiff, Nat.reduceBNe, Int.reduceBEq, Int.reduceBNe, Int.reduceLT, Int.reduceLE, Opr.a, Spn.a, nul, d0]
          have hR := oRight_ok ⟨k, key, hi, false, ⟨#[]⟩, lim⟩ (by show key.size ≤ _; omega)
          rw [ofF_hi6 s s1 s2 key k ok1 is2 ok2 ek e1 e2 eo2 hv kd s3 ok3 ed e3 d0 hi s4 is4 ok4 e4 eo4 h6 lim s9 ok9 el e9]
          cases ok9 with
          | false => simp (maxSteps := 4000000) only [go_sem, ↓reduceIte, reduceCtorEq, Nat.reduceEqDiff, Nat.reduceBEq, Nat.reduceAdd, Nat.reduceSub, Nat.reduceMul, Nat.reduceLT, Nat.reduceLeDiff, Nat.reduceBNe, Int.reduceBEq, Int.reduceBNe, Int.reduceLT, Int.reduceLE, Opr.a, Spn.a, nul, ek, e1, e2, eo2, hv, hg, ed, e3, d0, e4, eo4, h6, el, e9, if_true, if_false, Opr.zero]
          | true =>
            cases hn : (s9.toList == (ByteArray.mk #[]).toList) with
            | false => simp (maxSteps := 4000000) only [go_sem, ↓reduceIte, reduceCtorEq, Nat.reduceEqDiff, Nat.reduceBEq, Nat.reduceAdd, Nat.reduceSub, Nat.reduceMul, Nat.reduceLT, Nat.reduceLeDiff, Nat.reduceBNe, Int.reduceBEq, Int.reduceBNe, Int.reduceLT, Int.reduceLE, Opr.a, Spn.a, nul, ek, e1, e2, eo2, hv, hg, ed, e3, d0, e4, eo4, h6, el, e9, if_true, if_false, hn, nilB, Opr.zero]
            | true =>
              simp (maxSteps := 4000000) only [go_sem, ↓reduceIte, reduceCtorEq, Nat.reduceEqDiff, Nat.reduceBEq, Nat.reduceAdd, Nat.reduceSub, Nat.reduceMul, Nat.reduceLT, Nat.reduceLeDiff, Nat.reduceBNe, Int.reduceBEq, Int.reduceBNe, Int.reduceLT, Int.reduceLE, Opr.a, Spn.a, nul, ek, e1, e2, eo2, hv, hg, ed, e3, d0, e4, eo4, h6, el, e9, if_true, if_false, hn, nilB]
              (first | refine calling hR ?_ | refine callingH hR ?_)
              cases hr : Opr.right ⟨k, key, hi, false, ⟨#[]⟩, lim⟩ with
              | false => simp (maxSteps := 4000000) only [go_sem, ↓reduceIte, reduceCtorEq, Nat.reduceEqDiff, Nat.reduceBEq, Nat.reduceAdd, Nat.reduceSub, Nat.reduceMul, Nat.reduceLT, Nat.reduceLeDiff, Nat.reduceBNe, Int.reduceBEq, Int.reduceBNe, Int.reduceLT, Int.reduceLE, Opr.a, Spn.a, nul, ek, e1, e2, eo2, hv, hg, ed, e3, d0, e4, eo4, h6, el, e9, if_true, if_false, hr, Opr.zero]
              | true => simp (maxSteps := 4000000) only [go_sem, ↓reduceIte, reduceCtorEq, Nat.reduceEqDiff, Nat.reduceBEq, Nat.reduceAdd, Nat.reduceSub, Nat.reduceMul, Nat.reduceLT, Nat.reduceLeDiff, Nat.reduceBNe, Int.reduceBEq, Int.reduceBNe, Int.reduceLT, Int.reduceLE, Opr.a, Spn.a, nul, ek, e1, e2, eo2, hv, hg, ed, e3, d0, e4, eo4, h6, el, e9, if_true, if_false, hr]
      | false =>
        cases d1 : (kd == 1) with
        | true =>
          cases h6 : (k == 6) with
          | false =>
            simp (maxSteps := 4000000) only [go_sem, ↓reduceIte, reduceCtorEq, Nat.reduceEqDiff, Nat.reduceBEq, Nat.reduceAdd, Nat.reduceSub, Nat.reduceMul, Nat.reduceLT, Nat.reduceLeDiff, Nat.reduceBNe, Int.reduceBEq, Int.reduceBNe, Int.reduceLT, Int.reduceLE, Opr.a, Spn.a, nul, d0, d1, h6]
            have hR := oRight_ok ⟨k, key, ⟨#[]⟩, true, ⟨#[]⟩, 0⟩ (by show key.size ≤ _; omega)
            have h4 : (k == 4) = true := by simpa [h6] using hg
            rw [ofF_op4 s s1 s2 key k ok1 is2 ok2 ek e1 e2 eo2 hv kd s3 ok3 ed e3 d0 d1 h4 h6]
            cases ok3 with
            | false => simp (maxSteps := 4000000) only [go_sem, ↓reduceIte, reduceCtorEq, Nat.reduceEqDiff, Nat.reduceBEq, Nat.reduceAdd, Nat.reduceSub, Nat.reduceMul, Nat.reduceLT, Nat.reduceLeDiff, Nat.reduceBNe, Int.reduceBEq, Int.reduceBNe, Int.reduceLT, Int.reduceLE, Opr.a, Spn.a, nul, ek, e1, e2, eo2, hv, hg, ed, e3, d0, d1, h6, if_true, if_false, Opr.zero]
            | true =>
              cases hn : (s3.toList == (ByteArray.mk #[]).toList) with
              | false => simp (maxSteps := 4000000) only [go_sem, ↓reduceIte, reduceCtorEq, Nat.reduceEqDiff, Nat.reduceBEq, Nat.reduceAdd, Nat.reduceSub, Nat.reduceMul, Nat.reduceLT, Nat.reduceLeDiff, Nat.reduceBNe, Int.reduceBEq, Int.reduceBNe, Int.reduceLT, Int.reduceLE, Opr.a, Spn.a, nul, ek, e1, e2, eo2, hv, hg, ed, e3, d0, d1, h6, if_true, if_false, hn, nilB, Opr.zero]
              | true =>
                simp (maxSteps := 4000000) only [go_sem, ↓reduceIte, reduceCtorEq, Nat.reduceEqDiff, Nat.reduceBEq, Nat.reduceAdd, Nat.reduceSub, Nat.reduceMul, Nat.reduceLT, Nat.reduceLeDiff, Nat.reduceBNe, Int.reduceBEq, Int.reduceBNe, Int.reduceLT, Int.reduceLE, Opr.a, Spn.a, nul, ek, e1, e2, eo2, hv, hg, ed, e3, d0, d1, h6, if_true, if_false, hn, nilB]
                (first | refine calling hR ?_ | refine callingH hR ?_)
                cases hr : Opr.right ⟨k, key, ⟨#[]⟩, true, ⟨#[]⟩, 0⟩ with
                | false => simp (maxSteps := 4000000) only [go_sem, ↓reduceIte, reduceCtorEq, Nat.reduceEqDiff, Nat.reduceBEq, Nat.reduceAdd, Nat.reduceSub, Nat.reduceMul, Nat.reduceLT, Nat.reduceLeDiff, Nat.reduceBNe, Int.reduceBEq, Int.reduceBNe, Int.reduceLT, Int.reduceLE, Opr.a, Spn.a, nul, ek, e1, e2, eo2, hv, hg, ed, e3, d0, d1, h6, if_true, if_false, hr, Opr.zero]
                | true => simp (maxSteps := 4000000) only [go_sem, ↓reduceIte, reduceCtorEq, Nat.reduceEqDiff, Nat.reduceBEq, Nat.reduceAdd, Nat.reduceSub, Nat.reduceMul, Nat.reduceLT, Nat.reduceLeDiff, Nat.reduceBNe, Int.reduceBEq, Int.reduceBNe, Int.reduceLT, Int.reduceLE, Opr.a, Spn.a, nul, ek, e1, e2, eo2, hv, hg, ed, e3, d0, d1, h6, if_true, if_false, hr]
          | true =>
            obtain ⟨lim, el⟩ : ∃ lim, tk1v s3 = lim := ⟨_, rfl⟩
            obtain ⟨s9, ok9, e9⟩ : ∃ s9 ok9, tk1 s3 ok3 = (s9, ok9) := ⟨_, _, rfl⟩
            have c9 : ∀ H, H 8 = some ⟨2, 70, [.agg [.str s3, .bool ok3]], 0⟩ → MFn Tryd.prog 48 [.ptr 8 0 0] H (.int .i64 lim) (upd H 8 (some ⟨2, 70, [.agg [.str s9, .bool ok9]], 0⟩)) := fun H hq => by
              have := byte1_ok s3 ok3 H 8 (by omega) hq; rw [el, e9] at this; exact this
            simp (maxSteps := 4000000) only [go_sem, ↓reduceIte, reduceCtorEq, Nat.reduceEqDiff, Nat.reduceBEq, Nat.reduceAdd, Nat.reduceSub, Nat.reduceMul, Nat.reduceLT, Nat.reduceLeDiff, Nat.reduceBNe, Int.reduceBEq, Int.reduceBNe, Int.reduceLT, Int.reduceLE, Opr.a, Spn.a, nul, d0, d1, h6]
            refine mcalling (c9 _ ?_) ?_
            · simp (maxSteps := 4000000) only [go_sem, ↓reduceIte, reduceCtorEq, Nat.reduceEqDiff, Nat.reduceBEq, Nat.reduceAdd, Nat.reduceSub, Nat.reduceMul, Nat.reduceLT, Nat.reduceLeDiff, Nat.reduceBNe, Int.reduceBEq, Int.reduceBNe, Int.reduceLT, Int.reduceLE, Opr.a, Spn.a, nul, d0, d1]
            simp (maxSteps := 4000000) only [go_sem, ↓reduceIte, reduceCtorEq, Nat.reduceEqDiff, Nat.reduceBEq, Nat.reduceAdd, Nat.reduceSub, Nat.reduceMul, Nat.reduceLT, Nat.reduceLeDiff, Nat.reduceBNe, Int.reduceBEq, Int.reduceBNe, Int.reduceLT, Int.reduceLE, Opr.a, Spn.a, nul, d0, d1]
            have hR := oRight_ok ⟨k, key, ⟨#[]⟩, true, ⟨#[]⟩, lim⟩ (by show key.size ≤ _; omega)
            rw [ofF_op6 s s1 s2 key k ok1 is2 ok2 ek e1 e2 eo2 hv kd s3 ok3 ed e3 d0 d1 h6 lim s9 ok9 el e9]
            cases ok9 with
            | false => simp (maxSteps := 4000000) only [go_sem, ↓reduceIte, reduceCtorEq, Nat.reduceEqDiff, Nat.reduceBEq, Nat.reduceAdd, Nat.reduceSub, Nat.reduceMul, Nat.reduceLT, Nat.reduceLeDiff, Nat.reduceBNe, Int.reduceBEq, Int.reduceBNe, Int.reduceLT, Int.reduceLE, Opr.a, Spn.a, nul, ek, e1, e2, eo2, hv, hg, ed, e3, d0, d1, h6, el, e9, if_true, if_false, Opr.zero]
            | true =>
              cases hn : (s9.toList == (ByteArray.mk #[]).toList) with
              | false => simp (maxSteps := 4000000) only [go_sem, ↓reduceIte, reduceCtorEq, Nat.reduceEqDiff, Nat.reduceBEq, Nat.reduceAdd, Nat.reduceSub, Nat.reduceMul, Nat.reduceLT, Nat.reduceLeDiff, Nat.reduceBNe, Int.reduceBEq, Int.reduceBNe, Int.reduceLT, Int.reduceLE, Opr.a, Spn.a, nul, ek, e1, e2, eo2, hv, hg, ed, e3, d0, d1, h6, el, e9, if_true, if_false, hn, nilB, Opr.zero]
              | true =>
                simp (maxSteps := 4000000) only [go_sem, ↓reduceIte, reduceCtorEq, Nat.reduceEqDiff, Nat.reduceBEq, Nat.reduceAdd, Nat.reduceSub, Nat.reduceMul, Nat.reduceLT, Nat.reduceLeDiff, Nat.reduceBNe, Int.reduceBEq, Int.reduceBNe, Int.reduceLT, Int.reduceLE, Opr.a, Spn.a, nul, ek, e1, e2, eo2, hv, hg, ed, e3, d0, d1, h6, el, e9, if_true, if_false, hn, nilB]
                (first | refine calling hR ?_ | refine callingH hR ?_)
                cases hr : Opr.right ⟨k, key, ⟨#[]⟩, true, ⟨#[]⟩, lim⟩ with
                | false => simp (maxSteps := 4000000) only [go_sem, ↓reduceIte, reduceCtorEq, Nat.reduceEqDiff, Nat.reduceBEq, Nat.reduceAdd, Nat.reduceSub, Nat.reduceMul, Nat.reduceLT, Nat.reduceLeDiff, Nat.reduceBNe, Int.reduceBEq, Int.reduceBNe, Int.reduceLT, Int.reduceLE, Opr.a, Spn.a, nul, ek, e1, e2, eo2, hv, hg, ed, e3, d0, d1, h6, el, e9, if_true, if_false, hr, Opr.zero]
                | true => simp (maxSteps := 4000000) only [go_sem, ↓reduceIte, reduceCtorEq, Nat.reduceEqDiff, Nat.reduceBEq, Nat.reduceAdd, Nat.reduceSub, Nat.reduceMul, Nat.reduceLT, Nat.reduceLeDiff, Nat.reduceBNe, Int.reduceBEq, Int.reduceBNe, Int.reduceLT, Int.reduceLE, Opr.a, Spn.a, nul, ek, e1, e2, eo2, hv, hg, ed, e3, d0, d1, h6, el, e9, if_true, if_false, hr]
        | false =>
          cases h6 : (k == 6) with
          | false =>
            simp (maxSteps := 4000000) only [go_sem, ↓reduceIte, reduceCtorEq, Nat.reduceEqDiff, Nat.reduceBEq, Nat.reduceAdd, Nat.reduceSub, Nat.reduceMul, Nat.reduceLT, Nat.reduceLeDiff, Nat.reduceBNe, Int.reduceBEq, Int.reduceBNe, Int.reduceLT, Int.reduceLE, Opr.a, Spn.a, nul, d0, d1, h6]
            have hR := oRight_ok ⟨k, key, ⟨#[]⟩, false, ⟨#[]⟩, 0⟩ (by show key.size ≤ _; omega)
            have h4 : (k == 4) = true := by simpa [h6] using hg
            rw [ofF_odd4 s s1 s2 key k ok1 is2 ok2 ek e1 e2 eo2 hv kd s3 ok3 ed e3 d0 d1 h4 h6]
            simp (maxSteps := 4000000) only [go_sem, ↓reduceIte, reduceCtorEq, Nat.reduceEqDiff, Nat.reduceBEq, Nat.reduceAdd, Nat.reduceSub, Nat.reduceMul, Nat.reduceLT, Nat.reduceLeDiff, Nat.reduceBNe, Int.reduceBEq, Int.reduceBNe, Int.reduceLT, Int.reduceLE, Opr.a, Spn.a, nul, ek, e1, e2, eo2, hv, hg, ed, e3, d0, d1, h6, if_true, if_false, Opr.zero]
          | true =>
            obtain ⟨lim, el⟩ : ∃ lim, tk1v s3 = lim := ⟨_, rfl⟩
            obtain ⟨s9, ok9, e9⟩ : ∃ s9 ok9, tk1 s3 false = (s9, ok9) := ⟨_, _, rfl⟩
            have c9 : ∀ H, H 8 = some ⟨2, 70, [.agg [.str s3, .bool false]], 0⟩ → MFn Tryd.prog 48 [.ptr 8 0 0] H (.int .i64 lim) (upd H 8 (some ⟨2, 70, [.agg [.str s9, .bool ok9]], 0⟩)) := fun H hq => by
              have := byte1_ok s3 false H 8 (by omega) hq; rw [el, e9] at this; exact this
            simp (maxSteps := 4000000) only [go_sem, ↓reduceIte, reduceCtorEq, Nat.reduceEqDiff, Nat.reduceBEq, Nat.reduceAdd, Nat.reduceSub, Nat.reduceMul, Nat.reduceLT, Nat.reduceLeDiff, Nat.reduceBNe, Int.reduceBEq, Int.reduceBNe, Int.reduceLT, Int.reduceLE, Opr.a, Spn.a, nul, d0, d1, h6]
            refine mcalling (c9 _ ?_) ?_
            · simp (maxSteps := 4000000) only [go_sem, ↓reduceIte, reduceCtorEq, Nat.reduceEqDiff, Nat.reduceBEq, Nat.reduceAdd, Nat.reduceSub, Nat.reduceMul, Nat.reduceLT, Nat.reduceLeDiff, Nat.reduceBNe, Int.reduceBEq, Int.reduceBNe, Int.reduceLT, Int.reduceLE, Opr.a, Spn.a, nul, d0, d1]
            simp (maxSteps := 4000000) only [go_sem, ↓reduceIte, reduceCtorEq, Nat.reduceEqDiff, Nat.reduceBEq, Nat.reduceAdd, Nat.reduceSub, Nat.reduceMul, Nat.reduceLT, Nat.reduceLeDiff, Nat.reduceBNe, Int.reduceBEq, Int.reduceBNe, Int.reduceLT, Int.reduceLE, Opr.a, Spn.a, nul, d0, d1]
            have hR := oRight_ok ⟨k, key, ⟨#[]⟩, false, ⟨#[]⟩, lim⟩ (by show key.size ≤ _; omega)
            rw [ofF_odd6 s s1 s2 key k ok1 is2 ok2 ek e1 e2 eo2 hv kd s3 ok3 ed e3 d0 d1 h6 lim s9 ok9 el e9]
            cases ok9 with
            | false => simp (maxSteps := 4000000) only [go_sem, ↓reduceIte, reduceCtorEq, Nat.reduceEqDiff, Nat.reduceBEq, Nat.reduceAdd, Nat.reduceSub, Nat.reduceMul, Nat.reduceLT, Nat.reduceLeDiff, Nat.reduceBNe, Int.reduceBEq, Int.reduceBNe, Int.reduceLT, Int.reduceLE, Opr.a, Spn.a, nul, ek, e1, e2, eo2, hv, hg, ed, e3, d0, d1, h6, el, e9, if_true, if_false, Opr.zero]
            | true =>
              cases hn : (s9.toList == (ByteArray.mk #[]).toList) with
              | false => simp (maxSteps := 4000000) only [go_sem, ↓reduceIte, reduceCtorEq, Nat.reduceEqDiff, Nat.reduceBEq, Nat.reduceAdd, Nat.reduceSub, Nat.reduceMul, Nat.reduceLT, Nat.reduceLeDiff, Nat.reduceBNe, Int.reduceBEq, Int.reduceBNe, Int.reduceLT, Int.reduceLE, Opr.a, Spn.a, nul, ek, e1, e2, eo2, hv, hg, ed, e3, d0, d1, h6, el, e9, if_true, if_false, hn, nilB, Opr.zero]
              | true =>
                simp (maxSteps := 4000000) only [go_sem, ↓reduceIte, reduceCtorEq, Nat.reduceEqDiff, Nat.reduceBEq, Nat.reduceAdd, Nat.reduceSub, Nat.reduceMul, Nat.reduceLT, Nat.reduceLeDiff, Nat.reduceBNe, Int.reduceBEq, Int.reduceBNe, Int.reduceLT, Int.reduceLE, Opr.a, Spn.a, nul, ek, e1, e2, eo2, hv, hg, ed, e3, d0, d1, h6, el, e9, if_true, if_false, hn, nilB]
                (first | refine calling hR ?_ | refine callingH hR ?_)
                cases hr : Opr.right ⟨k, key, ⟨#[]⟩, false, ⟨#[]⟩, lim⟩ with
                | false => simp (maxSteps := 4000000) only [go_sem, ↓reduceIte, reduceCtorEq, Nat.reduceEqDiff, Nat.reduceBEq, Nat.reduceAdd, Nat.reduceSub, Nat.reduceMul, Nat.reduceLT, Nat.reduceLeDiff, Nat.reduceBNe, Int.reduceBEq, Int.reduceBNe, Int.reduceLT, Int.reduceLE, Opr.a, Spn.a, nul, ek, e1, e2, eo2, hv, hg, ed, e3, d0, d1, h6, el, e9, if_true, if_false, hr, Opr.zero]
                | true => simp (maxSteps := 4000000) only [go_sem, ↓reduceIte, reduceCtorEq, Nat.reduceEqDiff, Nat.reduceBEq, Nat.reduceAdd, Nat.reduceSub, Nat.reduceMul, Nat.reduceLT, Nat.reduceLeDiff, Nat.reduceBNe, Int.reduceBEq, Int.reduceBNe, Int.reduceLT, Int.reduceLE, Opr.a, Spn.a, nul, ek, e1, e2, eo2, hv, hg, ed, e3, d0, d1, h6, el, e9, if_true, if_false, hr]
end Go.Proofs.YtgpoglaojklfbaaDoor
