/-
  Layer 7 on the plain machine: an operation as bytes, and back: the code.
-/
import Derived.Test.YtgpoglaojklfbaaDoorPkK
namespace Go.Proofs.YtgpoglaojklfbaaDoor
open Go.RowKit
set_option linter.unusedVariables false
set_option linter.unusedSimpArgs false
set_option maxRecDepth 100000
attribute [local go_sem ↓] runOp headOp
attribute [local go_sem] ev0 ev1 ev2 ev3 ev4 evA stHOk.eq_1 stHOk.eq_2 stHSt.eq_1 stHSt.eq_2 okV valV fzV okF valF okBld valBld mxOk.eq_1 mxOk.eq_2 mxVal.eq_1 mxVal.eq_2 cellFit.eq_1 cellFit.eq_2 cellFit.eq_3 cellEq.eq_1 cellEq.eq_2 cellEq.eq_3 upd_at AV.flatB AV.flatBs binIok binIV binSok binSV cellsOk.eq_1 cellsOk.eq_2 cellsVal.eq_1 cellsVal.eq_2 objCells.eq_1 objCells.eq_2 objZ.eq_1 objZ.eq_2 objProt.eq_1 objProt.eq_2 oneObj ptrOk.eq_1 ptrOk.eq_2 ptrOk.eq_3 ptrCells.eq_1 ptrCells.eq_2 ptrCells.eq_3 lenOk.eq_1 lenOk.eq_2 lenOk.eq_3 lenOk.eq_4 lenVal.eq_1 lenVal.eq_2 lenVal.eq_3 lenVal.eq_4 faOk.eq_1 faOk.eq_2 faOk.eq_3 faVal.eq_1 faVal.eq_2 faVal.eq_3 iaOk.eq_1 iaOk.eq_2 iaOk.eq_3 iaVal.eq_1 iaVal.eq_2 iaVal.eq_3 slcLen.eq_1 slcLen.eq_2 slcLen.eq_3 slcLen.eq_4 bdOk.eq_1 bdOk.eq_2 bdVal.eq_1 bdVal.eq_2 slcOk.eq_1 slcOk.eq_2 slcOk.eq_3 slcOk.eq_4 slcVal.eq_1 slcVal.eq_2 slcVal.eq_3 slcVal.eq_4 slcFz.eq_1 slcFz.eq_2 byOk.eq_1 byOk.eq_2 byOk.eq_3 byOk.eq_4 byOk.eq_5 byOk.eq_6 byVal.eq_1 byVal.eq_2 byVal.eq_3 byFz.eq_1 byFz.eq_2 byFz.eq_3 byOks byVals byFzs allOne resSt.eq_1 resSt.eq_2 resName.eq_1 resName.eq_2 stOk.eq_1 stOk.eq_2 stArr.eq_1 stArr.eq_2 stSt.eq_1 stSt.eq_2 AV.patch nameOk_none gB.eq_1 gB.eq_2 gB.eq_3 gIs.eq_1 gIs.eq_2 gIs.eq_3 retV resV resVs evalV cellsV St.byval List.getD_cons_zero List.getD_cons_succ List.getD_nil List.map_cons List.map_nil List.length_cons List.length_nil List.take_succ_cons List.take_zero List.drop_succ_cons List.drop_zero List.headD_cons List.set_cons_zero List.append_nil List.nil_append List.cons_append List.contains_cons List.contains_nil List.elem_cons List.elem_nil List.all_cons List.all_nil List.getElem?_cons_zero List.getElem?_cons_succ List.filterMap_cons List.filterMap_nil Option.isSome_some Option.isSome_none Option.map_some Option.map_none Option.some.injEq AV.int.injEq AV.bool.injEq AV.str.injEq AV.tup.injEq AV.agg.injEq AV.sl.injEq List.cons.injEq Bool.false_eq_true Bool.true_eq_false Bool.not_true Bool.not_false Bool.and_true Bool.true_and Bool.or_false Bool.or_true Bool.false_or Bool.true_or Bool.or_self Bool.and_self Bool.not_eq_true' Bool.not_eq_false' Bool.not_not beq_self_eq_true true_and and_true false_and and_false and_self not_true_eq_false not_false_eq_true forall_const true_implies false_implies implies_true imp_self Nat.lt_add_one Nat.le_refl Nat.zero_le Nat.add_zero Nat.zero_add decide_true decide_false decide_eq_true_eq decide_eq_false_iff_not exists_eq_left exists_eq_left' ge_iff_le gt_iff_lt ite_branch ite_branch' nilOk.eq_1 nilOk.eq_2 nilMay.eq_1 nilMay.eq_2 AV.isSl.eq_1 objTy'.eq_1 objTy'.eq_2 apSt.eq_1 apArr.eq_1 apArr.eq_2 slOf.eq_1 fitsV List.mem_cons List.not_mem_nil Bool.false_and Bool.and_false primOk.eq_1 primOk.eq_2 primOk.eq_3 primOk.eq_4 primOk.eq_5 primVal.eq_1 primVal.eq_2 primVal.eq_3 primVal.eq_4 primVal.eq_5 mOk.eq_1 mOk.eq_2 mVal.eq_1 mVal.eq_2 mFz.eq_1 mFz.eq_2 mOks mVals mFzs mCalOk.eq_1 mCalOk.eq_2 mFn.eq_1 mFn.eq_2 mArgs.eq_1 mArgs.eq_2 ckOk.eq_1 ckOk.eq_2 cloOk.eq_1 ptrAt.eq_1 sh.eq_1 sh.eq_2 sh.eq_3 sh.eq_4 retM shH_small
/-! ### percolate/op.Bytes$1 -/
def r_lay_0 : Reg := ⟨[], [⟨(.mv (.t 0)), (some 6), none, [7], []⟩, ⟨(.callv (.c (.clo 18 [] [])) [(.t 6)]), (some 7), none, [], []⟩, ⟨(.mv (.t 7)), (some 5), none, [], []⟩, ⟨(.ext 0 (.t 5)), (some 8), none, [], []⟩, ⟨(.ext 1 (.t 5)), (some 9), none, [], []⟩, ⟨(.mv (.t 8)), (some 3), none, [], []⟩, ⟨(.mv (.t 9)), (some 4), none, [], []⟩], [7], [], false⟩
def r_lay_1 : Reg := ⟨[], [⟨(.load 1 false (.t 1)), (some 10), none, [], []⟩, ⟨(.mv (.t 3)), (some 11), none, [], []⟩, ⟨(.bin .add (.t 10) (.t 11)), (some 12), none, [], []⟩, ⟨(.store 1 (.t 1) (.t 12)), none, none, [], []⟩], [], [], false⟩
def ir_lay : IR := (.seq (.reg r_lay_0)
  (.reg r_lay_1))
def res_lay : List RDesc := []
theorem e_lay_0 (C : FuncId → List AV → AV → Prop) (σ : St) (K : St → Prop) : runReg C r_lay_0 σ K = runOps C [⟨(.mv (.t 0)), (some 6), none, [7], []⟩, ⟨(.callv (.c (.clo 18 [] [])) [(.t 6)]), (some 7), none, [], []⟩, ⟨(.mv (.t 7)), (some 5), none, [], []⟩, ⟨(.ext 0 (.t 5)), (some 8), none, [], []⟩, ⟨(.ext 1 (.t 5)), (some 9), none, [], []⟩, ⟨(.mv (.t 8)), (some 3), none, [], []⟩, ⟨(.mv (.t 9)), (some 4), none, [], []⟩] (σ.kills [7]) K := rfl
theorem e_lay_1 (C : FuncId → List AV → AV → Prop) (σ : St) (K : St → Prop) : runReg C r_lay_1 σ K = runOps C [⟨(.load 1 false (.t 1)), (some 10), none, [], []⟩, ⟨(.mv (.t 3)), (some 11), none, [], []⟩, ⟨(.bin .add (.t 10) (.t 11)), (some 12), none, [], []⟩, ⟨(.store 1 (.t 1) (.t 12)), none, none, [], []⟩] (σ.kills []) K := rfl
theorem fnm_lay {args : List AV} {r : AV} {H H' : Nat → Option Arr} (ha : args.length.ble Tryd.f43.ntmps = true) (h : run (AFn Tryd.prog) ir_lay (endM res_lay r H') (initM args H)) : MFn Tryd.prog 43 args H r H' :=
  MFn.of_code (hint := fun _ => []) (c := Tryd.f43.body.getD .skip) (by kernel_rfl) (by kernel_rfl) Tryd.func43 (by kernel_rfl) (by kernel_rfl) (by kernel_rfl) (of_decide_eq_true (by kernel_rfl)) (Nat.le_of_ble_eq_true ha) (Nat.le_of_ble_eq_true (by kernel_rfl)) (run_ok h)

/-! ### (*percolate/op.taker).byte1 -/
def r_byte1_0 : Reg := ⟨[], [⟨(.mv (.c (.int .i64 0))), (some 2), none, [], []⟩], [], [], false⟩
def r_byte1_1 : List XOp := [(.op [] ⟨(.mv (.t 0)), (some 4), none, [], []⟩), (.nilck 5 (.t 4) none), (.op [] ⟨(.faddr 0 (.t 5)), (some 6), none, [], []⟩), (.op [] ⟨(.load 1 false (.t 6)), (some 7), none, [], []⟩), (.op [] ⟨(.bin .eql (.t 7) (.c (.str ⟨#[]⟩))), (some 8), none, [], []⟩)]
def r_byte1_2 : List XOp := [(.op [] ⟨(.mv (.t 0)), (some 9), none, [], []⟩), (.nilck 10 (.t 9) none), (.op [] ⟨(.faddr 1 (.t 10)), (some 11), none, [], []⟩), (.op [] ⟨(.store 1 (.t 11) (.c (.bool false))), none, none, [], []⟩)]
def r_byte1_3 : Reg := ⟨[], [⟨(.mv (.c (.int .i64 0))), (some 2), none, [], []⟩], [], [], false⟩
def r_byte1_4 : List XOp := [(.op [] ⟨(.mv (.t 0)), (some 12), none, [], []⟩), (.nilck 13 (.t 12) none), (.op [] ⟨(.faddr 0 (.t 13)), (some 14), none, [], []⟩), (.op [] ⟨(.load 1 false (.t 14)), (some 15), none, [], []⟩), (.op [] ⟨(.idx (.t 15) (.c (.int .i64 0))), (some 16), none, [], []⟩), (.op [] ⟨(.mv (.t 16)), (some 3), none, [], []⟩)]
def r_byte1_5 : List XOp := [(.op [] ⟨(.mv (.t 0)), (some 17), none, [], []⟩), (.op [] ⟨(.mv (.t 0)), (some 18), none, [], []⟩), (.nilck 19 (.t 18) none), (.op [] ⟨(.faddr 0 (.t 19)), (some 20), none, [], []⟩), (.op [] ⟨(.load 1 false (.t 20)), (some 21), none, [], []⟩), (.op [] ⟨(.slc true 0 (.t 21) (some (.c (.int .i64 1))) none), (some 22), none, [], []⟩), (.nilck 23 (.t 17) none), (.op [] ⟨(.faddr 0 (.t 23)), (some 24), none, [], []⟩), (.op [] ⟨(.store 1 (.t 24) (.t 22)), none, none, [], []⟩)]
def r_byte1_6 : Reg := ⟨[], [⟨(.mv (.t 3)), (some 25), none, [], []⟩, ⟨(.conv .i64 (.t 25)), (some 26), none, [], []⟩, ⟨(.mv (.t 26)), (some 2), none, [], []⟩], [], [], false⟩
def ir_byte1 (P : Program) : IR := (.seq (.reg r_byte1_0)
  (.seq (.seq (.regx P r_byte1_1)
  (.cond (.t 8) (.seq (.regx P r_byte1_2)
  (.seq (.reg r_byte1_3)
  .ret))
  .skip))
  (.seq (.regx P r_byte1_4)
  (.seq (.regx P r_byte1_5)
  (.seq (.reg r_byte1_6)
  .ret)))))
def res_byte1 : List RDesc := [(.tmp 2)]
theorem e_byte1_0 (C : FuncId → List AV → AV → Prop) (σ : St) (K : St → Prop) : runReg C r_byte1_0 σ K = runOps C [⟨(.mv (.c (.int .i64 0))), (some 2), none, [], []⟩] (σ.kills []) K := rfl
theorem e_byte1_3 (C : FuncId → List AV → AV → Prop) (σ : St) (K : St → Prop) : runReg C r_byte1_3 σ K = runOps C [⟨(.mv (.c (.int .i64 0))), (some 2), none, [], []⟩] (σ.kills []) K := rfl
theorem e_byte1_6 (C : FuncId → List AV → AV → Prop) (σ : St) (K : St → Prop) : runReg C r_byte1_6 σ K = runOps C [⟨(.mv (.t 3)), (some 25), none, [], []⟩, ⟨(.conv .i64 (.t 25)), (some 26), none, [], []⟩, ⟨(.mv (.t 26)), (some 2), none, [], []⟩] (σ.kills []) K := rfl
theorem fnm_byte1 {args : List AV} {r : AV} {H H' : Nat → Option Arr} (ha : args.length.ble Tryd.f48.ntmps = true) (h : run (AFn Tryd.prog) (ir_byte1 Tryd.prog) (endM res_byte1 r H') (initM args H)) : MFn Tryd.prog 48 args H r H' :=
  MFn.of_code (hint := fun _ => []) (c := Tryd.f48.body.getD .skip) (by kernel_rfl) (by kernel_rfl) Tryd.func48 (by kernel_rfl) (by kernel_rfl) (by kernel_rfl) (of_decide_eq_true (by kernel_rfl)) (Nat.le_of_ble_eq_true ha) (Nat.le_of_ble_eq_true (by kernel_rfl)) (run_ok h)

/-! ### (*percolate/op.taker).text -/
def r_text1_0 : Reg := ⟨[], [⟨(.mv (.c (.str ⟨#[]⟩))), (some 2), none, [], []⟩], [], [], false⟩
def r_text1_1 : List XOp := [(.op [] ⟨(.mv (.t 0)), (some 7), none, [], []⟩), (.nilck 8 (.t 7) none), (.op [] ⟨(.faddr 0 (.t 8)), (some 9), none, [], []⟩), (.op [] ⟨(.load 1 false (.t 9)), (some 10), none, [], []⟩), (.op [11] ⟨(.callv (.c (.clo 20 [] [])) [(.t 10)]), (some 11), none, [], []⟩), (.op [] ⟨(.mv (.t 11)), (some 6), none, [], []⟩), (.op [] ⟨(.ext 0 (.t 6)), (some 12), none, [], []⟩), (.op [] ⟨(.ext 1 (.t 6)), (some 13), none, [], []⟩), (.op [] ⟨(.ext 2 (.t 6)), (some 14), none, [], []⟩), (.op [] ⟨(.mv (.t 12)), (some 3), none, [], []⟩), (.op [] ⟨(.mv (.t 13)), (some 4), none, [], []⟩), (.op [] ⟨(.mv (.t 14)), (some 5), none, [], []⟩)]
def r_text1_2 : List XOp := [(.op [] ⟨(.mv (.t 0)), (some 15), none, [], []⟩), (.op [] ⟨(.mv (.t 0)), (some 16), none, [], []⟩), (.op [] ⟨(.mv (.t 4)), (some 17), none, [], []⟩), (.op [] ⟨(.mv (.t 0)), (some 18), none, [], []⟩), (.nilck 19 (.t 18) none), (.op [] ⟨(.faddr 1 (.t 19)), (some 20), none, [], []⟩), (.op [] ⟨(.load 1 false (.t 20)), (some 21), none, [], []⟩), (.op [] ⟨(.mv (.t 21)), (some 22), none, [], []⟩), (.op [] ⟨(.mv (.t 5)), (some 23), (some (22, true)), [], []⟩), (.op [] ⟨(.pick (.t 22) (.t 23) (.c (.bool false))), (some 24), none, [], []⟩), (.nilck 25 (.t 15) none), (.op [] ⟨(.faddr 0 (.t 25)), (some 26), none, [], []⟩), (.op [] ⟨(.store 1 (.t 26) (.t 17)), none, none, [], []⟩), (.nilck 27 (.t 16) none), (.op [] ⟨(.faddr 1 (.t 27)), (some 28), none, [], []⟩), (.op [] ⟨(.store 1 (.t 28) (.t 24)), none, none, [], []⟩)]
def r_text1_3 : Reg := ⟨[], [⟨(.mv (.t 3)), (some 29), none, [], []⟩, ⟨(.mv (.t 29)), (some 2), none, [], []⟩], [], [], false⟩
def ir_text1 (P : Program) : IR := (.seq (.reg r_text1_0)
  (.seq (.regx P r_text1_1)
  (.seq (.regx P r_text1_2)
  (.seq (.reg r_text1_3)
  .ret))))
def res_text1 : List RDesc := [(.tmp 2)]
theorem e_text1_0 (C : FuncId → List AV → AV → Prop) (σ : St) (K : St → Prop) : runReg C r_text1_0 σ K = runOps C [⟨(.mv (.c (.str ⟨#[]⟩))), (some 2), none, [], []⟩] (σ.kills []) K := rfl
theorem e_text1_3 (C : FuncId → List AV → AV → Prop) (σ : St) (K : St → Prop) : runReg C r_text1_3 σ K = runOps C [⟨(.mv (.t 3)), (some 29), none, [], []⟩, ⟨(.mv (.t 29)), (some 2), none, [], []⟩] (σ.kills []) K := rfl
theorem fnm_text1 {args : List AV} {r : AV} {H H' : Nat → Option Arr} (ha : args.length.ble Tryd.f49.ntmps = true) (h : run (AFn Tryd.prog) (ir_text1 Tryd.prog) (endM res_text1 r H') (initM args H)) : MFn Tryd.prog 49 args H r H' :=
  MFn.of_code (hint := fun _ => []) (c := Tryd.f49.body.getD .skip) (by kernel_rfl) (by kernel_rfl) Tryd.func49 (by kernel_rfl) (by kernel_rfl) (by kernel_rfl) (of_decide_eq_true (by kernel_rfl)) (Nat.le_of_ble_eq_true ha) (Nat.le_of_ble_eq_true (by kernel_rfl)) (run_ok h)

attribute [local go_sem ↓] ir_lay
attribute [local go_sem] res_lay e_lay_0 e_lay_1
attribute [local go_sem ↓] ir_byte1
attribute [local go_sem] res_byte1 e_byte1_0 e_byte1_3 e_byte1_6 r_byte1_1 r_byte1_2 r_byte1_4 r_byte1_5
attribute [local go_sem ↓] ir_text1
attribute [local go_sem] res_text1 e_text1_0 e_text1_3 r_text1_1 r_text1_2

theorem lay_ok (s cur : ByteArray) (H : Nat → Option Arr) (q : Nat) (hs : s.size ≤ 16) (hc : cur.size ≤ 1000) (hq : H q = some ⟨1, 9, [.str cur], 0⟩) :
    MFn Tryd.prog 43 [.str s, .ptr q 0 0] H (.tup []) (upd H q (some ⟨1, 9, [.str (cur ++ textF s)], 0⟩)) := by
  refine fnm_lay rfl ?_
  have h255 : s.size ≤ 255 := by omega
  have hts : (textF s).size = 1 + s.size := by unfold textF; rw [ByteArray.size_append]; rfl
  simp (maxSteps := 4000000) only [go_sem, ↓reduceIte, reduceCtorEq, Nat.reduceEqDiff, Nat.reduceBEq, Nat.reduceAdd, Nat.reduceSub, Nat.reduceMul, Nat.reduceLT, Nat.reduceLeDiff, Nat.reduceBNe, Int.reduceBEq, Int.reduceBNe, Int.reduceLT, Int.reduceLE, Opr.a, Spn.a, nul]
  (first | refine calling (text_ok s) ?_ | refine callingH (text_ok s) ?_)
  simp (maxSteps := 4000000) only [go_sem, ↓reduceIte, reduceCtorEq, Nat.reduceEqDiff, Nat.reduceBEq, Nat.reduceAdd, Nat.reduceSub, Nat.reduceMul, Nat.reduceLT, Nat.reduceLeDiff, Nat.reduceBNe, Int.reduceBEq, Int.reduceBNe, Int.reduceLT, Int.reduceLE, Opr.a, Spn.a, nul, h255, hq]
  omega
/-- what is taken: a byte -/
def tk1 (s : ByteArray) (ok : Bool) : ByteArray × Bool := if s.size = 0 then (s, false) else (s.extract 1 s.size, ok)
def tk1v (s : ByteArray) : Int := if s.size = 0 then 0 else (b0 s).toNat
theorem byte1_ok (s : ByteArray) (ok : Bool) (H : Nat → Option Arr) (q : Nat) (hs : s.size ≤ 1000000) (hq : H q = some ⟨2, 70, [.agg [.str s, .bool ok]], 0⟩) :
    MFn Tryd.prog 48 [.ptr q 0 0] H (.int .i64 (tk1v s)) (upd H q (some ⟨2, 70, [.agg [.str (tk1 s ok).1, .bool (tk1 s ok).2]], 0⟩)) := by
  refine fnm_byte1 rfl ?_
  have hz : Int.toNat 0 = 0 := rfl
  have hz1 : Int.toNat 1 = 1 := rfl
  have hg : s.data.toList.getD 0 0 = b0 s := rfl
  have hb := (b0 s).toNat_lt
  have hw2 : IntKind.i64.wrap ((b0 s).toNat : Int) = ((b0 s).toNat : Int) := IntWalk.i64_in _ (by omega)
  by_cases h0 : s.size = 0
  · have he : (s.toList == (ByteArray.mk #[]).toList) = true := by rw [bytes_nil]; exact decide_eq_true h0
    have e1 : tk1v s = 0 := by unfold tk1v; rw [if_pos h0]
    have e2 : tk1 s ok = (s, false) := by unfold tk1; rw [if_pos h0]
    rw [e1, e2]
    simp (maxSteps := 4000000) only [go_sem, ↓reduceIte, reduceCtorEq, Nat.reduceEqDiff, Nat.reduceBEq, Nat.reduceAdd, Nat.reduceSub, Nat.reduceMul, Nat.reduceLT, Nat.reduceLeDiff, Nat.reduceBNe, Int.reduceBEq, Int.reduceBNe, Int.reduceLT, Int.reduceLE, Opr.a, Spn.a, nul, hq, he]
  · have he : (s.toList == (ByteArray.mk #[]).toList) = false := by rw [bytes_nil]; exact decide_eq_false h0
    have e1 : tk1v s = (b0 s).toNat := by unfold tk1v; rw [if_neg h0]
    have e2 : tk1 s ok = (s.extract 1 s.size, ok) := by unfold tk1; rw [if_neg h0]
    rw [e1, e2]
    simp (maxSteps := 4000000) only [go_sem, ↓reduceIte, reduceCtorEq, Nat.reduceEqDiff, Nat.reduceBEq, Nat.reduceAdd, Nat.reduceSub, Nat.reduceMul, Nat.reduceLT, Nat.reduceLeDiff, Nat.reduceBNe, Int.reduceBEq, Int.reduceBNe, Int.reduceLT, Int.reduceLE, Opr.a, Spn.a, nul, hq, he, hz, hz1, hg, hw2]
    omega
/-- what is taken: a text -/
def tkx (s : ByteArray) : ByteArray × ByteArray × Bool := if s.size = 0 ∨ s.size ≤ (b0 s).toNat then (nul, nul, false) else (s.extract 1 (1 + (b0 s).toNat), s.extract (1 + (b0 s).toNat) s.size, true)
theorem take_ok (s : ByteArray) (hs : s.size ≤ 1000000) : AFn Tryd.prog 20 [.str s] (.tup [.str (tkx s).1, .str (tkx s).2.1, .bool (tkx s).2.2]) := by
  unfold tkx
  by_cases h : s.size = 0 ∨ s.size ≤ (b0 s).toNat
  · rw [if_pos h]; exact take_no s (by omega) h
  · rw [if_neg h]; exact take_yes s (by omega) (by omega)
theorem text1_ok (s : ByteArray) (ok : Bool) (H : Nat → Option Arr) (q : Nat) (hs : s.size ≤ 1000000) (hq : H q = some ⟨2, 70, [.agg [.str s, .bool ok]], 0⟩) :
    MFn Tryd.prog 49 [.ptr q 0 0] H (.str (tkx s).1) (upd H q (some ⟨2, 70, [.agg [.str (tkx s).2.1, .bool (ok && (tkx s).2.2)]], 0⟩)) := by
  refine fnm_text1 rfl ?_
  simp (maxSteps := 4000000) only [go_sem, ↓reduceIte, reduceCtorEq, Nat.reduceEqDiff, Nat.reduceBEq, Nat.reduceAdd, Nat.reduceSub, Nat.reduceMul, Nat.reduceLT, Nat.reduceLeDiff, Nat.reduceBNe, Int.reduceBEq, Int.reduceBNe, Int.reduceLT, Int.reduceLE, Opr.a, Spn.a, nul, hq]
  (first | refine calling (take_ok s hs) ?_ | refine callingH (take_ok s hs) ?_)
  cases ok <;> (simp (maxSteps := 4000000) only [go_sem, ↓reduceIte, reduceCtorEq, Nat.reduceEqDiff, Nat.reduceBEq, Nat.reduceAdd, Nat.reduceSub, Nat.reduceMul, Nat.reduceLT, Nat.reduceLeDiff, Nat.reduceBNe, Int.reduceBEq, Int.reduceBNe, Int.reduceLT, Int.reduceLE, Opr.a, Spn.a, nul, hq]; intro x; by_cases hx : x = q <;> simp [hx])
theorem tkx_size (s : ByteArray) : (tkx s).1.size ≤ s.size ∧ (tkx s).2.1.size ≤ s.size := by
  unfold tkx
  split
  · exact ⟨Nat.zero_le _, Nat.zero_le _⟩
  · constructor <;> (rw [ByteArray.size_extract]; omega)
theorem tk1_size (s : ByteArray) (ok : Bool) : (tk1 s ok).1.size ≤ s.size := by
  unfold tk1
  split
  · exact Nat.le_refl _
  · rw [ByteArray.size_extract]; omega
end Go.Proofs.YtgpoglaojklfbaaDoor
