/-
  The document's spans and messages on the plain machine.
-/
import Derived.Test.YtdjkefndigijjaaSqD
namespace Go.Proofs.Ytdjkefndigijjaa
open Go.RowKit
set_option linter.unusedVariables false
set_option linter.unusedSimpArgs false
set_option maxRecDepth 100000
attribute [local go_sem ↓] runOp headOp
attribute [local go_sem] ev0 ev1 ev2 ev3 evA stHOk.eq_1 stHOk.eq_2 stHSt.eq_1 stHSt.eq_2 okV valV fzV okF valF okBld valBld mxOk.eq_1 mxOk.eq_2 mxVal.eq_1 mxVal.eq_2 cellFit.eq_1 cellFit.eq_2 cellFit.eq_3 cellEq.eq_1 cellEq.eq_2 cellEq.eq_3 upd_at AV.flatB AV.flatBs binIok binIV binSok binSV cellsOk.eq_1 cellsOk.eq_2 cellsVal.eq_1 cellsVal.eq_2 objCells.eq_1 objCells.eq_2 objZ.eq_1 objZ.eq_2 objProt.eq_1 objProt.eq_2 oneObj ptrOk.eq_1 ptrOk.eq_2 ptrOk.eq_3 ptrCells.eq_1 ptrCells.eq_2 ptrCells.eq_3 lenOk.eq_1 lenOk.eq_2 lenOk.eq_3 lenOk.eq_4 lenVal.eq_1 lenVal.eq_2 lenVal.eq_3 lenVal.eq_4 faOk.eq_1 faOk.eq_2 faOk.eq_3 faVal.eq_1 faVal.eq_2 faVal.eq_3 iaOk.eq_1 iaOk.eq_2 iaOk.eq_3 iaVal.eq_1 iaVal.eq_2 iaVal.eq_3 slcLen.eq_1 slcLen.eq_2 slcLen.eq_3 slcLen.eq_4 bdOk.eq_1 bdOk.eq_2 bdVal.eq_1 bdVal.eq_2 slcOk.eq_1 slcOk.eq_2 slcOk.eq_3 slcOk.eq_4 slcVal.eq_1 slcVal.eq_2 slcVal.eq_3 slcVal.eq_4 slcFz.eq_1 slcFz.eq_2 byOk.eq_1 byOk.eq_2 byOk.eq_3 byOk.eq_4 byOk.eq_5 byVal.eq_1 byVal.eq_2 byVal.eq_3 byFz.eq_1 byFz.eq_2 byFz.eq_3 byOks byVals byFzs allOne resSt.eq_1 resSt.eq_2 resName.eq_1 resName.eq_2 stOk.eq_1 stOk.eq_2 stArr.eq_1 stArr.eq_2 stSt.eq_1 stSt.eq_2 AV.patch nameOk_none gB.eq_1 gB.eq_2 gB.eq_3 gIs.eq_1 gIs.eq_2 gIs.eq_3 retV resV resVs evalV cellsV St.byval List.getD_cons_zero List.getD_cons_succ List.getD_nil List.map_cons List.map_nil List.length_cons List.length_nil List.take_succ_cons List.take_zero List.drop_succ_cons List.drop_zero List.headD_cons List.set_cons_zero List.append_nil List.nil_append List.cons_append List.contains_cons List.contains_nil List.elem_cons List.elem_nil List.all_cons List.all_nil List.getElem?_cons_zero List.getElem?_cons_succ List.filterMap_cons List.filterMap_nil Option.isSome_some Option.isSome_none Option.map_some Option.map_none Option.some.injEq AV.int.injEq AV.bool.injEq AV.str.injEq AV.tup.injEq AV.agg.injEq AV.sl.injEq List.cons.injEq Bool.false_eq_true Bool.true_eq_false Bool.not_true Bool.not_false Bool.and_true Bool.true_and Bool.or_false Bool.or_true Bool.false_or Bool.true_or Bool.or_self Bool.and_self Bool.not_eq_true' Bool.not_eq_false' Bool.not_not beq_self_eq_true true_and and_true false_and and_false and_self not_true_eq_false not_false_eq_true forall_const true_implies false_implies implies_true imp_self Nat.lt_add_one Nat.le_refl Nat.zero_le Nat.add_zero Nat.zero_add decide_true decide_false decide_eq_true_eq decide_eq_false_iff_not exists_eq_left exists_eq_left' ge_iff_le gt_iff_lt ite_branch ite_branch' nilOk.eq_1 nilOk.eq_2 nilMay.eq_1 nilMay.eq_2 AV.isSl.eq_1 objTy'.eq_1 objTy'.eq_2 apSt.eq_1 apArr.eq_1 apArr.eq_2 slOf.eq_1 fitsV List.mem_cons List.not_mem_nil Bool.false_and Bool.and_false

theorem drop_less (x y : List UInt8) (j : Nat) (hx : j < x.length) (hy : j < y.length) : Op.bytesLess (x.drop j) (y.drop j) = if (x.getD j 0) = (y.getD j 0) then Op.bytesLess (x.drop (j + 1)) (y.drop (j + 1)) else decide (x.getD j 0 < y.getD j 0) := by
  rw [List.drop_eq_getElem_cons hx, List.drop_eq_getElem_cons hy, kp.less_cons, List.getD_eq_getElem?_getD, List.getD_eq_getElem?_getD, List.getElem?_eq_getElem hx, List.getElem?_eq_getElem hy]
  simp only [Option.getD_some]
  by_cases h : x[j] = y[j]
  · rw [if_pos h, h]; simp
  · rw [if_neg h]; simp [h]
def lessInv (a b : ByteArray) (r : Bool) (k : Nat) (σ : St) : Prop :=
  ∃ j : Nat, j ≤ a.size ∧ j ≤ b.size ∧ k = a.size - j ∧ σ.T 0 = .str a ∧ σ.T 1 = .str b ∧ σ.T 5 = .int .i64 j ∧ Op.bytesLess (a.data.toList.drop j) (b.data.toList.drop j) = r
/-! ### percolate/percolateref01.Less -/
def r_rLess_0 : Reg := ⟨[], [⟨(.mv (.c (.bool false))), (some 4), none, [], []⟩], [], [], false⟩
def r_rLess_1 : Reg := ⟨[], [⟨(.mv (.c (.int .i64 0))), (some 5), none, [], []⟩], [], [], false⟩
def r_rLess_2 : Reg := ⟨[], [⟨(.mv (.t 5)), (some 6), none, [], []⟩, ⟨(.mv (.t 0)), (some 7), none, [], []⟩, ⟨(.len true (.t 7)), (some 8), none, [], []⟩, ⟨(.bin .lss (.t 6) (.t 8)), (some 9), none, [], []⟩, ⟨(.mv (.t 9)), (some 10), none, [], []⟩, ⟨(.mv (.t 5)), (some 11), (some (10, true)), [], []⟩, ⟨(.mv (.t 1)), (some 12), (some (10, true)), [], []⟩, ⟨(.len true (.t 12)), (some 13), (some (10, true)), [], []⟩, ⟨(.bin .lss (.t 11) (.t 13)), (some 14), (some (10, true)), [], []⟩, ⟨(.pick (.t 10) (.t 14) (.c (.bool false))), (some 15), none, [], []⟩], [], [], false⟩
def r_rLess_3 : Reg := ⟨[⟨(.mv (.t 0)), (some 18), none, [], []⟩, ⟨(.mv (.t 5)), (some 19), none, [], []⟩, ⟨(.idx (.t 18) (.t 19)), (some 20), none, [], []⟩, ⟨(.mv (.t 1)), (some 21), none, [], []⟩, ⟨(.mv (.t 5)), (some 22), none, [], []⟩, ⟨(.idx (.t 21) (.t 22)), (some 23), none, [], []⟩], [⟨(.bin .neq (.t 20) (.t 23)), (some 24), none, [], []⟩], [], [], true⟩
def r_rLess_4 : Reg := ⟨[⟨(.mv (.t 0)), (some 25), none, [], []⟩, ⟨(.mv (.t 5)), (some 26), none, [], []⟩, ⟨(.idx (.t 25) (.t 26)), (some 27), none, [], []⟩, ⟨(.mv (.t 1)), (some 28), none, [], []⟩, ⟨(.mv (.t 5)), (some 29), none, [], []⟩, ⟨(.idx (.t 28) (.t 29)), (some 30), none, [], []⟩], [⟨(.bin .lss (.t 27) (.t 30)), (some 31), none, [], []⟩, ⟨(.mv (.t 31)), (some 4), none, [], []⟩], [], [], true⟩
def r_rLess_5 : Reg := ⟨[], [⟨(.mv (.t 5)), (some 16), none, [], []⟩, ⟨(.bin .add (.t 16) (.c (.int .i64 1))), (some 17), none, [], []⟩, ⟨(.mv (.t 17)), (some 5), none, [], []⟩], [], [], false⟩
def r_rLess_l6 : IR := (.seq (.seq (.reg r_rLess_2)
  (.cond (.t 15) .skip
  (.exit 0)))
  (.seq (.block 1 (.seq (.reg r_rLess_3)
  (.cond (.t 24) (.seq (.reg r_rLess_4)
  .ret)
  .skip)))
  (.reg r_rLess_5)))
def r_rLess_7 : Reg := ⟨[], [⟨(.mv (.t 0)), (some 32), none, [], []⟩, ⟨(.len true (.t 32)), (some 33), none, [], []⟩, ⟨(.mv (.t 1)), (some 34), none, [], []⟩, ⟨(.len true (.t 34)), (some 35), none, [], []⟩, ⟨(.bin .lss (.t 33) (.t 35)), (some 36), none, [], []⟩, ⟨(.mv (.t 36)), (some 4), none, [], []⟩], [], [], false⟩
def ir_rLess : IR := (.seq (.reg r_rLess_0)
  (.seq (.seq (.reg r_rLess_1)
  (.block 0 (.loop r_rLess_l6)))
  (.seq (.reg r_rLess_7)
  .ret)))
def res_rLess : List RDesc := [(.tmp 4)]
theorem e_rLess_0 (C : FuncId → List AV → AV → Prop) (σ : St) (K : St → Prop) : runReg C r_rLess_0 σ K = runOps C [⟨(.mv (.c (.bool false))), (some 4), none, [], []⟩] (σ.kills []) K := rfl
theorem e_rLess_1 (C : FuncId → List AV → AV → Prop) (σ : St) (K : St → Prop) : runReg C r_rLess_1 σ K = runOps C [⟨(.mv (.c (.int .i64 0))), (some 5), none, [], []⟩] (σ.kills []) K := rfl
theorem e_rLess_2 (C : FuncId → List AV → AV → Prop) (σ : St) (K : St → Prop) : runReg C r_rLess_2 σ K = runOps C [⟨(.mv (.t 5)), (some 6), none, [], []⟩, ⟨(.mv (.t 0)), (some 7), none, [], []⟩, ⟨(.len true (.t 7)), (some 8), none, [], []⟩, ⟨(.bin .lss (.t 6) (.t 8)), (some 9), none, [], []⟩, ⟨(.mv (.t 9)), (some 10), none, [], []⟩, ⟨(.mv (.t 5)), (some 11), (some (10, true)), [], []⟩, ⟨(.mv (.t 1)), (some 12), (some (10, true)), [], []⟩, ⟨(.len true (.t 12)), (some 13), (some (10, true)), [], []⟩, ⟨(.bin .lss (.t 11) (.t 13)), (some 14), (some (10, true)), [], []⟩, ⟨(.pick (.t 10) (.t 14) (.c (.bool false))), (some 15), none, [], []⟩] (σ.kills []) K := rfl
theorem e_rLess_3 (C : FuncId → List AV → AV → Prop) (σ : St) (K : St → Prop) : runReg C r_rLess_3 σ K = runHead C [] [⟨(.bin .neq (.t 20) (.t 23)), (some 24), none, [], []⟩] [⟨(.mv (.t 0)), (some 18), none, [], []⟩, ⟨(.mv (.t 5)), (some 19), none, [], []⟩, ⟨(.idx (.t 18) (.t 19)), (some 20), none, [], []⟩, ⟨(.mv (.t 1)), (some 21), none, [], []⟩, ⟨(.mv (.t 5)), (some 22), none, [], []⟩, ⟨(.idx (.t 21) (.t 22)), (some 23), none, [], []⟩] (σ.kills []) K := rfl
theorem e_rLess_4 (C : FuncId → List AV → AV → Prop) (σ : St) (K : St → Prop) : runReg C r_rLess_4 σ K = runHead C [] [⟨(.bin .lss (.t 27) (.t 30)), (some 31), none, [], []⟩, ⟨(.mv (.t 31)), (some 4), none, [], []⟩] [⟨(.mv (.t 0)), (some 25), none, [], []⟩, ⟨(.mv (.t 5)), (some 26), none, [], []⟩, ⟨(.idx (.t 25) (.t 26)), (some 27), none, [], []⟩, ⟨(.mv (.t 1)), (some 28), none, [], []⟩, ⟨(.mv (.t 5)), (some 29), none, [], []⟩, ⟨(.idx (.t 28) (.t 29)), (some 30), none, [], []⟩] (σ.kills []) K := rfl
theorem e_rLess_5 (C : FuncId → List AV → AV → Prop) (σ : St) (K : St → Prop) : runReg C r_rLess_5 σ K = runOps C [⟨(.mv (.t 5)), (some 16), none, [], []⟩, ⟨(.bin .add (.t 16) (.c (.int .i64 1))), (some 17), none, [], []⟩, ⟨(.mv (.t 17)), (some 5), none, [], []⟩] (σ.kills []) K := rfl
theorem e_rLess_7 (C : FuncId → List AV → AV → Prop) (σ : St) (K : St → Prop) : runReg C r_rLess_7 σ K = runOps C [⟨(.mv (.t 0)), (some 32), none, [], []⟩, ⟨(.len true (.t 32)), (some 33), none, [], []⟩, ⟨(.mv (.t 1)), (some 34), none, [], []⟩, ⟨(.len true (.t 34)), (some 35), none, [], []⟩, ⟨(.bin .lss (.t 33) (.t 35)), (some 36), none, [], []⟩, ⟨(.mv (.t 36)), (some 4), none, [], []⟩] (σ.kills []) K := rfl
theorem fn_rLess {args : List AV} {r : AV} (ha : args.length.ble Try.f84.ntmps = true) (h : run (AFn Try.prog) ir_rLess (endQ res_rLess r) (initSt args)) : AFn Try.prog 84 args r :=
  AFn.of_code (hint := fun _ => []) (c := Try.f84.body.getD .skip) (by kernel_rfl) (by kernel_rfl) Try.func84 (by kernel_rfl) (by kernel_rfl) (by kernel_rfl) (of_decide_eq_true (by kernel_rfl)) (Nat.le_of_ble_eq_true ha) (run_ok h)

attribute [local go_sem ↓] ir_rLess
attribute [local go_sem] res_rLess e_rLess_0 e_rLess_1 e_rLess_2 e_rLess_3 e_rLess_4 e_rLess_5 e_rLess_7

theorem refLess (a b : ByteArray) (ha : a.size ≤ 9223372036854775807) (hb : b.size ≤ 9223372036854775807) : AFn Try.prog 84 [.str a, .str b] (.bool (lt a b)) := by
  have hla : a.data.toList.length = a.size := by rw [Array.length_toList]; rfl
  have hlb : b.data.toList.length = b.size := by rw [Array.length_toList]; rfl
  refine fn_rLess rfl ?_
  simp (maxSteps := 4000000) only [go_sem, ↓reduceIte, reduceCtorEq, Nat.reduceEqDiff, Nat.reduceBEq, Nat.reduceAdd, Nat.reduceSub, Nat.reduceMul, Nat.reduceLT, Nat.reduceLeDiff, Nat.reduceBNe, Int.reduceBEq, Int.reduceBNe, Int.reduceLT, Int.reduceLE, Spn.a, Msg.a, Eff.a]
  refine run_loop (lessInv a b (lt a b)) (k := a.size) ⟨0, by omega, by omega, rfl, ?_, ?_, ?_, ?_⟩ ?_
  · simp (maxSteps := 4000000) only [go_sem, ↓reduceIte, reduceCtorEq, Nat.reduceEqDiff, Nat.reduceBEq, Nat.reduceAdd, Nat.reduceSub, Nat.reduceMul, Nat.reduceLT, Nat.reduceLeDiff, Nat.reduceBNe, Int.reduceBEq, Int.reduceBNe, Int.reduceLT, Int.reduceLE, Spn.a, Msg.a, Eff.a]
  · simp (maxSteps := 4000000) only [go_sem, ↓reduceIte, reduceCtorEq, Nat.reduceEqDiff, Nat.reduceBEq, Nat.reduceAdd, Nat.reduceSub, Nat.reduceMul, Nat.reduceLT, Nat.reduceLeDiff, Nat.reduceBNe, Int.reduceBEq, Int.reduceBNe, Int.reduceLT, Int.reduceLE, Spn.a, Msg.a, Eff.a]
  · simp (maxSteps := 4000000) only [go_sem, ↓reduceIte, reduceCtorEq, Nat.reduceEqDiff, Nat.reduceBEq, Nat.reduceAdd, Nat.reduceSub, Nat.reduceMul, Nat.reduceLT, Nat.reduceLeDiff, Nat.reduceBNe, Int.reduceBEq, Int.reduceBNe, Int.reduceLT, Int.reduceLE, Spn.a, Msg.a, Eff.a]
    rfl
  · simp only [List.drop_zero, lt, ByteArray.toList_eq]
  rintro k σ ⟨j, hja, hjb, rfl, t0, t1, t5, hr⟩
  simp only [r_rLess_l6]
  by_cases h1 : j < a.size
  · have h1' : (j : Int) < (a.size : Int) := by omega
    by_cases h2 : j < b.size
    · have h2' : (j : Int) < (b.size : Int) := by omega
      have hw : IntKind.i64.wrap ((j : Int) + 1) = ((j + 1 : Nat) : Int) := by rw [IntWalk.i64_in _ (by omega)]; rfl
      rw [drop_less _ _ _ (by omega) (by omega)] at hr
      by_cases h3 : a.data.toList.getD j 0 = b.data.toList.getD j 0
      · rw [if_pos h3] at hr
        simp (maxSteps := 4000000) only [go_sem, ↓reduceIte, reduceCtorEq, Nat.reduceEqDiff, Nat.reduceBEq, Nat.reduceAdd, Nat.reduceSub, Nat.reduceMul, Nat.reduceLT, Nat.reduceLeDiff, Nat.reduceBNe, Int.reduceBEq, Int.reduceBNe, Int.reduceLT, Int.reduceLE, Spn.a, Msg.a, Eff.a, t0, t1, t5, h1', h2', h3, decide_true, Int.toNat_natCast, bne_self_eq_false]
        refine ⟨by omega, by omega, ?_⟩
        refine ⟨a.size - (j + 1), by omega, j + 1, by omega, by omega, rfl, ?_, ?_, ?_, hr⟩ <;>
          (simp (maxSteps := 4000000) only [go_sem, ↓reduceIte, reduceCtorEq, Nat.reduceEqDiff, Nat.reduceBEq, Nat.reduceAdd, Nat.reduceSub, Nat.reduceMul, Nat.reduceLT, Nat.reduceLeDiff, Nat.reduceBNe, Int.reduceBEq, Int.reduceBNe, Int.reduceLT, Int.reduceLE, Spn.a, Msg.a, Eff.a, t0, t1, t5, hw])
      · rw [if_neg h3] at hr
        have h3' : (((a.data.toList.getD j 0).toNat : Int) != ((b.data.toList.getD j 0).toNat : Int)) = true := by
          simp only [bne_iff_ne, ne_eq]
          intro e
          exact h3 (UInt8.toNat.inj (by omega))
        simp (maxSteps := 4000000) only [go_sem, ↓reduceIte, reduceCtorEq, Nat.reduceEqDiff, Nat.reduceBEq, Nat.reduceAdd, Nat.reduceSub, Nat.reduceMul, Nat.reduceLT, Nat.reduceLeDiff, Nat.reduceBNe, Int.reduceBEq, Int.reduceBNe, Int.reduceLT, Int.reduceLE, Spn.a, Msg.a, Eff.a, t0, t1, t5, h1', h2', decide_true, Int.toNat_natCast, h3']
        refine ⟨by omega, by omega, ?_⟩
        rw [← hr]
        simp [UInt8.lt_iff_toNat_lt]
    · have h2' : ¬ (j : Int) < (b.size : Int) := by omega
      simp (maxSteps := 4000000) only [go_sem, ↓reduceIte, reduceCtorEq, Nat.reduceEqDiff, Nat.reduceBEq, Nat.reduceAdd, Nat.reduceSub, Nat.reduceMul, Nat.reduceLT, Nat.reduceLeDiff, Nat.reduceBNe, Int.reduceBEq, Int.reduceBNe, Int.reduceLT, Int.reduceLE, Spn.a, Msg.a, Eff.a, t0, t1, t5, h1', h2', decide_true, decide_false]
      rw [← hr, show j = b.size by omega]
      rw [show b.data.toList.drop b.size = [] by rw [List.drop_eq_nil_of_le (by omega)], kp.less_nil]
      have : ¬ (a.size : Int) < b.size := by omega
      simp [this]
  · have h1' : ¬ (j : Int) < (a.size : Int) := by omega
    simp (maxSteps := 4000000) only [go_sem, ↓reduceIte, reduceCtorEq, Nat.reduceEqDiff, Nat.reduceBEq, Nat.reduceAdd, Nat.reduceSub, Nat.reduceMul, Nat.reduceLT, Nat.reduceLeDiff, Nat.reduceBNe, Int.reduceBEq, Int.reduceBNe, Int.reduceLT, Int.reduceLE, Spn.a, Msg.a, Eff.a, t0, t1, t5, h1', decide_false]
    have e : j = a.size := by omega
    subst e
    rw [← hr, show a.data.toList.drop a.size = [] by rw [List.drop_eq_nil_of_le (by omega)]]
    by_cases h2 : a.size < b.size
    · rw [List.drop_eq_getElem_cons (by omega), kp.nil_less]
      simp; omega
    · rw [List.drop_eq_nil_of_le (by omega), kp.less_nil]
      simp; omega

/-! ### percolate/percolateref02.Has -/
def r_rHas_0 : Reg := ⟨[], [⟨(.box 3 41 (.t 0)), (some 2), none, [], []⟩, ⟨(.mv (.c (.bool false))), (some 4), none, [], []⟩], [2], [], false⟩
def r_rHas_1 : Reg := ⟨[], [⟨(.mv (.t 1)), (some 5), none, [8, 17], []⟩, ⟨(.faddr 0 (.t 2)), (some 6), none, [8, 17], []⟩, ⟨(.load 1 false (.t 6)), (some 7), none, [8, 17], []⟩, ⟨(.callv (.c (.clo 84 [] [])) [(.t 5), (.t 7)]), (some 8), none, [17], []⟩, ⟨(.un .not (.t 8)), (some 9), none, [17], []⟩, ⟨(.mv (.t 9)), (some 10), none, [17], []⟩, ⟨(.faddr 2 (.t 2)), (some 11), (some (10, true)), [17], []⟩, ⟨(.load 1 false (.t 11)), (some 12), (some (10, true)), [17], []⟩, ⟨(.mv (.t 12)), (some 13), (some (10, true)), [17], []⟩, ⟨(.mv (.t 1)), (some 14), (some (13, false)), [17], []⟩, ⟨(.faddr 1 (.t 2)), (some 15), (some (13, false)), [17], []⟩, ⟨(.load 1 false (.t 15)), (some 16), (some (13, false)), [17], []⟩, ⟨(.callv (.c (.clo 84 [] [])) [(.t 14), (.t 16)]), (some 17), (some (13, false)), [], []⟩, ⟨(.pick (.t 13) (.c (.bool true)) (.t 17)), (some 18), (some (10, true)), [], []⟩, ⟨(.pick (.t 10) (.t 18) (.c (.bool false))), (some 19), none, [], []⟩, ⟨(.mv (.t 19)), (some 4), none, [], []⟩], [8, 17], [], false⟩
def ir_rHas : IR := (.seq (.reg r_rHas_0)
  (.seq (.reg r_rHas_1)
  .ret))
def res_rHas : List RDesc := [(.tmp 4)]
theorem e_rHas_0 (C : FuncId → List AV → AV → Prop) (σ : St) (K : St → Prop) : runReg C r_rHas_0 σ K = runOps C [⟨(.box 3 41 (.t 0)), (some 2), none, [], []⟩, ⟨(.mv (.c (.bool false))), (some 4), none, [], []⟩] (σ.kills [2]) K := rfl
theorem e_rHas_1 (C : FuncId → List AV → AV → Prop) (σ : St) (K : St → Prop) : runReg C r_rHas_1 σ K = runOps C [⟨(.mv (.t 1)), (some 5), none, [8, 17], []⟩, ⟨(.faddr 0 (.t 2)), (some 6), none, [8, 17], []⟩, ⟨(.load 1 false (.t 6)), (some 7), none, [8, 17], []⟩, ⟨(.callv (.c (.clo 84 [] [])) [(.t 5), (.t 7)]), (some 8), none, [17], []⟩, ⟨(.un .not (.t 8)), (some 9), none, [17], []⟩, ⟨(.mv (.t 9)), (some 10), none, [17], []⟩, ⟨(.faddr 2 (.t 2)), (some 11), (some (10, true)), [17], []⟩, ⟨(.load 1 false (.t 11)), (some 12), (some (10, true)), [17], []⟩, ⟨(.mv (.t 12)), (some 13), (some (10, true)), [17], []⟩, ⟨(.mv (.t 1)), (some 14), (some (13, false)), [17], []⟩, ⟨(.faddr 1 (.t 2)), (some 15), (some (13, false)), [17], []⟩, ⟨(.load 1 false (.t 15)), (some 16), (some (13, false)), [17], []⟩, ⟨(.callv (.c (.clo 84 [] [])) [(.t 14), (.t 16)]), (some 17), (some (13, false)), [], []⟩, ⟨(.pick (.t 13) (.c (.bool true)) (.t 17)), (some 18), (some (10, true)), [], []⟩, ⟨(.pick (.t 10) (.t 18) (.c (.bool false))), (some 19), none, [], []⟩, ⟨(.mv (.t 19)), (some 4), none, [], []⟩] (σ.kills [8, 17]) K := rfl
theorem fn_rHas {args : List AV} {r : AV} (ha : args.length.ble Try.f83.ntmps = true) (h : run (AFn Try.prog) ir_rHas (endQ res_rHas r) (initSt args)) : AFn Try.prog 83 args r :=
  AFn.of_code (hint := fun _ => []) (c := Try.f83.body.getD .skip) (by kernel_rfl) (by kernel_rfl) Try.func83 (by kernel_rfl) (by kernel_rfl) (by kernel_rfl) (of_decide_eq_true (by kernel_rfl)) (Nat.le_of_ble_eq_true ha) (run_ok h)

/-! ### percolate/percolateref02.Empty -/
def r_rEmpty_0 : Reg := ⟨[], [⟨(.box 3 41 (.t 0)), (some 1), none, [], []⟩, ⟨(.mv (.c (.bool false))), (some 2), none, [], []⟩], [1], [], false⟩
def r_rEmpty_1 : Reg := ⟨[], [⟨(.load 3 true (.t 1)), (some 3), none, [6], []⟩, ⟨(.faddr 0 (.t 1)), (some 4), none, [6], []⟩, ⟨(.load 1 false (.t 4)), (some 5), none, [6], []⟩, ⟨(.callv (.c (.clo 83 [] [])) [(.t 3), (.t 5)]), (some 6), none, [], []⟩, ⟨(.un .not (.t 6)), (some 7), none, [], []⟩, ⟨(.mv (.t 7)), (some 2), none, [], []⟩], [6], [], false⟩
def ir_rEmpty : IR := (.seq (.reg r_rEmpty_0)
  (.seq (.reg r_rEmpty_1)
  .ret))
def res_rEmpty : List RDesc := [(.tmp 2)]
theorem e_rEmpty_0 (C : FuncId → List AV → AV → Prop) (σ : St) (K : St → Prop) : runReg C r_rEmpty_0 σ K = runOps C [⟨(.box 3 41 (.t 0)), (some 1), none, [], []⟩, ⟨(.mv (.c (.bool false))), (some 2), none, [], []⟩] (σ.kills [1]) K := rfl
theorem e_rEmpty_1 (C : FuncId → List AV → AV → Prop) (σ : St) (K : St → Prop) : runReg C r_rEmpty_1 σ K = runOps C [⟨(.load 3 true (.t 1)), (some 3), none, [6], []⟩, ⟨(.faddr 0 (.t 1)), (some 4), none, [6], []⟩, ⟨(.load 1 false (.t 4)), (some 5), none, [6], []⟩, ⟨(.callv (.c (.clo 83 [] [])) [(.t 3), (.t 5)]), (some 6), none, [], []⟩, ⟨(.un .not (.t 6)), (some 7), none, [], []⟩, ⟨(.mv (.t 7)), (some 2), none, [], []⟩] (σ.kills [6]) K := rfl
theorem fn_rEmpty {args : List AV} {r : AV} (ha : args.length.ble Try.f30.ntmps = true) (h : run (AFn Try.prog) ir_rEmpty (endQ res_rEmpty r) (initSt args)) : AFn Try.prog 30 args r :=
  AFn.of_code (hint := fun _ => []) (c := Try.f30.body.getD .skip) (by kernel_rfl) (by kernel_rfl) Try.func30 (by kernel_rfl) (by kernel_rfl) (by kernel_rfl) (of_decide_eq_true (by kernel_rfl)) (Nat.le_of_ble_eq_true ha) (run_ok h)

/-! ### percolate/percolateref02.Norm -/
def r_rNorm_0 : Reg := ⟨[], [⟨(.box 3 41 (.t 0)), (some 1), none, [2], []⟩, ⟨(.alloc 3 41 (.agg [(.str ⟨#[]⟩), (.str ⟨#[]⟩), (.bool false)])), (some 2), none, [], []⟩], [1, 2], [], false⟩
def r_rNorm_1 : Reg := ⟨[], [⟨(.load 3 true (.t 1)), (some 3), none, [4], []⟩, ⟨(.callv (.c (.clo 30 [] [])) [(.t 3)]), (some 4), none, [], []⟩], [4], [], false⟩
def r_rNorm_2 : Reg := ⟨[], [⟨(.bld [(.str ⟨#[]⟩), (.str ⟨#[]⟩), (.bool false)] []), (some 5), none, [], []⟩, ⟨(.store 3 (.t 2) (.t 5)), none, none, [], []⟩], [], [], false⟩
def r_rNorm_3 : Reg := ⟨[], [⟨(.faddr 2 (.t 1)), (some 6), none, [], []⟩, ⟨(.load 1 false (.t 6)), (some 7), none, [], []⟩], [], [], false⟩
def r_rNorm_4 : Reg := ⟨[], [⟨(.faddr 1 (.t 1)), (some 8), none, [], []⟩, ⟨(.store 1 (.t 8) (.c (.str ⟨#[]⟩))), none, none, [], []⟩], [], [], false⟩
def r_rNorm_5 : Reg := ⟨[], [⟨(.load 3 true (.t 1)), (some 9), none, [], []⟩, ⟨(.store 3 (.t 2) (.t 9)), none, none, [], []⟩], [], [], false⟩
def ir_rNorm : IR := (.seq (.reg r_rNorm_0)
  (.seq (.seq (.reg r_rNorm_1)
  (.cond (.t 4) (.seq (.reg r_rNorm_2)
  .ret)
  .skip))
  (.seq (.seq (.reg r_rNorm_3)
  (.cond (.t 7) (.reg r_rNorm_4)
  .skip))
  (.seq (.reg r_rNorm_5)
  .ret))))
def res_rNorm : List RDesc := [(.cell 2 3 true)]
theorem e_rNorm_0 (C : FuncId → List AV → AV → Prop) (σ : St) (K : St → Prop) : runReg C r_rNorm_0 σ K = runOps C [⟨(.box 3 41 (.t 0)), (some 1), none, [2], []⟩, ⟨(.alloc 3 41 (.agg [(.str ⟨#[]⟩), (.str ⟨#[]⟩), (.bool false)])), (some 2), none, [], []⟩] (σ.kills [1, 2]) K := rfl
theorem e_rNorm_1 (C : FuncId → List AV → AV → Prop) (σ : St) (K : St → Prop) : runReg C r_rNorm_1 σ K = runOps C [⟨(.load 3 true (.t 1)), (some 3), none, [4], []⟩, ⟨(.callv (.c (.clo 30 [] [])) [(.t 3)]), (some 4), none, [], []⟩] (σ.kills [4]) K := rfl
theorem e_rNorm_2 (C : FuncId → List AV → AV → Prop) (σ : St) (K : St → Prop) : runReg C r_rNorm_2 σ K = runOps C [⟨(.bld [(.str ⟨#[]⟩), (.str ⟨#[]⟩), (.bool false)] []), (some 5), none, [], []⟩, ⟨(.store 3 (.t 2) (.t 5)), none, none, [], []⟩] (σ.kills []) K := rfl
theorem e_rNorm_3 (C : FuncId → List AV → AV → Prop) (σ : St) (K : St → Prop) : runReg C r_rNorm_3 σ K = runOps C [⟨(.faddr 2 (.t 1)), (some 6), none, [], []⟩, ⟨(.load 1 false (.t 6)), (some 7), none, [], []⟩] (σ.kills []) K := rfl
theorem e_rNorm_4 (C : FuncId → List AV → AV → Prop) (σ : St) (K : St → Prop) : runReg C r_rNorm_4 σ K = runOps C [⟨(.faddr 1 (.t 1)), (some 8), none, [], []⟩, ⟨(.store 1 (.t 8) (.c (.str ⟨#[]⟩))), none, none, [], []⟩] (σ.kills []) K := rfl
theorem e_rNorm_5 (C : FuncId → List AV → AV → Prop) (σ : St) (K : St → Prop) : runReg C r_rNorm_5 σ K = runOps C [⟨(.load 3 true (.t 1)), (some 9), none, [], []⟩, ⟨(.store 3 (.t 2) (.t 9)), none, none, [], []⟩] (σ.kills []) K := rfl
theorem fn_rNorm {args : List AV} {r : AV} (ha : args.length.ble Try.f85.ntmps = true) (h : run (AFn Try.prog) ir_rNorm (endQ res_rNorm r) (initSt args)) : AFn Try.prog 85 args r :=
  AFn.of_code (hint := fun _ => []) (c := Try.f85.body.getD .skip) (by kernel_rfl) (by kernel_rfl) Try.func85 (by kernel_rfl) (by kernel_rfl) (by kernel_rfl) (of_decide_eq_true (by kernel_rfl)) (Nat.le_of_ble_eq_true ha) (run_ok h)

/-! ### percolate/percolateref02.Meet -/
def r_rMeet_0 : Reg := ⟨[], [⟨(.box 3 41 (.t 0)), (some 2), none, [3, 4], []⟩, ⟨(.box 3 41 (.t 1)), (some 3), none, [4], []⟩, ⟨(.alloc 3 41 (.agg [(.str ⟨#[]⟩), (.str ⟨#[]⟩), (.bool false)])), (some 4), none, [], []⟩], [2, 3, 4], [], false⟩
def r_rMeet_1 : Reg := ⟨[], [⟨(.load 3 true (.t 2)), (some 6), none, [5], []⟩, ⟨(.alloc 3 41 (.agg [(.str ⟨#[]⟩), (.str ⟨#[]⟩), (.bool false)])), (some 5), none, [], []⟩, ⟨(.store 3 (.t 5) (.t 6)), none, none, [], []⟩], [5], [], false⟩
def r_rMeet_2 : Reg := ⟨[], [⟨(.faddr 0 (.t 2)), (some 7), none, [11], []⟩, ⟨(.load 1 false (.t 7)), (some 8), none, [11], []⟩, ⟨(.faddr 0 (.t 3)), (some 9), none, [11], []⟩, ⟨(.load 1 false (.t 9)), (some 10), none, [11], []⟩, ⟨(.callv (.c (.clo 84 [] [])) [(.t 8), (.t 10)]), (some 11), none, [], []⟩], [11], [], false⟩
def r_rMeet_3 : Reg := ⟨[], [⟨(.faddr 0 (.t 3)), (some 12), none, [], []⟩, ⟨(.load 1 false (.t 12)), (some 13), none, [], []⟩, ⟨(.faddr 0 (.t 5)), (some 14), none, [], []⟩, ⟨(.store 1 (.t 14) (.t 13)), none, none, [], []⟩], [], [], false⟩
def r_rMeet_4 : Reg := ⟨[], [⟨(.faddr 2 (.t 3)), (some 15), none, [26], []⟩, ⟨(.load 1 false (.t 15)), (some 16), none, [26], []⟩, ⟨(.un .not (.t 16)), (some 17), none, [26], []⟩, ⟨(.mv (.t 17)), (some 18), none, [26], []⟩, ⟨(.faddr 2 (.t 2)), (some 19), (some (18, true)), [26], []⟩, ⟨(.load 1 false (.t 19)), (some 20), (some (18, true)), [26], []⟩, ⟨(.mv (.t 20)), (some 21), (some (18, true)), [26], []⟩, ⟨(.faddr 1 (.t 3)), (some 22), (some (21, false)), [26], []⟩, ⟨(.load 1 false (.t 22)), (some 23), (some (21, false)), [26], []⟩, ⟨(.faddr 1 (.t 2)), (some 24), (some (21, false)), [26], []⟩, ⟨(.load 1 false (.t 24)), (some 25), (some (21, false)), [26], []⟩, ⟨(.callv (.c (.clo 84 [] [])) [(.t 23), (.t 25)]), (some 26), (some (21, false)), [], []⟩, ⟨(.pick (.t 21) (.c (.bool true)) (.t 26)), (some 27), (some (18, true)), [], []⟩, ⟨(.pick (.t 18) (.t 27) (.c (.bool false))), (some 28), none, [], []⟩], [26], [], false⟩
def r_rMeet_5 : Reg := ⟨[], [⟨(.faddr 2 (.t 5)), (some 29), none, [], []⟩, ⟨(.store 1 (.t 29) (.c (.bool false))), none, none, [], []⟩], [], [], false⟩
def r_rMeet_6 : Reg := ⟨[], [⟨(.faddr 1 (.t 3)), (some 30), none, [], []⟩, ⟨(.load 1 false (.t 30)), (some 31), none, [], []⟩, ⟨(.faddr 1 (.t 5)), (some 32), none, [], []⟩, ⟨(.store 1 (.t 32) (.t 31)), none, none, [], []⟩], [], [], false⟩
def r_rMeet_7 : Reg := ⟨[], [⟨(.load 3 true (.t 5)), (some 33), none, [34], []⟩, ⟨(.callv (.c (.clo 85 [] [])) [(.t 33)]), (some 34), none, [], []⟩, ⟨(.store 3 (.t 4) (.t 34)), none, none, [], []⟩], [34], [], false⟩
def ir_rMeet : IR := (.seq (.reg r_rMeet_0)
  (.seq (.reg r_rMeet_1)
  (.seq (.seq (.reg r_rMeet_2)
  (.cond (.t 11) (.reg r_rMeet_3)
  .skip))
  (.seq (.seq (.reg r_rMeet_4)
  (.cond (.t 28) (.seq (.reg r_rMeet_5)
  (.reg r_rMeet_6))
  .skip))
  (.seq (.reg r_rMeet_7)
  .ret)))))
def res_rMeet : List RDesc := [(.cell 4 3 true)]
theorem e_rMeet_0 (C : FuncId → List AV → AV → Prop) (σ : St) (K : St → Prop) : runReg C r_rMeet_0 σ K = runOps C [⟨(.box 3 41 (.t 0)), (some 2), none, [3, 4], []⟩, ⟨(.box 3 41 (.t 1)), (some 3), none, [4], []⟩, ⟨(.alloc 3 41 (.agg [(.str ⟨#[]⟩), (.str ⟨#[]⟩), (.bool false)])), (some 4), none, [], []⟩] (σ.kills [2, 3, 4]) K := rfl
theorem e_rMeet_1 (C : FuncId → List AV → AV → Prop) (σ : St) (K : St → Prop) : runReg C r_rMeet_1 σ K = runOps C [⟨(.load 3 true (.t 2)), (some 6), none, [5], []⟩, ⟨(.alloc 3 41 (.agg [(.str ⟨#[]⟩), (.str ⟨#[]⟩), (.bool false)])), (some 5), none, [], []⟩, ⟨(.store 3 (.t 5) (.t 6)), none, none, [], []⟩] (σ.kills [5]) K := rfl
theorem e_rMeet_2 (C : FuncId → List AV → AV → Prop) (σ : St) (K : St → Prop) : runReg C r_rMeet_2 σ K = runOps C [⟨(.faddr 0 (.t 2)), (some 7), none, [11], []⟩, ⟨(.load 1 false (.t 7)), (some 8), none, [11], []⟩, ⟨(.faddr 0 (.t 3)), (some 9), none, [11], []⟩, ⟨(.load 1 false (.t 9)), (some 10), none, [11], []⟩, ⟨(.callv (.c (.clo 84 [] [])) [(.t 8), (.t 10)]), (some 11), none, [], []⟩] (σ.kills [11]) K := rfl
theorem e_rMeet_3 (C : FuncId → List AV → AV → Prop) (σ : St) (K : St → Prop) : runReg C r_rMeet_3 σ K = runOps C [⟨(.faddr 0 (.t 3)), (some 12), none, [], []⟩, ⟨(.load 1 false (.t 12)), (some 13), none, [], []⟩, ⟨(.faddr 0 (.t 5)), (some 14), none, [], []⟩, ⟨(.store 1 (.t 14) (.t 13)), none, none, [], []⟩] (σ.kills []) K := rfl
theorem e_rMeet_4 (C : FuncId → List AV → AV → Prop) (σ : St) (K : St → Prop) : runReg C r_rMeet_4 σ K = runOps C [⟨(.faddr 2 (.t 3)), (some 15), none, [26], []⟩, ⟨(.load 1 false (.t 15)), (some 16), none, [26], []⟩, ⟨(.un .not (.t 16)), (some 17), none, [26], []⟩, ⟨(.mv (.t 17)), (some 18), none, [26], []⟩, ⟨(.faddr 2 (.t 2)), (some 19), (some (18, true)), [26], []⟩, ⟨(.load 1 false (.t 19)), (some 20), (some (18, true)), [26], []⟩, ⟨(.mv (.t 20)), (some 21), (some (18, true)), [26], []⟩, ⟨(.faddr 1 (.t 3)), (some 22), (some (21, false)), [26], []⟩, ⟨(.load 1 false (.t 22)), (some 23), (some (21, false)), [26], []⟩, ⟨(.faddr 1 (.t 2)), (some 24), (some (21, false)), [26], []⟩, ⟨(.load 1 false (.t 24)), (some 25), (some (21, false)), [26], []⟩, ⟨(.callv (.c (.clo 84 [] [])) [(.t 23), (.t 25)]), (some 26), (some (21, false)), [], []⟩, ⟨(.pick (.t 21) (.c (.bool true)) (.t 26)), (some 27), (some (18, true)), [], []⟩, ⟨(.pick (.t 18) (.t 27) (.c (.bool false))), (some 28), none, [], []⟩] (σ.kills [26]) K := rfl
theorem e_rMeet_5 (C : FuncId → List AV → AV → Prop) (σ : St) (K : St → Prop) : runReg C r_rMeet_5 σ K = runOps C [⟨(.faddr 2 (.t 5)), (some 29), none, [], []⟩, ⟨(.store 1 (.t 29) (.c (.bool false))), none, none, [], []⟩] (σ.kills []) K := rfl
theorem e_rMeet_6 (C : FuncId → List AV → AV → Prop) (σ : St) (K : St → Prop) : runReg C r_rMeet_6 σ K = runOps C [⟨(.faddr 1 (.t 3)), (some 30), none, [], []⟩, ⟨(.load 1 false (.t 30)), (some 31), none, [], []⟩, ⟨(.faddr 1 (.t 5)), (some 32), none, [], []⟩, ⟨(.store 1 (.t 32) (.t 31)), none, none, [], []⟩] (σ.kills []) K := rfl
theorem e_rMeet_7 (C : FuncId → List AV → AV → Prop) (σ : St) (K : St → Prop) : runReg C r_rMeet_7 σ K = runOps C [⟨(.load 3 true (.t 5)), (some 33), none, [34], []⟩, ⟨(.callv (.c (.clo 85 [] [])) [(.t 33)]), (some 34), none, [], []⟩, ⟨(.store 3 (.t 4) (.t 34)), none, none, [], []⟩] (σ.kills [34]) K := rfl
theorem fn_rMeet {args : List AV} {r : AV} (ha : args.length.ble Try.f31.ntmps = true) (h : run (AFn Try.prog) ir_rMeet (endQ res_rMeet r) (initSt args)) : AFn Try.prog 31 args r :=
  AFn.of_code (hint := fun _ => []) (c := Try.f31.body.getD .skip) (by kernel_rfl) (by kernel_rfl) Try.func31 (by kernel_rfl) (by kernel_rfl) (by kernel_rfl) (of_decide_eq_true (by kernel_rfl)) (Nat.le_of_ble_eq_true ha) (run_ok h)

/-! ### percolate/percolateref05.Span -/
def r_rSpan_0 : Reg := ⟨[], [⟨(.box 6 55 (.t 0)), (some 1), none, [2], []⟩, ⟨(.alloc 3 41 (.agg [(.str ⟨#[]⟩), (.str ⟨#[]⟩), (.bool false)])), (some 2), none, [], []⟩], [1, 2], [], false⟩
def r_rSpan_1 : Reg := ⟨[], [⟨(.faddr 1 (.t 1)), (some 3), none, [], []⟩, ⟨(.load 1 false (.t 3)), (some 4), none, [], []⟩, ⟨(.bin .eql (.t 4) (.c (.int .i64 4))), (some 5), none, [], []⟩], [], [], false⟩
def r_rSpan_2 : Reg := ⟨[], [⟨(.faddr 2 (.t 1)), (some 6), none, [], []⟩, ⟨(.load 1 false (.t 6)), (some 7), none, [], []⟩, ⟨(.faddr 3 (.t 1)), (some 8), none, [], []⟩, ⟨(.load 1 false (.t 8)), (some 9), none, [], []⟩, ⟨(.faddr 4 (.t 1)), (some 10), none, [], []⟩, ⟨(.load 1 false (.t 10)), (some 11), none, [], []⟩, ⟨(.bld [(.str ⟨#[]⟩), (.str ⟨#[]⟩), (.bool false)] [⟨0, 1, (.t 7)⟩, ⟨1, 1, (.t 9)⟩, ⟨2, 1, (.t 11)⟩]), (some 12), none, [], []⟩, ⟨(.store 3 (.t 2) (.t 12)), none, none, [], []⟩], [], [], false⟩
def r_rSpan_3 : Reg := ⟨[], [⟨(.faddr 2 (.t 1)), (some 13), none, [], []⟩, ⟨(.load 1 false (.t 13)), (some 14), none, [], []⟩, ⟨(.faddr 2 (.t 1)), (some 15), none, [], []⟩, ⟨(.load 1 false (.t 15)), (some 16), none, [], []⟩, ⟨(.bin .add (.t 16) (.c (.str ⟨#[0]⟩))), (some 17), none, [], []⟩, ⟨(.bld [(.str ⟨#[]⟩), (.str ⟨#[]⟩), (.bool false)] [⟨0, 1, (.t 14)⟩, ⟨1, 1, (.t 17)⟩]), (some 18), none, [], []⟩, ⟨(.store 3 (.t 2) (.t 18)), none, none, [], []⟩], [], [], false⟩
def ir_rSpan : IR := (.seq (.reg r_rSpan_0)
  (.seq (.seq (.reg r_rSpan_1)
  (.cond (.t 5) (.seq (.reg r_rSpan_2)
  .ret)
  .skip))
  (.seq (.reg r_rSpan_3)
  .ret)))
def res_rSpan : List RDesc := [(.cell 2 3 true)]
theorem e_rSpan_0 (C : FuncId → List AV → AV → Prop) (σ : St) (K : St → Prop) : runReg C r_rSpan_0 σ K = runOps C [⟨(.box 6 55 (.t 0)), (some 1), none, [2], []⟩, ⟨(.alloc 3 41 (.agg [(.str ⟨#[]⟩), (.str ⟨#[]⟩), (.bool false)])), (some 2), none, [], []⟩] (σ.kills [1, 2]) K := rfl
theorem e_rSpan_1 (C : FuncId → List AV → AV → Prop) (σ : St) (K : St → Prop) : runReg C r_rSpan_1 σ K = runOps C [⟨(.faddr 1 (.t 1)), (some 3), none, [], []⟩, ⟨(.load 1 false (.t 3)), (some 4), none, [], []⟩, ⟨(.bin .eql (.t 4) (.c (.int .i64 4))), (some 5), none, [], []⟩] (σ.kills []) K := rfl
theorem e_rSpan_2 (C : FuncId → List AV → AV → Prop) (σ : St) (K : St → Prop) : runReg C r_rSpan_2 σ K = runOps C [⟨(.faddr 2 (.t 1)), (some 6), none, [], []⟩, ⟨(.load 1 false (.t 6)), (some 7), none, [], []⟩, ⟨(.faddr 3 (.t 1)), (some 8), none, [], []⟩, ⟨(.load 1 false (.t 8)), (some 9), none, [], []⟩, ⟨(.faddr 4 (.t 1)), (some 10), none, [], []⟩, ⟨(.load 1 false (.t 10)), (some 11), none, [], []⟩, ⟨(.bld [(.str ⟨#[]⟩), (.str ⟨#[]⟩), (.bool false)] [⟨0, 1, (.t 7)⟩, ⟨1, 1, (.t 9)⟩, ⟨2, 1, (.t 11)⟩]), (some 12), none, [], []⟩, ⟨(.store 3 (.t 2) (.t 12)), none, none, [], []⟩] (σ.kills []) K := rfl
theorem e_rSpan_3 (C : FuncId → List AV → AV → Prop) (σ : St) (K : St → Prop) : runReg C r_rSpan_3 σ K = runOps C [⟨(.faddr 2 (.t 1)), (some 13), none, [], []⟩, ⟨(.load 1 false (.t 13)), (some 14), none, [], []⟩, ⟨(.faddr 2 (.t 1)), (some 15), none, [], []⟩, ⟨(.load 1 false (.t 15)), (some 16), none, [], []⟩, ⟨(.bin .add (.t 16) (.c (.str ⟨#[0]⟩))), (some 17), none, [], []⟩, ⟨(.bld [(.str ⟨#[]⟩), (.str ⟨#[]⟩), (.bool false)] [⟨0, 1, (.t 14)⟩, ⟨1, 1, (.t 17)⟩]), (some 18), none, [], []⟩, ⟨(.store 3 (.t 2) (.t 18)), none, none, [], []⟩] (σ.kills []) K := rfl
theorem fn_rSpan {args : List AV} {r : AV} (ha : args.length.ble Try.f32.ntmps = true) (h : run (AFn Try.prog) ir_rSpan (endQ res_rSpan r) (initSt args)) : AFn Try.prog 32 args r :=
  AFn.of_code (hint := fun _ => []) (c := Try.f32.body.getD .skip) (by kernel_rfl) (by kernel_rfl) Try.func32 (by kernel_rfl) (by kernel_rfl) (by kernel_rfl) (of_decide_eq_true (by kernel_rfl)) (Nat.le_of_ble_eq_true ha) (run_ok h)

attribute [local go_sem ↓] ir_rHas
attribute [local go_sem] res_rHas e_rHas_0 e_rHas_1
attribute [local go_sem ↓] ir_rEmpty
attribute [local go_sem] res_rEmpty e_rEmpty_0 e_rEmpty_1
attribute [local go_sem ↓] ir_rNorm
attribute [local go_sem] res_rNorm e_rNorm_0 e_rNorm_1 e_rNorm_2 e_rNorm_3 e_rNorm_4 e_rNorm_5
attribute [local go_sem ↓] ir_rMeet
attribute [local go_sem] res_rMeet e_rMeet_0 e_rMeet_1 e_rMeet_2 e_rMeet_3 e_rMeet_4 e_rMeet_5 e_rMeet_6 e_rMeet_7
attribute [local go_sem ↓] ir_rSpan
attribute [local go_sem] res_rSpan e_rSpan_0 e_rSpan_1 e_rSpan_2 e_rSpan_3

def SOk (s : Spn) : Prop := s.lo.size ≤ 9223372036854775807 ∧ s.hi.size ≤ 9223372036854775807
theorem has_lo (s : Spn) : (!s.has s.lo) = s.empty := by
  have : lt s.lo s.lo = false := kp.less_irrefl _
  simp [Spn.has, Spn.empty, this]
theorem refHas (s : Spn) (k : ByteArray) (hs : SOk s) (hk : k.size ≤ 9223372036854775807) : AFn Try.prog 83 [s.a, .str k] (.bool (s.has k)) := by
  refine fn_rHas rfl ?_
  simp (maxSteps := 4000000) only [go_sem, ↓reduceIte, reduceCtorEq, Nat.reduceEqDiff, Nat.reduceBEq, Nat.reduceAdd, Nat.reduceSub, Nat.reduceMul, Nat.reduceLT, Nat.reduceLeDiff, Nat.reduceBNe, Int.reduceBEq, Int.reduceBNe, Int.reduceLT, Int.reduceLE, Spn.a, Msg.a, Eff.a]
  (first | refine calling (refLess k s.lo hk hs.1) ?_ | refine callingH (refLess k s.lo hk hs.1) ?_)
  cases h1 : lt k s.lo with
  | true =>
    simp (maxSteps := 4000000) only [go_sem, ↓reduceIte, reduceCtorEq, Nat.reduceEqDiff, Nat.reduceBEq, Nat.reduceAdd, Nat.reduceSub, Nat.reduceMul, Nat.reduceLT, Nat.reduceLeDiff, Nat.reduceBNe, Int.reduceBEq, Int.reduceBNe, Int.reduceLT, Int.reduceLE, Spn.a, Msg.a, Eff.a]
    simp [Spn.has, h1]
  | false =>
    cases h2 : s.op with
    | true =>
      simp (maxSteps := 4000000) only [go_sem, ↓reduceIte, reduceCtorEq, Nat.reduceEqDiff, Nat.reduceBEq, Nat.reduceAdd, Nat.reduceSub, Nat.reduceMul, Nat.reduceLT, Nat.reduceLeDiff, Nat.reduceBNe, Int.reduceBEq, Int.reduceBNe, Int.reduceLT, Int.reduceLE, Spn.a, Msg.a, Eff.a, h2]
      simp [Spn.has, h1, h2]
    | false =>
      simp (maxSteps := 4000000) only [go_sem, ↓reduceIte, reduceCtorEq, Nat.reduceEqDiff, Nat.reduceBEq, Nat.reduceAdd, Nat.reduceSub, Nat.reduceMul, Nat.reduceLT, Nat.reduceLeDiff, Nat.reduceBNe, Int.reduceBEq, Int.reduceBNe, Int.reduceLT, Int.reduceLE, Spn.a, Msg.a, Eff.a, h2]
      (first | refine calling (refLess k s.hi hk hs.2) ?_ | refine callingH (refLess k s.hi hk hs.2) ?_)
      simp (maxSteps := 4000000) only [go_sem, ↓reduceIte, reduceCtorEq, Nat.reduceEqDiff, Nat.reduceBEq, Nat.reduceAdd, Nat.reduceSub, Nat.reduceMul, Nat.reduceLT, Nat.reduceLeDiff, Nat.reduceBNe, Int.reduceBEq, Int.reduceBNe, Int.reduceLT, Int.reduceLE, Spn.a, Msg.a, Eff.a, h2]
      simp [Spn.has, h1, h2]
theorem refEmpty (s : Spn) (hs : SOk s) : AFn Try.prog 30 [s.a] (.bool s.empty) := by
  refine fn_rEmpty rfl ?_
  simp (maxSteps := 4000000) only [go_sem, ↓reduceIte, reduceCtorEq, Nat.reduceEqDiff, Nat.reduceBEq, Nat.reduceAdd, Nat.reduceSub, Nat.reduceMul, Nat.reduceLT, Nat.reduceLeDiff, Nat.reduceBNe, Int.reduceBEq, Int.reduceBNe, Int.reduceLT, Int.reduceLE, Spn.a, Msg.a, Eff.a]
  (first | refine calling (refHas s s.lo hs hs.1) ?_ | refine callingH (refHas s s.lo hs hs.1) ?_)
  simp (maxSteps := 4000000) only [go_sem, ↓reduceIte, reduceCtorEq, Nat.reduceEqDiff, Nat.reduceBEq, Nat.reduceAdd, Nat.reduceSub, Nat.reduceMul, Nat.reduceLT, Nat.reduceLeDiff, Nat.reduceBNe, Int.reduceBEq, Int.reduceBNe, Int.reduceLT, Int.reduceLE, Spn.a, Msg.a, Eff.a, has_lo]
theorem refNorm (s : Spn) (hs : SOk s) : AFn Try.prog 85 [s.a] s.norm.a := by
  refine fn_rNorm rfl ?_
  simp (maxSteps := 4000000) only [go_sem, ↓reduceIte, reduceCtorEq, Nat.reduceEqDiff, Nat.reduceBEq, Nat.reduceAdd, Nat.reduceSub, Nat.reduceMul, Nat.reduceLT, Nat.reduceLeDiff, Nat.reduceBNe, Int.reduceBEq, Int.reduceBNe, Int.reduceLT, Int.reduceLE, Spn.a, Msg.a, Eff.a]
  (first | refine calling (refEmpty s hs) ?_ | refine callingH (refEmpty s hs) ?_)
  simp (maxSteps := 4000000) only [go_sem, ↓reduceIte, reduceCtorEq, Nat.reduceEqDiff, Nat.reduceBEq, Nat.reduceAdd, Nat.reduceSub, Nat.reduceMul, Nat.reduceLT, Nat.reduceLeDiff, Nat.reduceBNe, Int.reduceBEq, Int.reduceBNe, Int.reduceLT, Int.reduceLE, Spn.a, Msg.a, Eff.a]
  refine ⟨fun h => ?_, fun h => ⟨fun h2 => ?_, fun h2 => ?_⟩⟩ <;> simp [Spn.norm, Spn.none, *]
def Spn.refCut (a b : Spn) : Spn := ⟨maxS a.lo b.lo, if !b.op && (a.op || lt b.hi a.hi) then b.hi else a.hi, if !b.op && (a.op || lt b.hi a.hi) then false else a.op⟩
theorem refCut_norm (a b : Spn) : (a.refCut b).norm = a.meet b := by
  obtain ⟨lo, hi, op⟩ := a
  obtain ⟨lo', hi', op'⟩ := b
  cases op <;> cases op' <;> simp [Spn.refCut, Spn.meet, Spn.cut, Spn.norm, Spn.empty, minS]
theorem refMeet (s t : Spn) (hs : SOk s) (ht : SOk t) : AFn Try.prog 31 [s.a, t.a] (s.meet t).a := by
  rw [← refCut_norm]
  refine fn_rMeet rfl ?_
  simp (maxSteps := 4000000) only [go_sem, ↓reduceIte, reduceCtorEq, Nat.reduceEqDiff, Nat.reduceBEq, Nat.reduceAdd, Nat.reduceSub, Nat.reduceMul, Nat.reduceLT, Nat.reduceLeDiff, Nat.reduceBNe, Int.reduceBEq, Int.reduceBNe, Int.reduceLT, Int.reduceLE, Spn.a, Msg.a, Eff.a]
  (first | refine calling (refLess s.lo t.lo hs.1 ht.1) ?_ | refine callingH (refLess s.lo t.lo hs.1 ht.1) ?_)
  have hM : SOk (s.refCut t) := by
    unfold Spn.refCut maxS SOk
    refine ⟨?_, ?_⟩
    · simp only; split
      · exact ht.1
      · exact hs.1
    · simp only; split
      · exact ht.2
      · exact hs.2
  obtain ⟨sl, sh, so⟩ := s
  obtain ⟨tl, th, tp⟩ := t
  simp only
  have e1 : lt sl tl = true ∨ lt sl tl = false := by cases lt sl tl <;> simp
  have e2 : lt th sh = true ∨ lt th sh = false := by cases lt th sh <;> simp
  rcases e1 with e1 | e1 <;> rcases e2 with e2 | e2 <;> cases so <;> cases tp <;>
    simp only [Spn.refCut, maxS, e1, e2, Bool.not_false, Bool.not_true, Bool.true_and, Bool.false_and, Bool.or_true, Bool.or_false, Bool.true_or, Bool.false_or, if_true, if_false, Bool.false_eq_true] at hM ⊢ <;>
    (simp (maxSteps := 4000000) only [go_sem, ↓reduceIte, reduceCtorEq, Nat.reduceEqDiff, Nat.reduceBEq, Nat.reduceAdd, Nat.reduceSub, Nat.reduceMul, Nat.reduceLT, Nat.reduceLeDiff, Nat.reduceBNe, Int.reduceBEq, Int.reduceBNe, Int.reduceLT, Int.reduceLE, Spn.a, Msg.a, Eff.a, e1, e2]) <;>
    first
      | ((first | refine calling (refNorm ⟨_, _, _⟩ hM) ?_ | refine callingH (refNorm ⟨_, _, _⟩ hM) ?_); (simp (maxSteps := 4000000) only [go_sem, ↓reduceIte, reduceCtorEq, Nat.reduceEqDiff, Nat.reduceBEq, Nat.reduceAdd, Nat.reduceSub, Nat.reduceMul, Nat.reduceLT, Nat.reduceLeDiff, Nat.reduceBNe, Int.reduceBEq, Int.reduceBNe, Int.reduceLT, Int.reduceLE, Spn.a, Msg.a, Eff.a, e1, e2]); done)
      | ((first | refine calling (refLess th sh ht.2 hs.2) ?_ | refine callingH (refLess th sh ht.2 hs.2) ?_); (simp (maxSteps := 4000000) only [go_sem, ↓reduceIte, reduceCtorEq, Nat.reduceEqDiff, Nat.reduceBEq, Nat.reduceAdd, Nat.reduceSub, Nat.reduceMul, Nat.reduceLT, Nat.reduceLeDiff, Nat.reduceBNe, Int.reduceBEq, Int.reduceBNe, Int.reduceLT, Int.reduceLE, Spn.a, Msg.a, Eff.a, e1, e2]); (first | refine calling (refNorm ⟨_, _, _⟩ hM) ?_ | refine callingH (refNorm ⟨_, _, _⟩ hM) ?_); (simp (maxSteps := 4000000) only [go_sem, ↓reduceIte, reduceCtorEq, Nat.reduceEqDiff, Nat.reduceBEq, Nat.reduceAdd, Nat.reduceSub, Nat.reduceMul, Nat.reduceLT, Nat.reduceLeDiff, Nat.reduceBNe, Int.reduceBEq, Int.reduceBNe, Int.reduceLT, Int.reduceLE, Spn.a, Msg.a, Eff.a, e1, e2]); done)
theorem refSpan (m : Msg) (hk : m.key.size ≤ 9223372036854775806) : AFn Try.prog 32 [m.a] m.span.a := by
  refine fn_rSpan rfl ?_
  cases h : (m.kind == 4) with
  | true =>
    have h' : m.kind = 4 := by simpa using h
    simp (maxSteps := 4000000) only [go_sem, ↓reduceIte, reduceCtorEq, Nat.reduceEqDiff, Nat.reduceBEq, Nat.reduceAdd, Nat.reduceSub, Nat.reduceMul, Nat.reduceLT, Nat.reduceLeDiff, Nat.reduceBNe, Int.reduceBEq, Int.reduceBNe, Int.reduceLT, Int.reduceLE, Spn.a, Msg.a, Eff.a, h]
    simp [Msg.span, h']
  | false =>
    have h' : m.kind ≠ 4 := by simpa using h
    simp (maxSteps := 4000000) only [go_sem, ↓reduceIte, reduceCtorEq, Nat.reduceEqDiff, Nat.reduceBEq, Nat.reduceAdd, Nat.reduceSub, Nat.reduceMul, Nat.reduceLT, Nat.reduceLeDiff, Nat.reduceBNe, Int.reduceBEq, Int.reduceBNe, Int.reduceLT, Int.reduceLE, Spn.a, Msg.a, Eff.a, h]
    simp [Msg.span, h', pointS]
    first | (show m.key.size + 1 ≤ _; omega) | omega
end Go.Proofs.Ytdjkefndigijjaa
