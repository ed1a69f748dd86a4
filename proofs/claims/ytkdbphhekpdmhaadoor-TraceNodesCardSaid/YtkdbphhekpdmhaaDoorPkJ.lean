/-
  Layer 6: a number's digits, a text as a number, and the law PackNumbers.
-/
import Derived.Test.YtkdbphhekpdmhaaDoorPkI
import Derived.Lib.ItoaLen
import Derived.Lib.AppendIntMem
namespace Go.Proofs.YtkdbphhekpdmhaaDoor
open Go.RowKit
set_option linter.unusedVariables false
set_option linter.unusedSimpArgs false
set_option maxRecDepth 100000
attribute [local go_sem ↓] runOp headOp
attribute [local go_sem] ev0 ev1 ev2 ev3 ev4 evA stHOk.eq_1 stHOk.eq_2 stHSt.eq_1 stHSt.eq_2 okV valV fzV okF valF okBld valBld mxOk.eq_1 mxOk.eq_2 mxVal.eq_1 mxVal.eq_2 cellFit.eq_1 cellFit.eq_2 cellFit.eq_3 cellEq.eq_1 cellEq.eq_2 cellEq.eq_3 upd_at AV.flatB AV.flatBs binIok binIV binSok binSV cellsOk.eq_1 cellsOk.eq_2 cellsVal.eq_1 cellsVal.eq_2 objCells.eq_1 objCells.eq_2 objZ.eq_1 objZ.eq_2 objProt.eq_1 objProt.eq_2 oneObj ptrOk.eq_1 ptrOk.eq_2 ptrOk.eq_3 ptrCells.eq_1 ptrCells.eq_2 ptrCells.eq_3 lenOk.eq_1 lenOk.eq_2 lenOk.eq_3 lenOk.eq_4 lenVal.eq_1 lenVal.eq_2 lenVal.eq_3 lenVal.eq_4 faOk.eq_1 faOk.eq_2 faOk.eq_3 faVal.eq_1 faVal.eq_2 faVal.eq_3 iaOk.eq_1 iaOk.eq_2 iaOk.eq_3 iaVal.eq_1 iaVal.eq_2 iaVal.eq_3 slcLen.eq_1 slcLen.eq_2 slcLen.eq_3 slcLen.eq_4 bdOk.eq_1 bdOk.eq_2 bdVal.eq_1 bdVal.eq_2 slcOk.eq_1 slcOk.eq_2 slcOk.eq_3 slcOk.eq_4 slcVal.eq_1 slcVal.eq_2 slcVal.eq_3 slcVal.eq_4 slcFz.eq_1 slcFz.eq_2 byOk.eq_1 byOk.eq_2 byOk.eq_3 byOk.eq_4 byOk.eq_5 byOk.eq_6 byOk.eq_7 byVal.eq_1 byVal.eq_2 byVal.eq_3 byFz.eq_1 byFz.eq_2 byFz.eq_3 byOks byVals byFzs allOne resSt.eq_1 resSt.eq_2 resName.eq_1 resName.eq_2 stOk.eq_1 stOk.eq_2 stArr.eq_1 stArr.eq_2 stSt.eq_1 stSt.eq_2 AV.patch nameOk_none gB.eq_1 gB.eq_2 gB.eq_3 gIs.eq_1 gIs.eq_2 gIs.eq_3 retV resV resVs evalV cellsV St.byval List.getD_cons_zero List.getD_cons_succ List.getD_nil List.map_cons List.map_nil List.length_cons List.length_nil List.take_succ_cons List.take_zero List.drop_succ_cons List.drop_zero List.headD_cons List.set_cons_zero List.append_nil List.nil_append List.cons_append List.contains_cons List.contains_nil List.elem_cons List.elem_nil List.all_cons List.all_nil List.getElem?_cons_zero List.getElem?_cons_succ List.filterMap_cons List.filterMap_nil Option.isSome_some Option.isSome_none Option.map_some Option.map_none Option.some.injEq AV.int.injEq AV.bool.injEq AV.str.injEq AV.tup.injEq AV.agg.injEq AV.sl.injEq List.cons.injEq Bool.false_eq_true Bool.true_eq_false Bool.not_true Bool.not_false Bool.and_true Bool.true_and Bool.or_false Bool.or_true Bool.false_or Bool.true_or Bool.or_self Bool.and_self Bool.not_eq_true' Bool.not_eq_false' Bool.not_not beq_self_eq_true true_and and_true false_and and_false and_self not_true_eq_false not_false_eq_true forall_const true_implies false_implies implies_true imp_self Nat.lt_add_one Nat.le_refl Nat.zero_le Nat.add_zero Nat.zero_add decide_true decide_false decide_eq_true_eq decide_eq_false_iff_not exists_eq_left exists_eq_left' ge_iff_le gt_iff_lt ite_branch ite_branch' nilOk.eq_1 nilOk.eq_2 nilMay.eq_1 nilMay.eq_2 AV.isSl.eq_1 objTy'.eq_1 objTy'.eq_2 apSt.eq_1 apArr.eq_1 apArr.eq_2 slOf.eq_1 fitsV List.mem_cons List.not_mem_nil Bool.false_and Bool.and_false primOk.eq_1 primOk.eq_2 primOk.eq_3 primOk.eq_4 primOk.eq_5 primVal.eq_1 primVal.eq_2 primVal.eq_3 primVal.eq_4 primVal.eq_5 mOk.eq_1 mOk.eq_2 mVal.eq_1 mVal.eq_2 mFz.eq_1 mFz.eq_2 mOks mVals mFzs mCalOk.eq_1 mCalOk.eq_2 mFn.eq_1 mFn.eq_2 mArgs.eq_1 mArgs.eq_2 ckOk.eq_1 ckOk.eq_2 cloOk.eq_1 ptrAt.eq_1 sh.eq_1 sh.eq_2 sh.eq_3 sh.eq_4 sh.eq_5 retM shH_small
/-! ### percolate/pack.Dec -/
def r_dec_0 : Reg := ⟨[], [⟨(.mv (.c (.str ⟨#[]⟩))), (some 2), none, [], []⟩], [], [], false⟩
def r_dec_1 : Reg := ⟨[], [⟨(.mv (.t 0)), (some 3), none, [4], []⟩, ⟨(.callv (.c (.clo 95 [] [])) [(.t 3)]), (some 4), none, [], []⟩, ⟨(.mv (.t 4)), (some 2), none, [], []⟩], [4], [], false⟩
def ir_dec : IR := (.seq (.reg r_dec_0)
  (.seq (.reg r_dec_1)
  .ret))
def res_dec : List RDesc := [(.tmp 2)]
theorem e_dec_0 (C : FuncId → List AV → AV → Prop) (σ : St) (K : St → Prop) : runReg C r_dec_0 σ K = runOps C [⟨(.mv (.c (.str ⟨#[]⟩))), (some 2), none, [], []⟩] (σ.kills []) K := rfl
theorem e_dec_1 (C : FuncId → List AV → AV → Prop) (σ : St) (K : St → Prop) : runReg C r_dec_1 σ K = runOps C [⟨(.mv (.t 0)), (some 3), none, [4], []⟩, ⟨(.callv (.c (.clo 95 [] [])) [(.t 3)]), (some 4), none, [], []⟩, ⟨(.mv (.t 4)), (some 2), none, [], []⟩] (σ.kills [4]) K := rfl
theorem fn_dec {args : List AV} {r : AV} (ha : args.length.ble Tryd.f56.ntmps = true) (h : run (AFn Tryd.prog) ir_dec (endQ res_dec r) (initSt args)) : AFn Tryd.prog 56 args r :=
  AFn.of_code (hint := fun _ => []) (c := Tryd.f56.body.getD .skip) (by kernel_rfl) (by kernel_rfl) Tryd.func56 (by kernel_rfl) (by kernel_rfl) (by kernel_rfl) (of_decide_eq_true (by kernel_rfl)) (Nat.le_of_ble_eq_true ha) (Nat.le_of_ble_eq_true (by kernel_rfl)) (run_ok h)

/-! ### percolate/percolateref06.Dec -/
def r_rDec_0 : Reg := ⟨[], [⟨(.mv (.c (.str ⟨#[]⟩))), (some 2), none, [], []⟩], [], [], false⟩
def r_rDec_1 : Reg := ⟨[], [⟨(.mv (.c (.str ⟨#[]⟩))), (some 3), none, [], []⟩], [], [], false⟩
def r_rDec_2 : Reg := ⟨[], [⟨(.mv (.t 0)), (some 6), none, [], []⟩, ⟨(.mv (.t 6)), (some 4), none, [], []⟩], [], [], false⟩
def r_rDec_3 : Reg := ⟨[], [⟨(.mv (.t 4)), (some 7), none, [], []⟩, ⟨(.bin .rem (.t 7) (.c (.int .i64 10))), (some 8), none, [], []⟩, ⟨(.mv (.t 8)), (some 5), none, [], []⟩], [], [], false⟩
def r_rDec_4 : Reg := ⟨[], [⟨(.mv (.t 5)), (some 9), none, [], []⟩, ⟨(.bin .lss (.t 9) (.c (.int .i64 0))), (some 10), none, [], []⟩], [], [], false⟩
def r_rDec_5 : Reg := ⟨[], [⟨(.mv (.t 5)), (some 11), none, [], []⟩, ⟨(.un .neg (.t 11)), (some 12), none, [], []⟩, ⟨(.mv (.t 12)), (some 5), none, [], []⟩], [], [], false⟩
def r_rDec_6 : Reg := ⟨[], [⟨(.mv (.t 5)), (some 13), none, [16, 17], []⟩, ⟨(.bin .add (.c (.int .i64 48)) (.t 13)), (some 14), none, [16, 17], []⟩, ⟨(.conv .u8 (.t 14)), (some 15), none, [16, 17], []⟩, ⟨(.bsl 1 5 [(.t 15)]), (some 16), none, [17], []⟩, ⟨(.call 1 [(.t 16)]), (some 17), none, [], []⟩, ⟨(.mv (.t 3)), (some 18), none, [], []⟩, ⟨(.bin .add (.t 17) (.t 18)), (some 19), none, [], []⟩, ⟨(.mv (.t 19)), (some 3), none, [], []⟩], [16, 17], [], false⟩
def r_rDec_7 : Reg := ⟨[], [⟨(.mv (.t 4)), (some 20), none, [], []⟩, ⟨(.bin .quo (.t 20) (.c (.int .i64 10))), (some 21), none, [], []⟩, ⟨(.mv (.t 21)), (some 4), none, [], []⟩], [], [], false⟩
def r_rDec_8 : Reg := ⟨[], [⟨(.mv (.t 4)), (some 22), none, [], []⟩, ⟨(.bin .eql (.t 22) (.c (.int .i64 0))), (some 23), none, [], []⟩], [], [], false⟩
def r_rDec_l9 : IR := (.block 1 (.seq (.reg r_rDec_3)
  (.seq (.seq (.reg r_rDec_4)
  (.cond (.t 10) (.reg r_rDec_5)
  .skip))
  (.seq (.reg r_rDec_6)
  (.seq (.reg r_rDec_7)
  (.seq (.reg r_rDec_8)
  (.cond (.t 23) (.exit 0)
  .skip)))))))
def r_rDec_10 : Reg := ⟨[], [⟨(.mv (.t 0)), (some 24), none, [], []⟩, ⟨(.bin .lss (.t 24) (.c (.int .i64 0))), (some 25), none, [], []⟩], [], [], false⟩
def r_rDec_11 : Reg := ⟨[], [⟨(.mv (.t 3)), (some 26), none, [], []⟩, ⟨(.bin .add (.c (.str ⟨#[45]⟩)) (.t 26)), (some 27), none, [], []⟩, ⟨(.mv (.t 27)), (some 2), none, [], []⟩], [], [], false⟩
def r_rDec_12 : Reg := ⟨[], [⟨(.mv (.t 3)), (some 28), none, [], []⟩, ⟨(.mv (.t 28)), (some 2), none, [], []⟩], [], [], false⟩
def ir_rDec : IR := (.seq (.reg r_rDec_0)
  (.seq (.reg r_rDec_1)
  (.seq (.reg r_rDec_2)
  (.seq (.block 0 (.loop r_rDec_l9))
  (.seq (.seq (.reg r_rDec_10)
  (.cond (.t 25) (.seq (.reg r_rDec_11)
  .ret)
  .skip))
  (.seq (.reg r_rDec_12)
  .ret))))))
def res_rDec : List RDesc := [(.tmp 2)]
theorem e_rDec_0 (C : FuncId → List AV → AV → Prop) (σ : St) (K : St → Prop) : runReg C r_rDec_0 σ K = runOps C [⟨(.mv (.c (.str ⟨#[]⟩))), (some 2), none, [], []⟩] (σ.kills []) K := rfl
theorem e_rDec_1 (C : FuncId → List AV → AV → Prop) (σ : St) (K : St → Prop) : runReg C r_rDec_1 σ K = runOps C [⟨(.mv (.c (.str ⟨#[]⟩))), (some 3), none, [], []⟩] (σ.kills []) K := rfl
theorem e_rDec_2 (C : FuncId → List AV → AV → Prop) (σ : St) (K : St → Prop) : runReg C r_rDec_2 σ K = runOps C [⟨(.mv (.t 0)), (some 6), none, [], []⟩, ⟨(.mv (.t 6)), (some 4), none, [], []⟩] (σ.kills []) K := rfl
theorem e_rDec_3 (C : FuncId → List AV → AV → Prop) (σ : St) (K : St → Prop) : runReg C r_rDec_3 σ K = runOps C [⟨(.mv (.t 4)), (some 7), none, [], []⟩, ⟨(.bin .rem (.t 7) (.c (.int .i64 10))), (some 8), none, [], []⟩, ⟨(.mv (.t 8)), (some 5), none, [], []⟩] (σ.kills []) K := rfl
theorem e_rDec_4 (C : FuncId → List AV → AV → Prop) (σ : St) (K : St → Prop) : runReg C r_rDec_4 σ K = runOps C [⟨(.mv (.t 5)), (some 9), none, [], []⟩, ⟨(.bin .lss (.t 9) (.c (.int .i64 0))), (some 10), none, [], []⟩] (σ.kills []) K := rfl
theorem e_rDec_5 (C : FuncId → List AV → AV → Prop) (σ : St) (K : St → Prop) : runReg C r_rDec_5 σ K = runOps C [⟨(.mv (.t 5)), (some 11), none, [], []⟩, ⟨(.un .neg (.t 11)), (some 12), none, [], []⟩, ⟨(.mv (.t 12)), (some 5), none, [], []⟩] (σ.kills []) K := rfl
theorem e_rDec_6 (C : FuncId → List AV → AV → Prop) (σ : St) (K : St → Prop) : runReg C r_rDec_6 σ K = runOps C [⟨(.mv (.t 5)), (some 13), none, [16, 17], []⟩, ⟨(.bin .add (.c (.int .i64 48)) (.t 13)), (some 14), none, [16, 17], []⟩, ⟨(.conv .u8 (.t 14)), (some 15), none, [16, 17], []⟩, ⟨(.bsl 1 5 [(.t 15)]), (some 16), none, [17], []⟩, ⟨(.call 1 [(.t 16)]), (some 17), none, [], []⟩, ⟨(.mv (.t 3)), (some 18), none, [], []⟩, ⟨(.bin .add (.t 17) (.t 18)), (some 19), none, [], []⟩, ⟨(.mv (.t 19)), (some 3), none, [], []⟩] (σ.kills [16, 17]) K := rfl
theorem e_rDec_7 (C : FuncId → List AV → AV → Prop) (σ : St) (K : St → Prop) : runReg C r_rDec_7 σ K = runOps C [⟨(.mv (.t 4)), (some 20), none, [], []⟩, ⟨(.bin .quo (.t 20) (.c (.int .i64 10))), (some 21), none, [], []⟩, ⟨(.mv (.t 21)), (some 4), none, [], []⟩] (σ.kills []) K := rfl
theorem e_rDec_8 (C : FuncId → List AV → AV → Prop) (σ : St) (K : St → Prop) : runReg C r_rDec_8 σ K = runOps C [⟨(.mv (.t 4)), (some 22), none, [], []⟩, ⟨(.bin .eql (.t 22) (.c (.int .i64 0))), (some 23), none, [], []⟩] (σ.kills []) K := rfl
theorem e_rDec_10 (C : FuncId → List AV → AV → Prop) (σ : St) (K : St → Prop) : runReg C r_rDec_10 σ K = runOps C [⟨(.mv (.t 0)), (some 24), none, [], []⟩, ⟨(.bin .lss (.t 24) (.c (.int .i64 0))), (some 25), none, [], []⟩] (σ.kills []) K := rfl
theorem e_rDec_11 (C : FuncId → List AV → AV → Prop) (σ : St) (K : St → Prop) : runReg C r_rDec_11 σ K = runOps C [⟨(.mv (.t 3)), (some 26), none, [], []⟩, ⟨(.bin .add (.c (.str ⟨#[45]⟩)) (.t 26)), (some 27), none, [], []⟩, ⟨(.mv (.t 27)), (some 2), none, [], []⟩] (σ.kills []) K := rfl
theorem e_rDec_12 (C : FuncId → List AV → AV → Prop) (σ : St) (K : St → Prop) : runReg C r_rDec_12 σ K = runOps C [⟨(.mv (.t 3)), (some 28), none, [], []⟩, ⟨(.mv (.t 28)), (some 2), none, [], []⟩] (σ.kills []) K := rfl
theorem fn_rDec {args : List AV} {r : AV} (ha : args.length.ble Tryd.f42.ntmps = true) (h : run (AFn Tryd.prog) ir_rDec (endQ res_rDec r) (initSt args)) : AFn Tryd.prog 42 args r :=
  AFn.of_code (hint := fun _ => []) (c := Tryd.f42.body.getD .skip) (by kernel_rfl) (by kernel_rfl) Tryd.func42 (by kernel_rfl) (by kernel_rfl) (by kernel_rfl) (of_decide_eq_true (by kernel_rfl)) (Nat.le_of_ble_eq_true ha) (Nat.le_of_ble_eq_true (by kernel_rfl)) (run_ok h)

attribute [local go_sem ↓] ir_dec
attribute [local go_sem] res_dec e_dec_0 e_dec_1
attribute [local go_sem ↓] ir_rDec
attribute [local go_sem] res_rDec e_rDec_0 e_rDec_1 e_rDec_2 e_rDec_3 e_rDec_4 e_rDec_5 e_rDec_6 e_rDec_7 e_rDec_8 e_rDec_10 e_rDec_11 e_rDec_12

def decS (n : Int) : ByteArray := ⟨(Lib.itoa n).toArray⟩
theorem decS_size (n : Int) : (decS n).size = (Lib.itoa n).length := rfl
def inI (n : Int) : Prop := -9223372036854775808 ≤ n ∧ n ≤ 9223372036854775807
theorem itoa_ok (n : Int) (h : inI n) : AFn Tryd.prog 95 [.int .i64 n] (.str (decS n)) :=
  .flat1 (by kernel_rfl) int_flat (fun _ _ _ => .str _) fun w hG => (Tryd.strconv_Itoa n h.1 h.2 w hG.2).mono fun e w' ⟨he, k, os, hw⟩ => by
    subst hw
    exact ⟨he, Lib.below_grow _ _ (Nat.le_refl _) _ _⟩
theorem dec_ok (n : Int) (h : inI n) : AFn Tryd.prog 56 [.int .i64 n] (.str (decS n)) := by
  refine fn_dec rfl ?_
  simp (maxSteps := 4000000) only [go_sem, ↓reduceIte, reduceCtorEq, Nat.reduceEqDiff, Nat.reduceBEq, Nat.reduceAdd, Nat.reduceSub, Nat.reduceMul, Nat.reduceLT, Nat.reduceLeDiff, Nat.reduceBNe, Int.reduceBEq, Int.reduceBNe, Int.reduceLT, Int.reduceLE]
  (first | refine calling (itoa_ok n h) ?_ | refine callingH (itoa_ok n h) ?_)
  simp (maxSteps := 4000000) only [go_sem, ↓reduceIte, reduceCtorEq, Nat.reduceEqDiff, Nat.reduceBEq, Nat.reduceAdd, Nat.reduceSub, Nat.reduceMul, Nat.reduceLT, Nat.reduceLeDiff, Nat.reduceBNe, Int.reduceBEq, Int.reduceBNe, Int.reduceLT, Int.reduceLE]
/-! ### digits -/
open Lib (decDigits itoa nDigits)
theorem dd_step (u : Nat) (h : ¬ u < 10) : decDigits u = decDigits (u / 10) ++ [UInt8.ofNat (48 + u % 10)] := by
  rw [Lib.decDigits, dif_neg h]
theorem dd_small (u : Nat) (h : u < 10) : decDigits u = [UInt8.ofNat (48 + u)] := Lib.decDigits_one h
def rdInv (n : Int) (k : Nat) (σ : St) : Prop :=
  ∃ (m : Int) (s : List UInt8), k = m.natAbs ∧ inI m ∧ decDigits n.natAbs = decDigits m.natAbs ++ s ∧ (n < 0 ↔ n < 0) ∧ σ.T 0 = .int .i64 n ∧ σ.T 4 = .int .i64 m ∧ σ.T 3 = .str (wb s)
theorem u8_dig (d : Nat) (h : d < 10) : IntKind.u8.wrap (IntKind.i64.wrap (48 + (d : Int))) = ((UInt8.ofNat (48 + d)).toNat : Int) := by
  rw [IntWalk.i64_in _ (by omega), show (UInt8.ofNat (48 + d)).toNat = (48 + d) % 256 from UInt8.toNat_ofNat' ..]
  simp [IntKind.wrap, IntKind.signed, IntKind.bits]
theorem rDec_ok (n : Int) (h : inI n) : AFn Tryd.prog 42 [.int .i64 n] (.str (decS n)) := by
  refine fn_rDec rfl ?_
  simp (maxSteps := 4000000) only [go_sem, ↓reduceIte, reduceCtorEq, Nat.reduceEqDiff, Nat.reduceBEq, Nat.reduceAdd, Nat.reduceSub, Nat.reduceMul, Nat.reduceLT, Nat.reduceLeDiff, Nat.reduceBNe, Int.reduceBEq, Int.reduceBNe, Int.reduceLT, Int.reduceLE]
  refine run_loop (rdInv n) (k := n.natAbs) ⟨n, [], rfl, h, by simp, Iff.rfl, ?_, ?_, ?_⟩ ?_
  · simp (maxSteps := 4000000) only [go_sem, ↓reduceIte, reduceCtorEq, Nat.reduceEqDiff, Nat.reduceBEq, Nat.reduceAdd, Nat.reduceSub, Nat.reduceMul, Nat.reduceLT, Nat.reduceLeDiff, Nat.reduceBNe, Int.reduceBEq, Int.reduceBNe, Int.reduceLT, Int.reduceLE]
  · simp (maxSteps := 4000000) only [go_sem, ↓reduceIte, reduceCtorEq, Nat.reduceEqDiff, Nat.reduceBEq, Nat.reduceAdd, Nat.reduceSub, Nat.reduceMul, Nat.reduceLT, Nat.reduceLeDiff, Nat.reduceBNe, Int.reduceBEq, Int.reduceBNe, Int.reduceLT, Int.reduceLE]
  · simp (maxSteps := 4000000) only [go_sem, ↓reduceIte, reduceCtorEq, Nat.reduceEqDiff, Nat.reduceBEq, Nat.reduceAdd, Nat.reduceSub, Nat.reduceMul, Nat.reduceLT, Nat.reduceLeDiff, Nat.reduceBNe, Int.reduceBEq, Int.reduceBNe, Int.reduceLT, Int.reduceLE]
    rfl
  rintro k σ ⟨m, s, rfl, hm, hds, -, t0, t4, t3⟩
  simp only [r_rDec_l9]
  obtain ⟨hm0, hm1⟩ := hm
  have hlen : s.length ≤ 21 := by
    have h1 := congrArg List.length hds
    have h2 := Lib.itoa_length_le n h.1 h.2
    have h3 : (decDigits n.natAbs).length ≤ (itoa n).length := by
      unfold Lib.itoa
      split
      · simp
      · rename_i hn
        rw [show n.natAbs = n.toNat by omega]; exact Nat.le_refl _
    rw [List.length_append] at h1
    omega
  have hd : m.natAbs % 10 < 10 := Nat.mod_lt _ (by decide)
  have hqa : (m.tdiv 10).natAbs = m.natAbs / 10 := by
    rw [Int.natAbs_tdiv]; rfl
  have hta : (m.tmod 10).natAbs = m.natAbs % 10 := by
    rw [Int.natAbs_tmod]; rfl
  have hq : IntKind.i64.wrap (m.tdiv 10) = m.tdiv 10 := IntWalk.i64_in _ (by omega)
  have h45 : #[(45 : UInt8)].size = 1 := rfl
  have hu := u8_dig (m.natAbs % 10) hd
  obtain ⟨c, hc⟩ : ∃ c, UInt8.ofNat (48 + m.natAbs % 10) = c := ⟨_, rfl⟩
  rw [hc] at hu
  have hcat : ∀ x : ByteArray, x = ⟨#[c]⟩ → x ++ wb s = wb (c :: s) := fun x hx => by
    subst hx
    apply ba_ext
    rw [ByteArray.data_append, Array.toList_append]; rfl
  have hcs := hcat _ rfl
  have hwc : (wb (c :: s)).size = s.length + 1 := rfl
  have hws : (wb s).size = s.length := rfl
  have s1 : #[c].size = 1 := rfl
  have hsplit : m.natAbs < 10 → decDigits n.natAbs = c :: s := fun hlt => by
    rw [hds, dd_small _ hlt, ← hc, Nat.mod_eq_of_lt hlt]; rfl
  have hsplit2 : ¬ m.natAbs < 10 → decDigits n.natAbs = decDigits (m.tdiv 10).natAbs ++ (c :: s) := fun hge => by
    rw [hds, dd_step _ hge, hqa, hc, List.append_assoc]; rfl
  have hfin : decDigits n.natAbs = c :: s → decS n = if n < 0 then (⟨#[45]⟩ : ByteArray) ++ wb (c :: s) else wb (c :: s) := fun e => by
    apply ba_ext
    unfold decS Lib.itoa
    by_cases hn : n < 0
    · rw [if_pos hn, if_pos hn, ByteArray.data_append, Array.toList_append, e]; rfl
    · rw [if_neg hn, if_neg hn, show n.toNat = n.natAbs by omega, e]; rfl
  by_cases hneg : m.tmod 10 < 0
  · have hw : IntKind.i64.wrap (0 - m.tmod 10) = ((m.natAbs % 10 : Nat) : Int) := by
      rw [IntWalk.i64_in _ (by omega)]; omega
    by_cases hz : m.tdiv 10 = 0
    · have hz' : (m.tdiv 10 == 0) = true := by rw [hz]; rfl
      have e := hfin (hsplit (by omega))
      rw [e]
      by_cases hn : n < 0
      · rw [if_pos hn]
        simp (maxSteps := 4000000) only [go_sem, ↓reduceIte, reduceCtorEq, Nat.reduceEqDiff, Nat.reduceBEq, Nat.reduceAdd, Nat.reduceSub, Nat.reduceMul, Nat.reduceLT, Nat.reduceLeDiff, Nat.reduceBNe, Int.reduceBEq, Int.reduceBNe, Int.reduceLT, Int.reduceLE, t0, t4, t3, hneg, hw, hu, hq, hz', hcs, hn, toB_bz, byteB_bz]
        omega
      · rw [if_neg hn]
        simp (maxSteps := 4000000) only [go_sem, ↓reduceIte, reduceCtorEq, Nat.reduceEqDiff, Nat.reduceBEq, Nat.reduceAdd, Nat.reduceSub, Nat.reduceMul, Nat.reduceLT, Nat.reduceLeDiff, Nat.reduceBNe, Int.reduceBEq, Int.reduceBNe, Int.reduceLT, Int.reduceLE, t0, t4, t3, hneg, hw, hu, hq, hz', hcs, hn, toB_bz, byteB_bz]
        omega
    · have hz' : (m.tdiv 10 == 0) = false := by rw [beq_eq_false_iff_ne]; exact hz
      have e := hsplit2 (by omega)
      simp (maxSteps := 4000000) only [go_sem, ↓reduceIte, reduceCtorEq, Nat.reduceEqDiff, Nat.reduceBEq, Nat.reduceAdd, Nat.reduceSub, Nat.reduceMul, Nat.reduceLT, Nat.reduceLeDiff, Nat.reduceBNe, Int.reduceBEq, Int.reduceBNe, Int.reduceLT, Int.reduceLE, t0, t4, t3, hneg, hw, hu, hq, hz', hcs, toB_bz, byteB_bz]
      refine ⟨by omega, by omega, by omega, (m.tdiv 10).natAbs, by omega, m.tdiv 10, c :: s, rfl, ⟨by omega, by omega⟩, e, Iff.rfl, ?_, ?_, ?_⟩ <;> (simp (maxSteps := 4000000) only [go_sem, ↓reduceIte, reduceCtorEq, Nat.reduceEqDiff, Nat.reduceBEq, Nat.reduceAdd, Nat.reduceSub, Nat.reduceMul, Nat.reduceLT, Nat.reduceLeDiff, Nat.reduceBNe, Int.reduceBEq, Int.reduceBNe, Int.reduceLT, Int.reduceLE, t0, t4, t3, hcs])
  · have hw : m.tmod 10 = ((m.natAbs % 10 : Nat) : Int) := by omega
    rw [hw] at hneg
    by_cases hz : m.tdiv 10 = 0
    · have hz' : (m.tdiv 10 == 0) = true := by rw [hz]; rfl
      have e := hfin (hsplit (by omega))
      rw [e]
      by_cases hn : n < 0
      · rw [if_pos hn]
        simp (maxSteps := 4000000) only [go_sem, ↓reduceIte, reduceCtorEq, Nat.reduceEqDiff, Nat.reduceBEq, Nat.reduceAdd, Nat.reduceSub, Nat.reduceMul, Nat.reduceLT, Nat.reduceLeDiff, Nat.reduceBNe, Int.reduceBEq, Int.reduceBNe, Int.reduceLT, Int.reduceLE, t0, t4, t3, hneg, hw, hu, hq, hz', hcs, hn, toB_bz, byteB_bz]
        omega
      · rw [if_neg hn]
        simp (maxSteps := 4000000) only [go_sem, ↓reduceIte, reduceCtorEq, Nat.reduceEqDiff, Nat.reduceBEq, Nat.reduceAdd, Nat.reduceSub, Nat.reduceMul, Nat.reduceLT, Nat.reduceLeDiff, Nat.reduceBNe, Int.reduceBEq, Int.reduceBNe, Int.reduceLT, Int.reduceLE, t0, t4, t3, hneg, hw, hu, hq, hz', hcs, hn, toB_bz, byteB_bz]
        omega
    · have hz' : (m.tdiv 10 == 0) = false := by rw [beq_eq_false_iff_ne]; exact hz
      have e := hsplit2 (by omega)
      simp (maxSteps := 4000000) only [go_sem, ↓reduceIte, reduceCtorEq, Nat.reduceEqDiff, Nat.reduceBEq, Nat.reduceAdd, Nat.reduceSub, Nat.reduceMul, Nat.reduceLT, Nat.reduceLeDiff, Nat.reduceBNe, Int.reduceBEq, Int.reduceBNe, Int.reduceLT, Int.reduceLE, t0, t4, t3, hneg, hw, hu, hq, hz', hcs, toB_bz, byteB_bz]
      refine ⟨by omega, by omega, by omega, (m.tdiv 10).natAbs, by omega, m.tdiv 10, c :: s, rfl, ⟨by omega, by omega⟩, e, Iff.rfl, ?_, ?_, ?_⟩ <;> (simp (maxSteps := 4000000) only [go_sem, ↓reduceIte, reduceCtorEq, Nat.reduceEqDiff, Nat.reduceBEq, Nat.reduceAdd, Nat.reduceSub, Nat.reduceMul, Nat.reduceLT, Nat.reduceLeDiff, Nat.reduceBNe, Int.reduceBEq, Int.reduceBNe, Int.reduceLT, Int.reduceLE, t0, t4, t3, hcs])
/-! ### a text as a number -/
theorem udGo_nn : ∀ (l : List UInt8) (n m : Int), 0 ≤ n → udGo l n = some m → 0 ≤ m
  | [], n, m, h, e => by cases e; exact h
  | c :: l, n, m, h, e => by
    rw [udGo] at e
    split at e
    · cases e
    · split at e
      · cases e
      · exact udGo_nn l _ m (by omega) e
theorem udGo_app : ∀ (l : List UInt8) (c : UInt8) (n : Int), udGo (l ++ [c]) n = (udGo l n).bind fun m => udGo [c] m
  | [], c, n => rfl
  | x :: l, c, n => by
    rw [List.cons_append, udGo, udGo]
    split
    · rfl
    · split
      · rfl
      · exact udGo_app l c _
theorem dig_nat (d : Nat) (h : d < 10) : ((UInt8.ofNat (48 + d)).toNat : Int) = 48 + d := by
  rw [show (UInt8.ofNat (48 + d)).toNat = (48 + d) % 256 from UInt8.toNat_ofNat' ..]; omega
theorem udGo_dd : ∀ u : Nat, udGo (decDigits u) 0 = some (u : Int) := by
  intro u
  induction u using Nat.strongRecOn with
  | ind u ih =>
    by_cases h : u < 10
    · rw [dd_small u h, udGo, dig_nat u h, if_neg (by omega), if_neg (by omega), udGo]
      congr 1; omega
    · rw [dd_step u h, udGo_app, ih (u / 10) (by omega)]
      show udGo [UInt8.ofNat (48 + u % 10)] _ = _
      have hd : u % 10 < 10 := Nat.mod_lt _ (by decide)
      rw [udGo, dig_nat _ hd, if_neg (by omega), if_neg (by omega), udGo]
      congr 1; omega
theorem dd_head : ∀ u : Nat, 1 ≤ u → ∃ c l, decDigits u = c :: l ∧ c ≠ 48 := by
  intro u
  induction u using Nat.strongRecOn with
  | ind u ih =>
    intro h1
    by_cases h : u < 10
    · refine ⟨_, _, dd_small u h, fun e => ?_⟩
      have := dig_nat u h
      rw [e] at this
      have : ((48 : UInt8).toNat : Int) = 48 := rfl
      omega
    · obtain ⟨c, l, e, hc⟩ := ih (u / 10) (by omega) (by omega)
      exact ⟨c, l ++ [UInt8.ofNat (48 + u % 10)], by rw [dd_step u h, e]; rfl, hc⟩
theorem dd_grow : ∀ (l : List UInt8) (a : Nat) (m : Int), 1 ≤ a → udGo l (a : Int) = some m → decDigits m.toNat = decDigits a ++ l
  | [], a, m, h, e => by cases e; simp
  | c :: l, a, m, h, e => by
    rw [udGo] at e
    split at e
    · cases e
    · split at e
      · cases e
      · rename_i h1 h2
        have := dd_grow l (10 * a + (c.toNat - 48)) m (by omega) (by rw [← e]; congr 1; omega)
        rw [this, dd_step (10 * a + (c.toNat - 48)) (by omega), show (10 * a + (c.toNat - 48)) / 10 = a by omega, show (10 * a + (c.toNat - 48)) % 10 = c.toNat - 48 by omega, List.append_assoc]
        congr 1
        show [_] ++ l = c :: l
        rw [show 48 + (c.toNat - 48) = c.toNat by omega]
        simp
/-- digits without a nought ahead are those of their number -/
theorem dd_of {c : UInt8} {l : List UInt8} {m : Int} (e : udGo (c :: l) 0 = some m) (h0 : c ≠ 48 ∨ l = []) : decDigits m.toNat = c :: l := by
  rw [udGo] at e
  split at e
  · cases e
  · split at e
    · cases e
    · rename_i h1 h2
      by_cases hc : c = 48
      · subst hc
        rcases h0 with h | h
        · exact absurd rfl h
        · subst h; cases e; decide +kernel
      · have hcn : c.toNat ≠ 48 := fun h => hc (UInt8.toNat.inj (by rw [h]; rfl))
        have := dd_grow l (c.toNat - 48) m (by omega) (by rw [← e]; congr 1; omega)
        rw [this, dd_small _ (by omega), show 48 + (c.toNat - 48) = c.toNat by omega]
        simp
theorem nd_le : ∀ (k u : Nat), u < 10 ^ (k + 1) → nDigits u ≤ k + 1
  | 0, u, h => by rw [Lib.nDigits_small (by simpa using h)]; exact Nat.le_refl _
  | k + 1, u, h => by
    by_cases h1 : u < 10
    · rw [Lib.nDigits_small h1]; omega
    · have := nd_le k (u / 10) (by rw [Nat.pow_succ] at h; omega)
      rw [Lib.nDigits_big h1]; omega
theorem nd_ge : ∀ (k u : Nat), 10 ^ k ≤ u → k + 1 ≤ nDigits u
  | 0, u, h => Lib.nDigits_pos u
  | k + 1, u, h => by
    have h2 : 10 ^ k * 10 ≤ u := by rw [← Nat.pow_succ]; exact h
    have h3 : 1 ≤ 10 ^ k := Nat.one_le_pow _ _ (by decide)
    have := nd_ge k (u / 10) (by omega)
    rw [Lib.nDigits_big (by omega)]; omega
/-- what the document answers of a text -/
def rudF (s : ByteArray) : AV := if 9 < s.size then .tup [.int .i64 0, .bool false] else match udGo s.data.toList 0 with
  | some n => if itoa n = s.data.toList then .tup [.int .i64 n, .bool true] else .tup [.int .i64 0, .bool false]
  | none => .tup [.int .i64 0, .bool false]
theorem itoa_nn {n : Int} (h : 0 ≤ n) : itoa n = decDigits n.toNat := by unfold Lib.itoa; rw [if_neg (by omega)]
theorem udF_eq (s : ByteArray) : udF s = rudF s := by
  have hL : s.data.toList.length = s.size := by rw [Array.length_toList]; rfl
  unfold udF rudF
  by_cases h9 : 9 < s.size
  · rw [if_pos (.inr (.inl h9)), if_pos h9]
  · rw [if_neg h9]
    cases hl : s.data.toList with
    | nil =>
      rw [if_pos (.inl (by rw [← hL, hl]; rfl))]
      rw [udGo]
      simp only
      rw [if_neg (by rw [itoa_nn (by omega)]; decide +kernel)]
    | cons c l =>
      have hb : b0 s = c := by unfold b0; rw [hl]; rfl
      have hsz : s.size = l.length + 1 := by rw [← hL, hl]; rfl
      cases hu : udGo (c :: l) 0 with
      | none =>
        split
        · rfl
        · rfl
      | some n =>
        have hn := udGo_nn _ 0 n (by omega) hu
        simp only
        rw [itoa_nn hn]
        by_cases h0 : c = 48 ∧ 1 < s.size
        · rw [if_pos (.inr (.inr (by rw [hb]; exact h0))), if_neg]
          intro e
          by_cases hz : n.toNat = 0
          · rw [hz, dd_small 0 (by omega)] at e
            have h := congrArg List.length e
            rw [List.length_cons, List.length_cons, List.length_nil] at h
            omega
          · obtain ⟨c', l', e', hc'⟩ := dd_head n.toNat (by omega)
            rw [e'] at e
            cases e
            exact hc' h0.1
        · rw [if_neg (by rw [hb]; rintro (h | h | h); omega; exact h9 h; exact h0 h)]
          rw [if_pos (dd_of hu (by
            by_cases hc : c = 48
            · right
              have : ¬ 1 < s.size := fun h => h0 ⟨hc, h⟩
              exact List.eq_nil_of_length_eq_zero (by omega)
            · exact .inl hc))]
          rfl
/-- a number's digits as a number -/
theorem udF_dec (n : Int) (h : inI n) : udF (decS n) = if 0 ≤ n ∧ n ≤ 999999999 then .tup [.int .i64 n, .bool true] else .tup [.int .i64 0, .bool false] := by
  have hL : (decS n).data.toList = itoa n := by unfold decS; simp
  have hz : (decS n).size = (itoa n).length := decS_size n
  rw [udF_eq]
  unfold rudF
  rw [hL, hz]
  by_cases h0 : 0 ≤ n
  · rw [itoa_nn h0, Lib.decDigits_length, udGo_dd]
    simp only
    by_cases h9 : n ≤ 999999999
    · have := nd_le 8 n.toNat (by omega)
      rw [if_neg (by omega), if_pos (show itoa ((n.toNat : Nat) : Int) = decDigits n.toNat by rw [itoa_nn (by omega)]; rfl), if_pos (show 0 ≤ n ∧ n ≤ 999999999 from ⟨h0, h9⟩)]
      rw [show ((n.toNat : Nat) : Int) = n by omega]
    · have := nd_ge 9 n.toNat (by omega)
      rw [if_pos (by omega), if_neg (by omega)]
  · rw [if_neg (show ¬ (0 ≤ n ∧ n ≤ 999999999) by omega)]
    have e : itoa n = 45 :: decDigits n.natAbs := by unfold Lib.itoa; rw [if_pos (by omega)]
    have hnone : udGo (45 :: decDigits n.natAbs) 0 = none := by rw [udGo, if_pos (by decide)]
    rw [e, hnone]
    split <;> rfl
end Go.Proofs.YtkdbphhekpdmhaaDoor
