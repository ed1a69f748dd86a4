/-
  Part 11 of a proof: PkJ, Join, GaB.
-/
import Derived.Lib.ItoaLen
import Derived.Lib.AppendIntMem
import Derived.Test.YtelmejaiapdgnaaDoorGO10
namespace Go.Proofs.YtelmejaiapdgnaaDoor
attribute [local go_sem] ev0 ev1 ev2 ev3 ev4 evA stHOk.eq_1 stHOk.eq_2 stHSt.eq_1 stHSt.eq_2 okV valV fzV okF valF okBld valBld mxOk.eq_1 mxOk.eq_2 mxVal.eq_1 mxVal.eq_2 cellFit.eq_1 cellFit.eq_2 cellFit.eq_3 cellEq.eq_1 cellEq.eq_2 cellEq.eq_3 upd_at AV.flatB AV.flatBs binIok binIV binSok binSV cellsOk.eq_1 cellsOk.eq_2 cellsVal.eq_1 cellsVal.eq_2 objCells.eq_1 objCells.eq_2 objZ.eq_1 objZ.eq_2 objProt.eq_1 objProt.eq_2 oneObj ptrOk.eq_1 ptrOk.eq_2 ptrOk.eq_3 ptrCells.eq_1 ptrCells.eq_2 ptrCells.eq_3 lenOk.eq_1 lenOk.eq_2 lenOk.eq_3 lenOk.eq_4 lenVal.eq_1 lenVal.eq_2 lenVal.eq_3 lenVal.eq_4 faOk.eq_1 faOk.eq_2 faOk.eq_3 faVal.eq_1 faVal.eq_2 faVal.eq_3 iaOk.eq_1 iaOk.eq_2 iaOk.eq_3 iaVal.eq_1 iaVal.eq_2 iaVal.eq_3 slcLen.eq_1 slcLen.eq_2 slcLen.eq_3 slcLen.eq_4 bdOk.eq_1 bdOk.eq_2 bdVal.eq_1 bdVal.eq_2 slcOk.eq_1 slcOk.eq_2 slcOk.eq_3 slcOk.eq_4 slcVal.eq_1 slcVal.eq_2 slcVal.eq_3 slcVal.eq_4 slcFz.eq_1 slcFz.eq_2 loK.eq_1 loK.eq_2 loK.eq_3 rsVal.eq_1 rsVal.eq_2 rsVal.eq_3 byOk.eq_1 byOk.eq_2 byOk.eq_3 byOk.eq_4 byOk.eq_5 byOk.eq_6 byOk.eq_7 byOk.eq_8 byVal.eq_1 byVal.eq_2 byVal.eq_3 byFz.eq_1 byFz.eq_2 byFz.eq_3 byOks byVals byFzs allOne resSt.eq_1 resSt.eq_2 resName.eq_1 resName.eq_2 stOk.eq_1 stOk.eq_2 stArr.eq_1 stArr.eq_2 stSt.eq_1 stSt.eq_2 AV.patch nameOk_none gB.eq_1 gB.eq_2 gB.eq_3 gIs.eq_1 gIs.eq_2 gIs.eq_3 retV resV resVs evalV cellsV St.byval List.getD_cons_zero List.getD_cons_succ List.getD_nil List.map_cons List.map_nil List.length_cons List.length_nil List.take_succ_cons List.take_zero List.drop_succ_cons List.drop_zero List.headD_cons List.set_cons_zero List.append_nil List.nil_append List.cons_append List.contains_cons List.contains_nil List.elem_cons List.elem_nil List.all_cons List.all_nil List.getElem?_cons_zero List.getElem?_cons_succ List.filterMap_cons List.filterMap_nil Option.isSome_some Option.isSome_none Option.map_some Option.map_none Option.some.injEq AV.int.injEq AV.bool.injEq AV.str.injEq AV.tup.injEq AV.agg.injEq AV.sl.injEq List.cons.injEq Bool.false_eq_true Bool.true_eq_false Bool.not_true Bool.not_false Bool.and_true Bool.true_and Bool.or_false Bool.or_true Bool.false_or Bool.true_or Bool.or_self Bool.and_self Bool.not_eq_true' Bool.not_eq_false' Bool.not_not beq_self_eq_true true_and and_true false_and and_false and_self not_true_eq_false not_false_eq_true forall_const true_implies false_implies implies_true imp_self Nat.lt_add_one Nat.le_refl Nat.zero_le Nat.add_zero Nat.zero_add decide_true decide_false decide_eq_true_eq decide_eq_false_iff_not exists_eq_left exists_eq_left' ge_iff_le gt_iff_lt ite_branch ite_branch' nilOk.eq_1 nilOk.eq_2 nilMay.eq_1 nilMay.eq_2 AV.isSl.eq_1 objTy'.eq_1 objTy'.eq_2 apSt.eq_1 apArr.eq_1 apArr.eq_2 apTwo.eq_1 apTwo.eq_2 apSt2.eq_1 apArr2.eq_1 apArr2.eq_2 slOf.eq_1 fitsV List.mem_cons List.not_mem_nil Bool.false_and Bool.and_false primOk.eq_1 primOk.eq_2 primOk.eq_3 primOk.eq_4 primOk.eq_5 primVal.eq_1 primVal.eq_2 primVal.eq_3 primVal.eq_4 primVal.eq_5 mOk.eq_1 mOk.eq_2 mVal.eq_1 mVal.eq_2 mFz.eq_1 mFz.eq_2 mOks mVals mFzs mCalOk.eq_1 mCalOk.eq_2 mFn.eq_1 mFn.eq_2 mArgs.eq_1 mArgs.eq_2 ckOk.eq_1 ckOk.eq_2 cloOk.eq_1 ptrAt.eq_1 sh.eq_1 sh.eq_2 sh.eq_3 sh.eq_4 sh.eq_5 sh.eq_6 retM shH_small evM entOk.eq_1 entOk.eq_2 ents.eq_1 ents.eq_2 kI.eq_1 mpOk.eq_1 mpR.eq_1 lkV.eq_1 lkV.eq_2 remp.eq_2 evP pvOk.eq_1 pvOk.eq_2 pvVal.eq_1 pvVal.eq_2 plOk.eq_1 plOk.eq_2 plOk.eq_3 plV.eq_1 plV.eq_2 plF.eq_1 plF.eq_2 plVal.eq_1 plVal.eq_2 plFz.eq_1 plFz.eq_2 lpOk.eq_1 lpOk.eq_2 lpVal.eq_1 lpVal.eq_2 lpFz.eq_1 lpFz.eq_2 stpOk.eq_1 stpOk.eq_2 stpSt.eq_1 stpSt.eq_2 stpArr.eq_1 keepS.eq_1 keepS.eq_2
section
/-
  Layer 6: a number's digits, a text as a number, and the law PackNumbers.
-/
open Go.RowKit
set_option linter.unusedVariables false
set_option linter.unusedSimpArgs false
set_option maxRecDepth 100000
attribute [local go_sem ↓] runOp headOp
/-! ### percolate/pack.Dec -/
def r_dec_0 : Reg := ⟨[], [⟨(.mv (.c (.str ⟨#[]⟩))), (some 2), none, [], []⟩], [], [], false⟩
def t_dec_1 : List ROp := [⟨(.mv (.t 0)), (some 3), none, [4], []⟩, ⟨(.callv (.c (.clo 30 [] [])) [(.t 3)]), (some 4), none, [], []⟩, ⟨(.mv (.t 4)), (some 2), none, [], []⟩]
def r_dec_1 : Reg := ⟨[], t_dec_1, [4], [], false⟩
def ir_dec : IR := (.seq (.reg r_dec_0)
  (.seq (.reg r_dec_1)
  .ret))
def res_dec : List RDesc := [(.tmp 2)]
theorem e_dec_0 (C : FuncId → List AV → AV → Prop) (σ : St) (K : St → Prop) : runReg C r_dec_0 σ K = runOps C [⟨(.mv (.c (.str ⟨#[]⟩))), (some 2), none, [], []⟩] (σ.kills []) K := rfl
theorem e_dec_1 (C : FuncId → List AV → AV → Prop) (σ : St) (K : St → Prop) : runReg C r_dec_1 σ K = runOps C t_dec_1 (σ.kills [4]) K := rfl
theorem fn_dec {args : List AV} {r : AV} (ha : args.length.ble Tryd.f24.ntmps = true) (h : run (AFn Tryd.prog) ir_dec (endQ res_dec r) (initSt args)) : AFn Tryd.prog 24 args r :=
  AFn.of_code (pv := false) (hint := fun _ => []) (c := Tryd.f24.body.getD .skip) (by kernel_rfl) (by kernel_rfl) Tryd.func24 (by kernel_rfl) (by kernel_rfl) (by kernel_rfl) (of_decide_eq_true (by kernel_rfl)) (Nat.le_of_ble_eq_true ha) (Nat.le_of_ble_eq_true (by kernel_rfl)) (run_ok h)
/-! ### percolate/percolateref06.Dec -/
def r_rDec_0 : Reg := ⟨[], [⟨(.mv (.c (.str ⟨#[]⟩))), (some 2), none, [], []⟩], [], [], false⟩
def r_rDec_1 : Reg := ⟨[], [⟨(.mv (.c (.str ⟨#[]⟩))), (some 3), none, [], []⟩], [], [], false⟩
def r_rDec_2 : Reg := ⟨[], [⟨(.mv (.t 0)), (some 6), none, [], []⟩, ⟨(.mv (.t 6)), (some 4), none, [], []⟩], [], [], false⟩
def t_rDec_3 : List ROp := [⟨(.mv (.t 4)), (some 7), none, [], []⟩, ⟨(.bin .rem (.t 7) (.c (.int .i64 10))), (some 8), none, [], []⟩, ⟨(.mv (.t 8)), (some 5), none, [], []⟩]
def r_rDec_3 : Reg := ⟨[], t_rDec_3, [], [], false⟩
def r_rDec_4 : Reg := ⟨[], [⟨(.mv (.t 5)), (some 9), none, [], []⟩, ⟨(.bin .lss (.t 9) (.c (.int .i64 0))), (some 10), none, [], []⟩], [], [], false⟩
def t_rDec_5 : List ROp := [⟨(.mv (.t 5)), (some 11), none, [], []⟩, ⟨(.un .neg (.t 11)), (some 12), none, [], []⟩, ⟨(.mv (.t 12)), (some 5), none, [], []⟩]
def r_rDec_5 : Reg := ⟨[], t_rDec_5, [], [], false⟩
def t_rDec_6 : List ROp := [⟨(.mv (.t 5)), (some 13), none, [16, 17], []⟩, ⟨(.bin .add (.c (.int .i64 48)) (.t 13)), (some 14), none, [16, 17], []⟩, ⟨(.conv .u8 (.t 14)), (some 15), none, [16, 17], []⟩, ⟨(.bsl 1 5 [(.t 15)]), (some 16), none, [17], []⟩, ⟨(.call 1 [(.t 16)]), (some 17), none, [], []⟩, ⟨(.mv (.t 3)), (some 18), none, [], []⟩, ⟨(.bin .add (.t 17) (.t 18)), (some 19), none, [], []⟩, ⟨(.mv (.t 19)), (some 3), none, [], []⟩]
def r_rDec_6 : Reg := ⟨[], t_rDec_6, [16, 17], [], false⟩
def t_rDec_7 : List ROp := [⟨(.mv (.t 4)), (some 20), none, [], []⟩, ⟨(.bin .quo (.t 20) (.c (.int .i64 10))), (some 21), none, [], []⟩, ⟨(.mv (.t 21)), (some 4), none, [], []⟩]
def r_rDec_7 : Reg := ⟨[], t_rDec_7, [], [], false⟩
def r_rDec_8 : Reg := ⟨[], [⟨(.mv (.t 4)), (some 22), none, [], []⟩, ⟨(.bin .eql (.t 22) (.c (.int .i64 0))), (some 23), none, [], []⟩], [], [], false⟩
def r_rDec_l9 : IR := (.block 1 (.seq (.reg r_rDec_3)
  (.seq (.seq (.reg r_rDec_4)
  (.cond (.t 10) (.reg r_rDec_5)
  .skip))
  (.seq (.reg r_rDec_6)
  (.seq (.reg r_rDec_7)
  (.seq (.reg r_rDec_8)
  (.cond (.t 23) (.exit 0)
  .skip)))))))
def r_rDec_10 : Reg := ⟨[], [⟨(.mv (.t 0)), (some 24), none, [], []⟩, ⟨(.bin .lss (.t 24) (.c (.int .i64 0))), (some 25), none, [], []⟩], [], [], false⟩
def t_rDec_11 : List ROp := [⟨(.mv (.t 3)), (some 26), none, [], []⟩, ⟨(.bin .add (.c (.str ⟨#[45]⟩)) (.t 26)), (some 27), none, [], []⟩, ⟨(.mv (.t 27)), (some 2), none, [], []⟩]
def r_rDec_11 : Reg := ⟨[], t_rDec_11, [], [], false⟩
def r_rDec_12 : Reg := ⟨[], [⟨(.mv (.t 3)), (some 28), none, [], []⟩, ⟨(.mv (.t 28)), (some 2), none, [], []⟩], [], [], false⟩
def ir_rDec : IR := (.seq (.reg r_rDec_0)
  (.seq (.reg r_rDec_1)
  (.seq (.reg r_rDec_2)
  (.seq (.block 0 (.loop r_rDec_l9))
  (.seq (.seq (.reg r_rDec_10)
  (.cond (.t 25) (.seq (.reg r_rDec_11)
  .ret)
  .skip))
  (.seq (.reg r_rDec_12)
  .ret))))))
def res_rDec : List RDesc := [(.tmp 2)]
theorem e_rDec_0 (C : FuncId → List AV → AV → Prop) (σ : St) (K : St → Prop) : runReg C r_rDec_0 σ K = runOps C [⟨(.mv (.c (.str ⟨#[]⟩))), (some 2), none, [], []⟩] (σ.kills []) K := rfl
theorem e_rDec_1 (C : FuncId → List AV → AV → Prop) (σ : St) (K : St → Prop) : runReg C r_rDec_1 σ K = runOps C [⟨(.mv (.c (.str ⟨#[]⟩))), (some 3), none, [], []⟩] (σ.kills []) K := rfl
theorem e_rDec_2 (C : FuncId → List AV → AV → Prop) (σ : St) (K : St → Prop) : runReg C r_rDec_2 σ K = runOps C [⟨(.mv (.t 0)), (some 6), none, [], []⟩, ⟨(.mv (.t 6)), (some 4), none, [], []⟩] (σ.kills []) K := rfl
theorem e_rDec_3 (C : FuncId → List AV → AV → Prop) (σ : St) (K : St → Prop) : runReg C r_rDec_3 σ K = runOps C t_rDec_3 (σ.kills []) K := rfl
theorem e_rDec_4 (C : FuncId → List AV → AV → Prop) (σ : St) (K : St → Prop) : runReg C r_rDec_4 σ K = runOps C [⟨(.mv (.t 5)), (some 9), none, [], []⟩, ⟨(.bin .lss (.t 9) (.c (.int .i64 0))), (some 10), none, [], []⟩] (σ.kills []) K := rfl
theorem e_rDec_5 (C : FuncId → List AV → AV → Prop) (σ : St) (K : St → Prop) : runReg C r_rDec_5 σ K = runOps C t_rDec_5 (σ.kills []) K := rfl
theorem e_rDec_6 (C : FuncId → List AV → AV → Prop) (σ : St) (K : St → Prop) : runReg C r_rDec_6 σ K = runOps C t_rDec_6 (σ.kills [16, 17]) K := rfl
theorem e_rDec_7 (C : FuncId → List AV → AV → Prop) (σ : St) (K : St → Prop) : runReg C r_rDec_7 σ K = runOps C t_rDec_7 (σ.kills []) K := rfl
theorem e_rDec_8 (C : FuncId → List AV → AV → Prop) (σ : St) (K : St → Prop) : runReg C r_rDec_8 σ K = runOps C [⟨(.mv (.t 4)), (some 22), none, [], []⟩, ⟨(.bin .eql (.t 22) (.c (.int .i64 0))), (some 23), none, [], []⟩] (σ.kills []) K := rfl
theorem e_rDec_10 (C : FuncId → List AV → AV → Prop) (σ : St) (K : St → Prop) : runReg C r_rDec_10 σ K = runOps C [⟨(.mv (.t 0)), (some 24), none, [], []⟩, ⟨(.bin .lss (.t 24) (.c (.int .i64 0))), (some 25), none, [], []⟩] (σ.kills []) K := rfl
theorem e_rDec_11 (C : FuncId → List AV → AV → Prop) (σ : St) (K : St → Prop) : runReg C r_rDec_11 σ K = runOps C t_rDec_11 (σ.kills []) K := rfl
theorem e_rDec_12 (C : FuncId → List AV → AV → Prop) (σ : St) (K : St → Prop) : runReg C r_rDec_12 σ K = runOps C [⟨(.mv (.t 3)), (some 28), none, [], []⟩, ⟨(.mv (.t 28)), (some 2), none, [], []⟩] (σ.kills []) K := rfl
theorem fn_rDec {args : List AV} {r : AV} (ha : args.length.ble Tryd.f26.ntmps = true) (h : run (AFn Tryd.prog) ir_rDec (endQ res_rDec r) (initSt args)) : AFn Tryd.prog 26 args r :=
  AFn.of_code (pv := false) (hint := fun _ => []) (c := Tryd.f26.body.getD .skip) (by kernel_rfl) (by kernel_rfl) Tryd.func26 (by kernel_rfl) (by kernel_rfl) (by kernel_rfl) (of_decide_eq_true (by kernel_rfl)) (Nat.le_of_ble_eq_true ha) (Nat.le_of_ble_eq_true (by kernel_rfl)) (run_ok h)
attribute [local go_sem ↓] ir_dec
attribute [local go_sem] res_dec e_dec_0 e_dec_1 t_dec_1
attribute [local go_sem ↓] ir_rDec
attribute [local go_sem] res_rDec e_rDec_0 e_rDec_1 e_rDec_2 e_rDec_3 t_rDec_3 e_rDec_4 e_rDec_5 t_rDec_5 e_rDec_6 t_rDec_6 e_rDec_7 t_rDec_7 e_rDec_8 e_rDec_10 e_rDec_11 t_rDec_11 e_rDec_12
def decS (n : Int) : ByteArray := ⟨(Lib.itoa n).toArray⟩
theorem decS_size (n : Int) : (decS n).size = (Lib.itoa n).length := rfl
def inI (n : Int) : Prop := -9223372036854775808 ≤ n ∧ n ≤ 9223372036854775807
theorem itoa_ok (n : Int) (h : inI n) : AFn Tryd.prog 30 [.int .i64 n] (.str (decS n)) :=
  .flat1 (by kernel_rfl) int_flat (fun _ _ _ => .str _) fun w hG => (Tryd.strconv_Itoa n h.1 h.2 w hG.2).mono fun e w' ⟨he, k, os, hw⟩ => by
    subst hw
    exact ⟨he, Lib.below_grow _ _ (Nat.le_refl _) _ _⟩
theorem dec_ok (n : Int) (h : inI n) : AFn Tryd.prog 24 [.int .i64 n] (.str (decS n)) := by
  refine fn_dec rfl ?_
  simp (maxSteps := 4000000) only [go_sem, ↓reduceIte, reduceCtorEq, Nat.reduceEqDiff, Nat.reduceBEq, Nat.reduceAdd, Nat.reduceSub, Nat.reduceMul, Nat.reduceLT, Nat.reduceLeDiff, Nat.reduceBNe, Int.reduceBEq, Int.reduceBNe, Int.reduceLT, Int.reduceLE]
  (first | refine calling (itoa_ok n h) ?_ | refine callingH (itoa_ok n h) ?_)
  simp (maxSteps := 4000000) only [go_sem, ↓reduceIte, reduceCtorEq, Nat.reduceEqDiff, Nat.reduceBEq, Nat.reduceAdd, Nat.reduceSub, Nat.reduceMul, Nat.reduceLT, Nat.reduceLeDiff, Nat.reduceBNe, Int.reduceBEq, Int.reduceBNe, Int.reduceLT, Int.reduceLE]
/-! ### digits -/
open Lib (decDigits itoa nDigits)
theorem dd_step (u : Nat) (h : ¬ u < 10) : decDigits u = decDigits (u / 10) ++ [UInt8.ofNat (48 + u % 10)] := by
  rw [Lib.decDigits, dif_neg h]
theorem dd_small (u : Nat) (h : u < 10) : decDigits u = [UInt8.ofNat (48 + u)] := Lib.decDigits_one h
def rdInv (n : Int) (k : Nat) (σ : St) : Prop :=
  ∃ (m : Int) (s : List UInt8), k = m.natAbs ∧ inI m ∧ decDigits n.natAbs = decDigits m.natAbs ++ s ∧ (n < 0 ↔ n < 0) ∧ σ.T 0 = .int .i64 n ∧ σ.T 4 = .int .i64 m ∧ σ.T 3 = .str (wb s)
theorem u8_dig (d : Nat) (h : d < 10) : IntKind.u8.wrap (IntKind.i64.wrap (48 + (d : Int))) = ((UInt8.ofNat (48 + d)).toNat : Int) := by
  rw [IntWalk.i64_in _ (by omega), show (UInt8.ofNat (48 + d)).toNat = (48 + d) % 256 from UInt8.toNat_ofNat' ..]
  simp [IntKind.wrap, IntKind.signed, IntKind.bits]
theorem rDec_ok (n : Int) (h : inI n) : AFn Tryd.prog 26 [.int .i64 n] (.str (decS n)) := by
  refine fn_rDec rfl ?_
  simp (maxSteps := 4000000) only [go_sem, ↓reduceIte, reduceCtorEq, Nat.reduceEqDiff, Nat.reduceBEq, Nat.reduceAdd, Nat.reduceSub, Nat.reduceMul, Nat.reduceLT, Nat.reduceLeDiff, Nat.reduceBNe, Int.reduceBEq, Int.reduceBNe, Int.reduceLT, Int.reduceLE]
  refine run_loop (rdInv n) (k := n.natAbs) ⟨n, [], rfl, h, by simp, Iff.rfl, ?_, ?_, ?_⟩ ?_
  · simp (maxSteps := 4000000) only [go_sem, ↓reduceIte, reduceCtorEq, Nat.reduceEqDiff, Nat.reduceBEq, Nat.reduceAdd, Nat.reduceSub, Nat.reduceMul, Nat.reduceLT, Nat.reduceLeDiff, Nat.reduceBNe, Int.reduceBEq, Int.reduceBNe, Int.reduceLT, Int.reduceLE]
  · simp (maxSteps := 4000000) only [go_sem, ↓reduceIte, reduceCtorEq, Nat.reduceEqDiff, Nat.reduceBEq, Nat.reduceAdd, Nat.reduceSub, Nat.reduceMul, Nat.reduceLT, Nat.reduceLeDiff, Nat.reduceBNe, Int.reduceBEq, Int.reduceBNe, Int.reduceLT, Int.reduceLE]
  · simp (maxSteps := 4000000) only [go_sem, ↓reduceIte, reduceCtorEq, Nat.reduceEqDiff, Nat.reduceBEq, Nat.reduceAdd, Nat.reduceSub, Nat.reduceMul, Nat.reduceLT, Nat.reduceLeDiff, Nat.reduceBNe, Int.reduceBEq, Int.reduceBNe, Int.reduceLT, Int.reduceLE]
    rfl
  rintro k σ ⟨m, s, rfl, hm, hds, -, t0, t4, t3⟩
  simp only [r_rDec_l9]
  obtain ⟨hm0, hm1⟩ := hm
  have hlen : s.length ≤ 21 := by
    have h1 := congrArg List.length hds
    have h2 := Lib.itoa_length_le n h.1 h.2
    have h3 : (decDigits n.natAbs).length ≤ (itoa n).length := by
      unfold Lib.itoa
      split
      · simp
      · rename_i hn
        rw [show n.natAbs = n.toNat by omega]; exact Nat.le_refl _
    rw [List.length_append] at h1
    omega
  have hd : m.natAbs % 10 < 10 := Nat.mod_lt _ (by decide)
  have hqa : (m.tdiv 10).natAbs = m.natAbs / 10 := by
    rw [Int.natAbs_tdiv]; rfl
  have hta : (m.tmod 10).natAbs = m.natAbs % 10 := by
    rw [Int.natAbs_tmod]; rfl
  have hq : IntKind.i64.wrap (m.tdiv 10) = m.tdiv 10 := IntWalk.i64_in _ (by omega)
  have h45 : #[(45 : UInt8)].size = 1 := rfl
  have hu := u8_dig (m.natAbs % 10) hd
  obtain ⟨c, hc⟩ : ∃ c, UInt8.ofNat (48 + m.natAbs % 10) = c := ⟨_, rfl⟩
  rw [hc] at hu
  have hcat : ∀ x : ByteArray, x = ⟨#[c]⟩ → x ++ wb s = wb (c :: s) := fun x hx => by
    subst hx
    apply ba_ext
    rw [ByteArray.data_append, Array.toList_append]; rfl
  have hcs := hcat _ rfl
  have hwc : (wb (c :: s)).size = s.length + 1 := rfl
  have hws : (wb s).size = s.length := rfl
  have s1 : #[c].size = 1 := rfl
  have hsplit : m.natAbs < 10 → decDigits n.natAbs = c :: s := fun hlt => by
    rw [hds, dd_small _ hlt, ← hc, Nat.mod_eq_of_lt hlt]; rfl
  have hsplit2 : ¬ m.natAbs < 10 → decDigits n.natAbs = decDigits (m.tdiv 10).natAbs ++ (c :: s) := fun hge => by
    rw [hds, dd_step _ hge, hqa, hc, List.append_assoc]; rfl
  have hfin : decDigits n.natAbs = c :: s → decS n = if n < 0 then (⟨#[45]⟩ : ByteArray) ++ wb (c :: s) else wb (c :: s) := fun e => by
    apply ba_ext
    unfold decS Lib.itoa
    by_cases hn : n < 0
    · rw [if_pos hn, if_pos hn, ByteArray.data_append, Array.toList_append, e]; rfl
    · rw [if_neg hn, if_neg hn, show n.toNat = n.natAbs by omega, e]; rfl
  by_cases hneg : m.tmod 10 < 0
  · have hw : IntKind.i64.wrap (0 - m.tmod 10) = ((m.natAbs % 10 : Nat) : Int) := by
      rw [IntWalk.i64_in _ (by omega)]; omega
    by_cases hz : m.tdiv 10 = 0
    · have hz' : (m.tdiv 10 == 0) = true := by rw [hz]; rfl
      have e := hfin (hsplit (by omega))
      rw [e]
      by_cases hn : n < 0
      · rw [if_pos hn]
        simp (maxSteps := 4000000) only [go_sem, ↓reduceIte, reduceCtorEq, Nat.reduceEqDiff, Nat.reduceBEq, Nat.reduceAdd, Nat.reduceSub, Nat.reduceMul, Nat.reduceLT, Nat.reduceLeDiff, Nat.reduceBNe, Int.reduceBEq, Int.reduceBNe, Int.reduceLT, Int.reduceLE, t0, t4, t3, hneg, hw, hu, hq, hz', hcs, hn, toB_bz, byteB_bz]
        omega
      · rw [if_neg hn]
        simp (maxSteps := 4000000) only [go_sem, ↓reduceIte, reduceCtorEq, Nat.reduceEqDiff, Nat.reduceBEq, Nat.reduceAdd, Nat.reduceSub, Nat.reduceMul, Nat.reduceLT, Nat.reduceLeDiff, Nat.reduceBNe, Int.reduceBEq, Int.reduceBNe, Int.reduceLT, Int.reduceLE, t0, t4, t3, hneg, hw, hu, hq, hz', hcs, hn, toB_bz, byteB_bz]
        omega
    · have hz' : (m.tdiv 10 == 0) = false := by rw [beq_eq_false_iff_ne]; exact hz
      have e := hsplit2 (by omega)
      simp (maxSteps := 4000000) only [go_sem, ↓reduceIte, reduceCtorEq, Nat.reduceEqDiff, Nat.reduceBEq, Nat.reduceAdd, Nat.reduceSub, Nat.reduceMul, Nat.reduceLT, Nat.reduceLeDiff, Nat.reduceBNe, Int.reduceBEq, Int.reduceBNe, Int.reduceLT, Int.reduceLE, t0, t4, t3, hneg, hw, hu, hq, hz', hcs, toB_bz, byteB_bz]
      refine ⟨by omega, by omega, by omega, (m.tdiv 10).natAbs, by omega, m.tdiv 10, c :: s, rfl, ⟨by omega, by omega⟩, e, Iff.rfl, ?_, ?_, ?_⟩ <;> (simp (maxSteps := 4000000) only [go_sem, ↓reduceIte, reduceCtorEq, Nat.reduceEqDiff, Nat.reduceBEq, Nat.reduceAdd, Nat.reduceSub, Nat.reduceMul, Nat.reduceLT, Nat.reduceLeDiff, Nat.reduceBNe, Int.reduceBEq, Int.reduceBNe, Int.reduceLT, Int.reduceLE, t0, t4, t3, hcs])
  · have hw : m.tmod 10 = ((m.natAbs % 10 : Nat) : Int) := by omega
    rw [hw] at hneg
    by_cases hz : m.tdiv 10 = 0
    · have hz' : (m.tdiv 10 == 0) = true := by rw [hz]; rfl
      have e := hfin (hsplit (by omega))
      rw [e]
      by_cases hn : n < 0
      · rw [if_pos hn]
        simp (maxSteps := 4000000) only [go_sem, ↓reduceIte, reduceCtorEq, Nat.reduceEqDiff, Nat.reduceBEq, Nat.reduceAdd, Nat.reduceSub, Nat.reduceMul, Nat.reduceLT, Nat.reduceLeDiff, Nat.reduceBNe, Int.reduceBEq, Int.reduceBNe, Int.reduceLT, Int.reduceLE, t0, t4, t3, hneg, hw, hu, hq, hz', hcs, hn, toB_bz, byteB_bz]
        omega
      · rw [if_neg hn]
        simp (maxSteps := 4000000) only [go_sem, ↓reduceIte, reduceCtorEq, Nat.reduceEqDiff, Nat.reduceBEq, Nat.reduceAdd, Nat.reduceSub, Nat.reduceMul, Nat.reduceLT, Nat.reduceLeDiff, Nat.reduceBNe, Int.reduceBEq, Int.reduceBNe, Int.reduceLT, Int.reduceLE, t0, t4, t3, hneg, hw, hu, hq, hz', hcs, hn, toB_bz, byteB_bz]
        omega
    · have hz' : (m.tdiv 10 == 0) = false := by rw [beq_eq_false_iff_ne]; exact hz
      have e := hsplit2 (by omega)
      simp (maxSteps := 4000000) only [go_sem, ↓reduceIte, reduceCtorEq, Nat.reduceEqDiff, Nat.reduceBEq, Nat.reduceAdd, Nat.reduceSub, Nat.reduceMul, Nat.reduceLT, Nat.reduceLeDiff, Nat.reduceBNe, Int.reduceBEq, Int.reduceBNe, Int.reduceLT, Int.reduceLE, t0, t4, t3, hneg, hw, hu, hq, hz', hcs, toB_bz, byteB_bz]
      refine ⟨by omega, by omega, by omega, (m.tdiv 10).natAbs, by omega, m.tdiv 10, c :: s, rfl, ⟨by omega, by omega⟩, e, Iff.rfl, ?_, ?_, ?_⟩ <;> (simp (maxSteps := 4000000) only [go_sem, ↓reduceIte, reduceCtorEq, Nat.reduceEqDiff, Nat.reduceBEq, Nat.reduceAdd, Nat.reduceSub, Nat.reduceMul, Nat.reduceLT, Nat.reduceLeDiff, Nat.reduceBNe, Int.reduceBEq, Int.reduceBNe, Int.reduceLT, Int.reduceLE, t0, t4, t3, hcs])
/-! ### a text as a number -/
end
section
/-
  Words with blanks between them: the library's Join; how long words are.
-/
open Go.RowKit
set_option linter.unusedVariables false
set_option linter.unusedSimpArgs false
set_option maxRecDepth 100000
def joinB (l : List ByteArray) (sep : ByteArray) : ByteArray := ⟨(Lib.join (l.map (·.data.toList)) sep.data.toList).toArray⟩
theorem join_ok (l : List ByteArray) (sep : ByteArray) (hl : l.length ≤ 140737488355328) (hj : (Lib.join (l.map (·.data.toList)) sep.data.toList).length ≤ 140737488355328) : AFn Tryd.prog 25 [.sl (l.map .str), .str sep] (.str (joinB l sep)) := by
  refine ⟨by kernel_rfl, fun w Pr vs hG hPr hlen hvs => ?_⟩
  obtain ⟨a, b, rfl⟩ : ∃ a b, vs = [a, b] := by
    match vs, hlen with
    | [a, b], _ => exact ⟨a, b, rfl⟩
  have h1 := hvs 0 _ a rfl rfl
  have h2 := hvs 1 _ b rfl rfl
  obtain rfl := h2.str_of
  have fin : ∀ {v : Value}, (Calls Tryd.prog 25 #[v, .string sep] w fun e w' => e = .returned (.string (joinB l sep)) ∧ Below w.heap.size w w') → Calls Tryd.prog 25 [v, .string sep].toArray w fun e w' => ∃ u, e = .returned u ∧ Below w.heap.size w w' ∧ RR (fun b o => Pr b o ∨ w.heap.size ≤ b) w.heap.size w' (.str (joinB l sep)) u := fun hc =>
    hc.mono fun e w' ⟨he, hb⟩ => ⟨_, he, hb, .str _⟩
  generalize hq : l.map AV.str = q at h1
  cases h1 with
  | sl _ A cap z u hcap hmax hA h =>
    subst hq
    rw [List.length_map] at hcap hA ⊢
    refine fin ?_
    by_cases h0 : l.length = 0
    · have e0 : l = [] := List.length_eq_zero_iff.1 h0
      subst e0
      refine (Tryd.strings_Join_none A cap sep w).mono fun e w' ⟨he, hw⟩ => ⟨?_, by rw [hw]; exact Below.refl _ _⟩
      rw [he]; rfl
    · obtain ⟨b, off, rfl, hlies⟩ := hA (by omega)
      have hz : z = 1 := by
        obtain ⟨x, hx⟩ : ∃ x, l[0]? = some x := ⟨_, List.getElem?_eq_getElem (by omega)⟩
        exact (hlies.len (.str x) (List.mem_map.2 ⟨x, List.mem_of_getElem? hx, rfl⟩)).symm
      subst hz
      refine (Tryd.strings_Join b off cap l sep w (fun j x hx => ?_) hlies.lt hl hcap hj).mono fun e w' ⟨he, hb⟩ => ⟨he, hb⟩
      have hjl := (List.getElem?_eq_some_iff.1 hx).1
      have := (hlies.at_ j 0 (by rw [List.length_map]; exact hjl) (by omega)).2
      rw [Nat.mul_one, Nat.add_zero] at this
      rw [this]
      have hv := h j (.str x) 0 (.str x) (by rw [List.getElem?_map, hx]; rfl) rfl
      rw [hv.str_of]
/-- few short words, with blanks between them -/
theorem join_len (sep : List UInt8) : ∀ l : List (List UInt8), (Lib.join l sep).length ≤ (l.map fun x => x.length + sep.length).sum
  | [] => by simp [Lib.join_nil]
  | x :: r => by
    rw [Lib.join_cons]
    have : ∀ r : List (List UInt8), (Lib.joinTail sep r).length = (r.map fun x => x.length + sep.length).sum := by
      intro r
      induction r with
      | nil => rfl
      | cons y r ih =>
        show ((sep ++ y) ++ Lib.joinTail sep r).length = _
        rw [List.length_append, ih, List.length_append, List.map_cons, List.sum_cons]; omega
    rw [List.length_append, this, List.map_cons, List.sum_cons]; omega
end
section
/-
  A gauge as a line: the words that the code puts together: walked.
-/
open Go.RowKit
set_option linter.unusedVariables false
set_option linter.unusedSimpArgs false
set_option maxRecDepth 100000
attribute [local go_sem ↓] runOp headOp
/-! ### percolate/gauge.Line$1 -/
def t_addG_0 : List ROp := [⟨(.loadp 1 false (.t 2)), (some 7), none, [9], []⟩, ⟨(.mv (.t 0)), (some 8), none, [9], []⟩, ⟨(.bsl 1 9 [(.t 8)]), (some 9), none, [], []⟩, ⟨(.append 1 9 16 (.t 7) (.t 9)), (some 10), none, [], []⟩, ⟨(.storep 1 (.t 2) (.t 10)), none, none, [], []⟩]
def r_addG_0 : Reg := ⟨[], t_addG_0, [9], [], false⟩
def t_addG_1 : List ROp := [⟨(.mv (.t 1)), (some 11), none, [], []⟩, ⟨(.len false (.t 11)), (some 12), none, [], []⟩, ⟨(.mv (.c (.int .i64 0))), (some 13), none, [], []⟩]
def r_addG_1 : Reg := ⟨[], t_addG_1, [], [], false⟩
def r_addG_2 : Reg := ⟨[], [⟨(.bin .lss (.t 13) (.t 12)), (some 14), none, [], []⟩], [], [], false⟩
def t_addG_3 : List ROp := [⟨(.iaddr 1 (.t 11) (.t 13)), (some 15), none, [], []⟩, ⟨(.load 1 false (.t 15)), (some 16), none, [], []⟩, ⟨(.mv (.t 16)), (some 6), none, [], []⟩]
def r_addG_3 : Reg := ⟨[], t_addG_3, [], [], false⟩
def h_addG_4 : List ROp := [⟨(.loadp 1 false (.t 2)), (some 17), none, [19, 20], []⟩, ⟨(.mv (.t 6)), (some 18), none, [19, 20], []⟩, ⟨(.callv (.c (.clo 24 [] [])) [(.t 18)]), (some 19), none, [20], []⟩, ⟨(.bsl 1 9 [(.t 19)]), (some 20), none, [], []⟩]
def r_addG_4 : Reg := ⟨h_addG_4, [⟨(.append 1 9 16 (.t 17) (.t 20)), (some 21), none, [], []⟩, ⟨(.storep 1 (.t 2) (.t 21)), none, none, [], []⟩], [19, 20], [], true⟩
def r_addG_5 : Reg := ⟨[], [⟨(.bin .add (.t 13) (.c (.int .i64 1))), (some 22), none, [], []⟩, ⟨(.mv (.t 22)), (some 13), none, [], []⟩], [], [], false⟩
def r_addG_l6 : IR := (.seq (.reg r_addG_2)
  (.seq (.cond (.t 14) .skip
  (.exit 0))
  (.seq (.block 1 (.seq (.reg r_addG_3)
  (.reg r_addG_4)))
  (.reg r_addG_5))))
def ir_addG : IR := (.seq (.reg r_addG_0)
  (.seq (.reg r_addG_1)
  (.block 0 (.loop r_addG_l6))))
def res_addG : List RDesc := []
theorem e_addG_0 (C : FuncId → List AV → AV → Prop) (σ : St) (K : St → Prop) : runReg C r_addG_0 σ K = runOps C t_addG_0 (σ.kills [9]) K := rfl
theorem e_addG_1 (C : FuncId → List AV → AV → Prop) (σ : St) (K : St → Prop) : runReg C r_addG_1 σ K = runOps C t_addG_1 (σ.kills []) K := rfl
theorem e_addG_2 (C : FuncId → List AV → AV → Prop) (σ : St) (K : St → Prop) : runReg C r_addG_2 σ K = runOps C [⟨(.bin .lss (.t 13) (.t 12)), (some 14), none, [], []⟩] (σ.kills []) K := rfl
theorem e_addG_3 (C : FuncId → List AV → AV → Prop) (σ : St) (K : St → Prop) : runReg C r_addG_3 σ K = runOps C t_addG_3 (σ.kills []) K := rfl
theorem e_addG_4 (C : FuncId → List AV → AV → Prop) (σ : St) (K : St → Prop) : runReg C r_addG_4 σ K = runHead C [] [⟨(.append 1 9 16 (.t 17) (.t 20)), (some 21), none, [], []⟩, ⟨(.storep 1 (.t 2) (.t 21)), none, none, [], []⟩] h_addG_4 (σ.kills [19, 20]) K := rfl
theorem e_addG_5 (C : FuncId → List AV → AV → Prop) (σ : St) (K : St → Prop) : runReg C r_addG_5 σ K = runOps C [⟨(.bin .add (.t 13) (.c (.int .i64 1))), (some 22), none, [], []⟩, ⟨(.mv (.t 22)), (some 13), none, [], []⟩] (σ.kills []) K := rfl
theorem fng_addG {args : List AV} {S : GS} {res : AV} {R : GS → Prop} (ha : args.length.ble Tryd.f23.ntmps = true) (hag : args.all argG = true) (h : ∀ Hx, run (AFn Tryd.prog) ir_addG (endG res_addG res R Hx) (initG args S Hx)) : GFn Tryd.prog 23 args S res R :=
  GFn.of_code (pv := true) (hint := fun _ => []) (c := Tryd.f23.body.getD .skip) (by kernel_rfl) (by kernel_rfl) Tryd.func23 (by kernel_rfl) (by kernel_rfl) (by kernel_rfl) (of_decide_eq_true (by kernel_rfl)) (Nat.le_of_ble_eq_true ha) (Nat.le_of_ble_eq_true (by kernel_rfl)) hag (fun Hx => run_ok (h Hx))
attribute [local go_sem ↓] ir_addG
attribute [local go_sem] res_addG e_addG_0 t_addG_0 e_addG_1 t_addG_1 e_addG_2 e_addG_3 t_addG_3 e_addG_4 h_addG_4 e_addG_5
/-- the captured list of words -/
def ptsS (l : List ByteArray) (u : Value) : GS := ⟨⟨1, 29, [.cst u], 0⟩, [(0, 0, 0, l.length, u)], [(0, ⟨1, 9, l.map AV.str, 0⟩)]⟩
def ptsR (l : List ByteArray) (S : GS) : Prop := ∃ u : Value, u.oneCell' = true ∧ S = ptsS l u
def agI (Hx : Nat → Option Arr) (l : List ByteArray) (ns : List Int) (k : Nat) (σ : St) : Prop :=
  ∃ (i : Nat) (u : Value), i ≤ ns.length ∧ u.oneCell' = true ∧ k = ns.length - i ∧ σ.T 2 = .ptr 1000 0 0 ∧ σ.T 11 = .sl (ns.map (AV.int .i64)) ∧ σ.T 12 = .int .i64 ns.length ∧ σ.T 13 = .int .i64 i ∧
    σ.T 101000 = .vrs 500 0 (l ++ (ns.take i).map decS).length u ∧ σ.H 500 = some ⟨1, 9, (l ++ (ns.take i).map decS).map AV.str, 0⟩ ∧ σ.H 1000 = some ⟨1, 29, [.cst u], 0⟩ ∧
    (∀ s, s ∈ [501, 502, 503, 504, 505, 506, 507] → σ.H s = none) ∧ ∀ s, σ.H (s + 1001) = Hx (s + 1001)
set_option maxHeartbeats 8000000 in
theorem addG_ok (word : ByteArray) (ns : List Int) (l : List ByteArray) (u : Value) (hu : u.oneCell' = true) (hl : l.length ≤ 1000000) (hn : ns.length ≤ 1000000) (hi : ∀ x, x ∈ ns → inI x) :
    GFn Tryd.prog 23 [.str word, .sl (ns.map (AV.int .i64)), .ptr 1000 0 0] (ptsS l u) (.tup []) (ptsR (l ++ word :: ns.map decS)) := by
  refine fng_addG rfl rfl fun Hx => ?_
  unfold ptsS
  have tk : List.take l.length (l.map AV.str) = l.map AV.str := List.take_of_length_le (by simp)
  simp (maxSteps := 4000000) only [go_sem, ↓reduceIte, reduceCtorEq, Nat.reduceEqDiff, Nat.reduceBEq, Nat.reduceAdd, Nat.reduceSub, Nat.reduceMul, Nat.reduceLT, Nat.reduceLeDiff, Nat.reduceBNe, Int.reduceBEq, Int.reduceBNe, Int.reduceLT, Int.reduceLE, evG, evP, Nat.reduceMod, Nat.reduceDiv, Nat.reduceSub, Nat.reduceLeDiff, idxPrv, Option.isSome_some, Option.isSome_none, Option.getD_some, endG_ret, endG_normal, tk, List.length_map]
  refine ⟨⟨by omega, fun d hd => by (rcases hd with rfl | hd; · exact ⟨rfl, rfl⟩); cases hd⟩, ?_⟩
  intro u1 hu1
  have e0 : (l ++ [word]).map AV.str = l.map AV.str ++ [AV.str word] := List.map_append
  have e1 : (l ++ [word]).length = l.length + 1 := List.length_append
  refine run_loop (agI Hx (l ++ [word]) ns) (k := ns.length) ⟨0, u1, Nat.zero_le _, hu1, rfl, ?_, ?_, ?_, ?_, ?_, ?_, ?_, ?_, ?_⟩ ?_
  · simp (maxSteps := 4000000) only [go_sem, ↓reduceIte, reduceCtorEq, Nat.reduceEqDiff, Nat.reduceBEq, Nat.reduceAdd, Nat.reduceSub, Nat.reduceMul, Nat.reduceLT, Nat.reduceLeDiff, Nat.reduceBNe, Int.reduceBEq, Int.reduceBNe, Int.reduceLT, Int.reduceLE, evG, evP, Nat.reduceMod, Nat.reduceDiv, Nat.reduceSub, Nat.reduceLeDiff, idxPrv, Option.isSome_some, Option.isSome_none, Option.getD_some]
  · simp (maxSteps := 4000000) only [go_sem, ↓reduceIte, reduceCtorEq, Nat.reduceEqDiff, Nat.reduceBEq, Nat.reduceAdd, Nat.reduceSub, Nat.reduceMul, Nat.reduceLT, Nat.reduceLeDiff, Nat.reduceBNe, Int.reduceBEq, Int.reduceBNe, Int.reduceLT, Int.reduceLE, evG, evP, Nat.reduceMod, Nat.reduceDiv, Nat.reduceSub, Nat.reduceLeDiff, idxPrv, Option.isSome_some, Option.isSome_none, Option.getD_some]
  · simp (maxSteps := 4000000) only [go_sem, ↓reduceIte, reduceCtorEq, Nat.reduceEqDiff, Nat.reduceBEq, Nat.reduceAdd, Nat.reduceSub, Nat.reduceMul, Nat.reduceLT, Nat.reduceLeDiff, Nat.reduceBNe, Int.reduceBEq, Int.reduceBNe, Int.reduceLT, Int.reduceLE, evG, evP, Nat.reduceMod, Nat.reduceDiv, Nat.reduceSub, Nat.reduceLeDiff, idxPrv, Option.isSome_some, Option.isSome_none, Option.getD_some]
  · (simp (maxSteps := 4000000) only [go_sem, ↓reduceIte, reduceCtorEq, Nat.reduceEqDiff, Nat.reduceBEq, Nat.reduceAdd, Nat.reduceSub, Nat.reduceMul, Nat.reduceLT, Nat.reduceLeDiff, Nat.reduceBNe, Int.reduceBEq, Int.reduceBNe, Int.reduceLT, Int.reduceLE, evG, evP, Nat.reduceMod, Nat.reduceDiv, Nat.reduceSub, Nat.reduceLeDiff, idxPrv, Option.isSome_some, Option.isSome_none, Option.getD_some]) <;> rfl
  · simp (maxSteps := 4000000) only [go_sem, ↓reduceIte, reduceCtorEq, Nat.reduceEqDiff, Nat.reduceBEq, Nat.reduceAdd, Nat.reduceSub, Nat.reduceMul, Nat.reduceLT, Nat.reduceLeDiff, Nat.reduceBNe, Int.reduceBEq, Int.reduceBNe, Int.reduceLT, Int.reduceLE, evG, evP, Nat.reduceMod, Nat.reduceDiv, Nat.reduceSub, Nat.reduceLeDiff, idxPrv, Option.isSome_some, Option.isSome_none, Option.getD_some, List.take_zero, List.map_nil, List.append_nil, e1]
  · simp (maxSteps := 4000000) only [go_sem, ↓reduceIte, reduceCtorEq, Nat.reduceEqDiff, Nat.reduceBEq, Nat.reduceAdd, Nat.reduceSub, Nat.reduceMul, Nat.reduceLT, Nat.reduceLeDiff, Nat.reduceBNe, Int.reduceBEq, Int.reduceBNe, Int.reduceLT, Int.reduceLE, evG, evP, Nat.reduceMod, Nat.reduceDiv, Nat.reduceSub, Nat.reduceLeDiff, idxPrv, Option.isSome_some, Option.isSome_none, Option.getD_some, List.take_zero, List.map_nil, List.append_nil, e0]
  · simp (maxSteps := 4000000) only [go_sem, ↓reduceIte, reduceCtorEq, Nat.reduceEqDiff, Nat.reduceBEq, Nat.reduceAdd, Nat.reduceSub, Nat.reduceMul, Nat.reduceLT, Nat.reduceLeDiff, Nat.reduceBNe, Int.reduceBEq, Int.reduceBNe, Int.reduceLT, Int.reduceLE, evG, evP, Nat.reduceMod, Nat.reduceDiv, Nat.reduceSub, Nat.reduceLeDiff, idxPrv, Option.isSome_some, Option.isSome_none, Option.getD_some]
  · intro s hs
    simp only [List.mem_cons, List.not_mem_nil, or_false] at hs
    rcases hs with rfl | rfl | rfl | rfl | rfl | rfl | rfl <;> (simp (maxSteps := 4000000) only [go_sem, ↓reduceIte, reduceCtorEq, Nat.reduceEqDiff, Nat.reduceBEq, Nat.reduceAdd, Nat.reduceSub, Nat.reduceMul, Nat.reduceLT, Nat.reduceLeDiff, Nat.reduceBNe, Int.reduceBEq, Int.reduceBNe, Int.reduceLT, Int.reduceLE, evG, evP, Nat.reduceMod, Nat.reduceDiv, Nat.reduceSub, Nat.reduceLeDiff, idxPrv, Option.isSome_some, Option.isSome_none, Option.getD_some])
  · intro s
    have g1 : ¬ s + 1001 < 1000 := by omega
    have g2 : ¬ s + 1001 < 1001 := by omega
    simp (maxSteps := 4000000) only [go_sem, ↓reduceIte, reduceCtorEq, Nat.reduceEqDiff, Nat.reduceBEq, Nat.reduceAdd, Nat.reduceSub, Nat.reduceMul, Nat.reduceLT, Nat.reduceLeDiff, Nat.reduceBNe, Int.reduceBEq, Int.reduceBNe, Int.reduceLT, Int.reduceLE, evG, evP, Nat.reduceMod, Nat.reduceDiv, Nat.reduceSub, Nat.reduceLeDiff, idxPrv, Option.isSome_some, Option.isSome_none, Option.getD_some, g1, g2]
  rintro k σ ⟨i, u2, hi2, hu2, rfl, t2, t11, t12, t13, tg, h500, h1000, hno, hrest⟩
  simp only [r_addG_l6]
  by_cases hlt : i < ns.length
  case neg =>
    have hlt' : ¬ (i : Int) < (ns.length : Int) := by omega
    have et : ns.take i = ns := List.take_of_length_le (by omega)
    rw [et, List.append_assoc] at tg h500
    simp (maxSteps := 4000000) only [go_sem, ↓reduceIte, reduceCtorEq, Nat.reduceEqDiff, Nat.reduceBEq, Nat.reduceAdd, Nat.reduceSub, Nat.reduceMul, Nat.reduceLT, Nat.reduceLeDiff, Nat.reduceBNe, Int.reduceBEq, Int.reduceBNe, Int.reduceLT, Int.reduceLE, evG, evP, Nat.reduceMod, Nat.reduceDiv, Nat.reduceSub, Nat.reduceLeDiff, idxPrv, Option.isSome_some, Option.isSome_none, Option.getD_some, t12, t13, hlt', endG_ret, endG_normal, retG, finG]
    have e2 : l ++ ([word] ++ ns.map decS) = l ++ word :: ns.map decS := rfl
    rw [e2] at tg h500
    refine ⟨ptsS (l ++ word :: ns.map decS) u2, ⟨u2, hu2, rfl⟩, ⟨h1000, fun p hp => ?_, fun i hi => ?_⟩, hrest⟩
    · rw [List.mem_singleton.1 hp]
      refine ⟨by show 0 < 100; omega, ?_⟩
      simp (maxSteps := 4000000) only [go_sem, ↓reduceIte, reduceCtorEq, Nat.reduceEqDiff, Nat.reduceBEq, Nat.reduceAdd, Nat.reduceSub, Nat.reduceMul, Nat.reduceLT, Nat.reduceLeDiff, Nat.reduceBNe, Int.reduceBEq, Int.reduceBNe, Int.reduceLT, Int.reduceLE, evG, evP, Nat.reduceMod, Nat.reduceDiv, Nat.reduceSub, Nat.reduceLeDiff, idxPrv, Option.isSome_some, Option.isSome_none, Option.getD_some, tg]
    · simp only [List.mem_cons, List.not_mem_nil, or_false] at hi
      rcases hi with rfl | rfl | rfl | rfl | rfl | rfl | rfl | rfl
      · exact h500
      · exact hno 501 (by simp)
      · exact hno 502 (by simp)
      · exact hno 503 (by simp)
      · exact hno 504 (by simp)
      · exact hno 505 (by simp)
      · exact hno 506 (by simp)
      · exact hno 507 (by simp)
  have hlt' : (i : Int) < (ns.length : Int) := by omega
  obtain ⟨x, hx⟩ := get_lt hlt
  have hgx := at_map (f := AV.int .i64) hx
  have cd := dec_ok x (hi x (List.mem_of_getElem? hx))
  have hw := wrapS (j := i) (by omega)
  have etk : (ns.take (i + 1)).map decS = (ns.take i).map decS ++ [decS x] := by rw [List.take_add_one, hx, List.map_append]; rfl
  generalize hO : l ++ [word] ++ (ns.take i).map decS = out at *
  have hol : out.length = l.length + 1 + i := by
    rw [← hO]; simp only [List.length_append, List.length_cons, List.length_nil, List.length_map, List.length_take]; omega
  have ttk : List.take out.length (out.map AV.str) = out.map AV.str := List.take_of_length_le (by simp)
  have hO2 : l ++ [word] ++ (ns.take (i + 1)).map decS = out ++ [decS x] := by rw [etk, ← List.append_assoc, hO]
  have ho1 : (out ++ [decS x]).map AV.str = out.map AV.str ++ [AV.str (decS x)] := List.map_append
  have ho2 : (out ++ [decS x]).length = out.length + 1 := List.length_append
  (repeat (first | simp (maxSteps := 4000000) only [go_sem, ↓reduceIte, reduceCtorEq, Nat.reduceEqDiff, Nat.reduceBEq, Nat.reduceAdd, Nat.reduceSub, Nat.reduceMul, Nat.reduceLT, Nat.reduceLeDiff, Nat.reduceBNe, Int.reduceBEq, Int.reduceBNe, Int.reduceLT, Int.reduceLE, evG, evP, Nat.reduceMod, Nat.reduceDiv, Nat.reduceSub, Nat.reduceLeDiff, idxPrv, Option.isSome_some, Option.isSome_none, Option.getD_some, t2, t11, t12, t13, tg, h500, h1000, hlt', hgx, hlt, hw, ttk, List.length_map, Int.toNat_natCast] | refine calling (cd) ?_ | refine callingH (cd) ?_ | refine And.intro (by omega) ?_ | refine And.intro (fun d hd => by (repeat (rcases hd with rfl | hd; · exact ⟨rfl, rfl⟩)); cases hd) ?_))
  refine ⟨⟨by omega, fun d hd => by (rcases hd with rfl | hd; · exact ⟨rfl, rfl⟩); cases hd⟩, ?_⟩
  intro u3 hu3
  refine ⟨ns.length - (i + 1), by omega, i + 1, u3, by omega, hu3, rfl, ?_, ?_, ?_, ?_, ?_, ?_, ?_, ?_, ?_⟩
  · simp (maxSteps := 4000000) only [go_sem, ↓reduceIte, reduceCtorEq, Nat.reduceEqDiff, Nat.reduceBEq, Nat.reduceAdd, Nat.reduceSub, Nat.reduceMul, Nat.reduceLT, Nat.reduceLeDiff, Nat.reduceBNe, Int.reduceBEq, Int.reduceBNe, Int.reduceLT, Int.reduceLE, evG, evP, Nat.reduceMod, Nat.reduceDiv, Nat.reduceSub, Nat.reduceLeDiff, idxPrv, Option.isSome_some, Option.isSome_none, Option.getD_some, t2]
  · simp (maxSteps := 4000000) only [go_sem, ↓reduceIte, reduceCtorEq, Nat.reduceEqDiff, Nat.reduceBEq, Nat.reduceAdd, Nat.reduceSub, Nat.reduceMul, Nat.reduceLT, Nat.reduceLeDiff, Nat.reduceBNe, Int.reduceBEq, Int.reduceBNe, Int.reduceLT, Int.reduceLE, evG, evP, Nat.reduceMod, Nat.reduceDiv, Nat.reduceSub, Nat.reduceLeDiff, idxPrv, Option.isSome_some, Option.isSome_none, Option.getD_some, t11]
  · simp (maxSteps := 4000000) only [go_sem, ↓reduceIte, reduceCtorEq, Nat.reduceEqDiff, Nat.reduceBEq, Nat.reduceAdd, Nat.reduceSub, Nat.reduceMul, Nat.reduceLT, Nat.reduceLeDiff, Nat.reduceBNe, Int.reduceBEq, Int.reduceBNe, Int.reduceLT, Int.reduceLE, evG, evP, Nat.reduceMod, Nat.reduceDiv, Nat.reduceSub, Nat.reduceLeDiff, idxPrv, Option.isSome_some, Option.isSome_none, Option.getD_some, t12]
  · simp (maxSteps := 4000000) only [go_sem, ↓reduceIte, reduceCtorEq, Nat.reduceEqDiff, Nat.reduceBEq, Nat.reduceAdd, Nat.reduceSub, Nat.reduceMul, Nat.reduceLT, Nat.reduceLeDiff, Nat.reduceBNe, Int.reduceBEq, Int.reduceBNe, Int.reduceLT, Int.reduceLE, evG, evP, Nat.reduceMod, Nat.reduceDiv, Nat.reduceSub, Nat.reduceLeDiff, idxPrv, Option.isSome_some, Option.isSome_none, Option.getD_some]
  · rw [hO2, ho2]; simp (maxSteps := 4000000) only [go_sem, ↓reduceIte, reduceCtorEq, Nat.reduceEqDiff, Nat.reduceBEq, Nat.reduceAdd, Nat.reduceSub, Nat.reduceMul, Nat.reduceLT, Nat.reduceLeDiff, Nat.reduceBNe, Int.reduceBEq, Int.reduceBNe, Int.reduceLT, Int.reduceLE, evG, evP, Nat.reduceMod, Nat.reduceDiv, Nat.reduceSub, Nat.reduceLeDiff, idxPrv, Option.isSome_some, Option.isSome_none, Option.getD_some]
  · rw [hO2, ho1]; simp (maxSteps := 4000000) only [go_sem, ↓reduceIte, reduceCtorEq, Nat.reduceEqDiff, Nat.reduceBEq, Nat.reduceAdd, Nat.reduceSub, Nat.reduceMul, Nat.reduceLT, Nat.reduceLeDiff, Nat.reduceBNe, Int.reduceBEq, Int.reduceBNe, Int.reduceLT, Int.reduceLE, evG, evP, Nat.reduceMod, Nat.reduceDiv, Nat.reduceSub, Nat.reduceLeDiff, idxPrv, Option.isSome_some, Option.isSome_none, Option.getD_some]
  · simp (maxSteps := 4000000) only [go_sem, ↓reduceIte, reduceCtorEq, Nat.reduceEqDiff, Nat.reduceBEq, Nat.reduceAdd, Nat.reduceSub, Nat.reduceMul, Nat.reduceLT, Nat.reduceLeDiff, Nat.reduceBNe, Int.reduceBEq, Int.reduceBNe, Int.reduceLT, Int.reduceLE, evG, evP, Nat.reduceMod, Nat.reduceDiv, Nat.reduceSub, Nat.reduceLeDiff, idxPrv, Option.isSome_some, Option.isSome_none, Option.getD_some]
  · intro s hs
    have h0 := hno s hs
    simp only [List.mem_cons, List.not_mem_nil, or_false] at hs
    rcases hs with rfl | rfl | rfl | rfl | rfl | rfl | rfl <;> (simp (maxSteps := 4000000) only [go_sem, ↓reduceIte, reduceCtorEq, Nat.reduceEqDiff, Nat.reduceBEq, Nat.reduceAdd, Nat.reduceSub, Nat.reduceMul, Nat.reduceLT, Nat.reduceLeDiff, Nat.reduceBNe, Int.reduceBEq, Int.reduceBNe, Int.reduceLT, Int.reduceLE, evG, evP, Nat.reduceMod, Nat.reduceDiv, Nat.reduceSub, Nat.reduceLeDiff, idxPrv, Option.isSome_some, Option.isSome_none, Option.getD_some, h0])
  · intro s
    have h0 := hrest s
    have g1 : ¬ s + 1001 = 19 := by omega
    have g2 : ¬ s + 1001 = 20 := by omega
    simp (maxSteps := 4000000) only [go_sem, ↓reduceIte, reduceCtorEq, Nat.reduceEqDiff, Nat.reduceBEq, Nat.reduceAdd, Nat.reduceSub, Nat.reduceMul, Nat.reduceLT, Nat.reduceLeDiff, Nat.reduceBNe, Int.reduceBEq, Int.reduceBNe, Int.reduceLT, Int.reduceLE, evG, evP, Nat.reduceMod, Nat.reduceDiv, Nat.reduceSub, Nat.reduceLeDiff, idxPrv, Option.isSome_some, Option.isSome_none, Option.getD_some, g1, g2, h0]
end
end Go.Proofs.YtelmejaiapdgnaaDoor
