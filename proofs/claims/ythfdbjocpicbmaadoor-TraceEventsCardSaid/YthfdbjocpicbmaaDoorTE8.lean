/-
  Part 8 of a proof: PkJ, Join, TrB, PkK, PkK2, PkP0.
-/
import Derived.Lib.ItoaLen
import Derived.Lib.AppendIntMem
import Derived.Test.YthfdbjocpicbmaaDoorTE7
namespace Go.Proofs.YthfdbjocpicbmaaDoor
attribute [local go_sem] ev0 ev1 ev2 ev3 ev4 evA stHOk.eq_1 stHOk.eq_2 stHSt.eq_1 stHSt.eq_2 okV valV fzV okF valF okBld valBld mxOk.eq_1 mxOk.eq_2 mxVal.eq_1 mxVal.eq_2 cellFit.eq_1 cellFit.eq_2 cellFit.eq_3 cellEq.eq_1 cellEq.eq_2 cellEq.eq_3 upd_at AV.flatB AV.flatBs binIok binIV binSok binSV cellsOk.eq_1 cellsOk.eq_2 cellsVal.eq_1 cellsVal.eq_2 objCells.eq_1 objCells.eq_2 objZ.eq_1 objZ.eq_2 objProt.eq_1 objProt.eq_2 oneObj ptrOk.eq_1 ptrOk.eq_2 ptrOk.eq_3 ptrCells.eq_1 ptrCells.eq_2 ptrCells.eq_3 lenOk.eq_1 lenOk.eq_2 lenOk.eq_3 lenOk.eq_4 lenVal.eq_1 lenVal.eq_2 lenVal.eq_3 lenVal.eq_4 faOk.eq_1 faOk.eq_2 faOk.eq_3 faVal.eq_1 faVal.eq_2 faVal.eq_3 iaOk.eq_1 iaOk.eq_2 iaOk.eq_3 iaVal.eq_1 iaVal.eq_2 iaVal.eq_3 slcLen.eq_1 slcLen.eq_2 slcLen.eq_3 slcLen.eq_4 bdOk.eq_1 bdOk.eq_2 bdVal.eq_1 bdVal.eq_2 slcOk.eq_1 slcOk.eq_2 slcOk.eq_3 slcOk.eq_4 slcVal.eq_1 slcVal.eq_2 slcVal.eq_3 slcVal.eq_4 slcFz.eq_1 slcFz.eq_2 byOk.eq_1 byOk.eq_2 byOk.eq_3 byOk.eq_4 byOk.eq_5 byOk.eq_6 byOk.eq_7 byOk.eq_8 byVal.eq_1 byVal.eq_2 byVal.eq_3 byFz.eq_1 byFz.eq_2 byFz.eq_3 byOks byVals byFzs allOne resSt.eq_1 resSt.eq_2 resName.eq_1 resName.eq_2 stOk.eq_1 stOk.eq_2 stArr.eq_1 stArr.eq_2 stSt.eq_1 stSt.eq_2 AV.patch nameOk_none gB.eq_1 gB.eq_2 gB.eq_3 gIs.eq_1 gIs.eq_2 gIs.eq_3 retV resV resVs evalV cellsV St.byval List.getD_cons_zero List.getD_cons_succ List.getD_nil List.map_cons List.map_nil List.length_cons List.length_nil List.take_succ_cons List.take_zero List.drop_succ_cons List.drop_zero List.headD_cons List.set_cons_zero List.append_nil List.nil_append List.cons_append List.contains_cons List.contains_nil List.elem_cons List.elem_nil List.all_cons List.all_nil List.getElem?_cons_zero List.getElem?_cons_succ List.filterMap_cons List.filterMap_nil Option.isSome_some Option.isSome_none Option.map_some Option.map_none Option.some.injEq AV.int.injEq AV.bool.injEq AV.str.injEq AV.tup.injEq AV.agg.injEq AV.sl.injEq List.cons.injEq Bool.false_eq_true Bool.true_eq_false Bool.not_true Bool.not_false Bool.and_true Bool.true_and Bool.or_false Bool.or_true Bool.false_or Bool.true_or Bool.or_self Bool.and_self Bool.not_eq_true' Bool.not_eq_false' Bool.not_not beq_self_eq_true true_and and_true false_and and_false and_self not_true_eq_false not_false_eq_true forall_const true_implies false_implies implies_true imp_self Nat.lt_add_one Nat.le_refl Nat.zero_le Nat.add_zero Nat.zero_add decide_true decide_false decide_eq_true_eq decide_eq_false_iff_not exists_eq_left exists_eq_left' ge_iff_le gt_iff_lt ite_branch ite_branch' nilOk.eq_1 nilOk.eq_2 nilMay.eq_1 nilMay.eq_2 AV.isSl.eq_1 objTy'.eq_1 objTy'.eq_2 apSt.eq_1 apArr.eq_1 apArr.eq_2 slOf.eq_1 fitsV List.mem_cons List.not_mem_nil Bool.false_and Bool.and_false primOk.eq_1 primOk.eq_2 primOk.eq_3 primOk.eq_4 primOk.eq_5 primVal.eq_1 primVal.eq_2 primVal.eq_3 primVal.eq_4 primVal.eq_5 mOk.eq_1 mOk.eq_2 mVal.eq_1 mVal.eq_2 mFz.eq_1 mFz.eq_2 mOks mVals mFzs mCalOk.eq_1 mCalOk.eq_2 mFn.eq_1 mFn.eq_2 mArgs.eq_1 mArgs.eq_2 ckOk.eq_1 ckOk.eq_2 cloOk.eq_1 ptrAt.eq_1 sh.eq_1 sh.eq_2 sh.eq_3 sh.eq_4 sh.eq_5 sh.eq_6 retM shH_small evM entOk.eq_1 entOk.eq_2 ents.eq_1 ents.eq_2 kI.eq_1 mpOk.eq_1 mpR.eq_1 lkV.eq_1 lkV.eq_2 remp.eq_2 evP pvOk.eq_1 pvOk.eq_2 pvVal.eq_1 pvVal.eq_2 plOk.eq_1 plOk.eq_2 plV.eq_1 plV.eq_2 plF.eq_1 plF.eq_2 plVal.eq_1 plVal.eq_2 plFz.eq_1 plFz.eq_2 lpOk.eq_1 lpOk.eq_2 lpVal.eq_1 lpVal.eq_2 lpFz.eq_1 lpFz.eq_2 stpOk.eq_1 stpOk.eq_2 stpSt.eq_1 stpSt.eq_2 stpArr.eq_1
section
/-
  Layer 6: a number's digits, a text as a number, and the law PackNumbers.
-/
open Go.RowKit
set_option linter.unusedVariables false
set_option linter.unusedSimpArgs false
set_option maxRecDepth 100000
attribute [local go_sem ↓] runOp headOp
/-! ### percolate/pack.Dec -/
def r_dec_0 : Reg := ⟨[], [⟨(.mv (.c (.str ⟨#[]⟩))), (some 2), none, [], []⟩], [], [], false⟩
def t_dec_1 : List ROp := [⟨(.mv (.t 0)), (some 3), none, [4], []⟩, ⟨(.callv (.c (.clo 85 [] [])) [(.t 3)]), (some 4), none, [], []⟩, ⟨(.mv (.t 4)), (some 2), none, [], []⟩]
def r_dec_1 : Reg := ⟨[], t_dec_1, [4], [], false⟩
def ir_dec : IR := (.seq (.reg r_dec_0)
  (.seq (.reg r_dec_1)
  .ret))
def res_dec : List RDesc := [(.tmp 2)]
theorem e_dec_0 (C : FuncId → List AV → AV → Prop) (σ : St) (K : St → Prop) : runReg C r_dec_0 σ K = runOps C [⟨(.mv (.c (.str ⟨#[]⟩))), (some 2), none, [], []⟩] (σ.kills []) K := rfl
theorem e_dec_1 (C : FuncId → List AV → AV → Prop) (σ : St) (K : St → Prop) : runReg C r_dec_1 σ K = runOps C t_dec_1 (σ.kills [4]) K := rfl
theorem fn_dec {args : List AV} {r : AV} (ha : args.length.ble Tryd.f46.ntmps = true) (h : run (AFn Tryd.prog) ir_dec (endQ res_dec r) (initSt args)) : AFn Tryd.prog 46 args r :=
  AFn.of_code (pv := false) (hint := fun _ => []) (c := Tryd.f46.body.getD .skip) (by kernel_rfl) (by kernel_rfl) Tryd.func46 (by kernel_rfl) (by kernel_rfl) (by kernel_rfl) (of_decide_eq_true (by kernel_rfl)) (Nat.le_of_ble_eq_true ha) (Nat.le_of_ble_eq_true (by kernel_rfl)) (run_ok h)
/-! ### percolate/percolateref06.Dec -/
def r_rDec_0 : Reg := ⟨[], [⟨(.mv (.c (.str ⟨#[]⟩))), (some 2), none, [], []⟩], [], [], false⟩
def r_rDec_1 : Reg := ⟨[], [⟨(.mv (.c (.str ⟨#[]⟩))), (some 3), none, [], []⟩], [], [], false⟩
def r_rDec_2 : Reg := ⟨[], [⟨(.mv (.t 0)), (some 6), none, [], []⟩, ⟨(.mv (.t 6)), (some 4), none, [], []⟩], [], [], false⟩
def t_rDec_3 : List ROp := [⟨(.mv (.t 4)), (some 7), none, [], []⟩, ⟨(.bin .rem (.t 7) (.c (.int .i64 10))), (some 8), none, [], []⟩, ⟨(.mv (.t 8)), (some 5), none, [], []⟩]
def r_rDec_3 : Reg := ⟨[], t_rDec_3, [], [], false⟩
def r_rDec_4 : Reg := ⟨[], [⟨(.mv (.t 5)), (some 9), none, [], []⟩, ⟨(.bin .lss (.t 9) (.c (.int .i64 0))), (some 10), none, [], []⟩], [], [], false⟩
def t_rDec_5 : List ROp := [⟨(.mv (.t 5)), (some 11), none, [], []⟩, ⟨(.un .neg (.t 11)), (some 12), none, [], []⟩, ⟨(.mv (.t 12)), (some 5), none, [], []⟩]
def r_rDec_5 : Reg := ⟨[], t_rDec_5, [], [], false⟩
def t_rDec_6 : List ROp := [⟨(.mv (.t 5)), (some 13), none, [16, 17], []⟩, ⟨(.bin .add (.c (.int .i64 48)) (.t 13)), (some 14), none, [16, 17], []⟩, ⟨(.conv .u8 (.t 14)), (some 15), none, [16, 17], []⟩, ⟨(.bsl 1 5 [(.t 15)]), (some 16), none, [17], []⟩, ⟨(.call 1 [(.t 16)]), (some 17), none, [], []⟩, ⟨(.mv (.t 3)), (some 18), none, [], []⟩, ⟨(.bin .add (.t 17) (.t 18)), (some 19), none, [], []⟩, ⟨(.mv (.t 19)), (some 3), none, [], []⟩]
def r_rDec_6 : Reg := ⟨[], t_rDec_6, [16, 17], [], false⟩
def t_rDec_7 : List ROp := [⟨(.mv (.t 4)), (some 20), none, [], []⟩, ⟨(.bin .quo (.t 20) (.c (.int .i64 10))), (some 21), none, [], []⟩, ⟨(.mv (.t 21)), (some 4), none, [], []⟩]
def r_rDec_7 : Reg := ⟨[], t_rDec_7, [], [], false⟩
def r_rDec_8 : Reg := ⟨[], [⟨(.mv (.t 4)), (some 22), none, [], []⟩, ⟨(.bin .eql (.t 22) (.c (.int .i64 0))), (some 23), none, [], []⟩], [], [], false⟩
def r_rDec_l9 : IR := (.block 1 (.seq (.reg r_rDec_3)
  (.seq (.seq (.reg r_rDec_4)
  (.cond (.t 10) (.reg r_rDec_5)
  .skip))
  (.seq (.reg r_rDec_6)
  (.seq (.reg r_rDec_7)
  (.seq (.reg r_rDec_8)
  (.cond (.t 23) (.exit 0)
  .skip)))))))
def r_rDec_10 : Reg := ⟨[], [⟨(.mv (.t 0)), (some 24), none, [], []⟩, ⟨(.bin .lss (.t 24) (.c (.int .i64 0))), (some 25), none, [], []⟩], [], [], false⟩
def t_rDec_11 : List ROp := [⟨(.mv (.t 3)), (some 26), none, [], []⟩, ⟨(.bin .add (.c (.str ⟨#[45]⟩)) (.t 26)), (some 27), none, [], []⟩, ⟨(.mv (.t 27)), (some 2), none, [], []⟩]
def r_rDec_11 : Reg := ⟨[], t_rDec_11, [], [], false⟩
def r_rDec_12 : Reg := ⟨[], [⟨(.mv (.t 3)), (some 28), none, [], []⟩, ⟨(.mv (.t 28)), (some 2), none, [], []⟩], [], [], false⟩
def ir_rDec : IR := (.seq (.reg r_rDec_0)
  (.seq (.reg r_rDec_1)
  (.seq (.reg r_rDec_2)
  (.seq (.block 0 (.loop r_rDec_l9))
  (.seq (.seq (.reg r_rDec_10)
  (.cond (.t 25) (.seq (.reg r_rDec_11)
  .ret)
  .skip))
  (.seq (.reg r_rDec_12)
  .ret))))))
def res_rDec : List RDesc := [(.tmp 2)]
theorem e_rDec_0 (C : FuncId → List AV → AV → Prop) (σ : St) (K : St → Prop) : runReg C r_rDec_0 σ K = runOps C [⟨(.mv (.c (.str ⟨#[]⟩))), (some 2), none, [], []⟩] (σ.kills []) K := rfl
theorem e_rDec_1 (C : FuncId → List AV → AV → Prop) (σ : St) (K : St → Prop) : runReg C r_rDec_1 σ K = runOps C [⟨(.mv (.c (.str ⟨#[]⟩))), (some 3), none, [], []⟩] (σ.kills []) K := rfl
theorem e_rDec_2 (C : FuncId → List AV → AV → Prop) (σ : St) (K : St → Prop) : runReg C r_rDec_2 σ K = runOps C [⟨(.mv (.t 0)), (some 6), none, [], []⟩, ⟨(.mv (.t 6)), (some 4), none, [], []⟩] (σ.kills []) K := rfl
theorem e_rDec_3 (C : FuncId → List AV → AV → Prop) (σ : St) (K : St → Prop) : runReg C r_rDec_3 σ K = runOps C t_rDec_3 (σ.kills []) K := rfl
theorem e_rDec_4 (C : FuncId → List AV → AV → Prop) (σ : St) (K : St → Prop) : runReg C r_rDec_4 σ K = runOps C [⟨(.mv (.t 5)), (some 9), none, [], []⟩, ⟨(.bin .lss (.t 9) (.c (.int .i64 0))), (some 10), none, [], []⟩] (σ.kills []) K := rfl
theorem e_rDec_5 (C : FuncId → List AV → AV → Prop) (σ : St) (K : St → Prop) : runReg C r_rDec_5 σ K = runOps C t_rDec_5 (σ.kills []) K := rfl
theorem e_rDec_6 (C : FuncId → List AV → AV → Prop) (σ : St) (K : St → Prop) : runReg C r_rDec_6 σ K = runOps C t_rDec_6 (σ.kills [16, 17]) K := rfl
theorem e_rDec_7 (C : FuncId → List AV → AV → Prop) (σ : St) (K : St → Prop) : runReg C r_rDec_7 σ K = runOps C t_rDec_7 (σ.kills []) K := rfl
theorem e_rDec_8 (C : FuncId → List AV → AV → Prop) (σ : St) (K : St → Prop) : runReg C r_rDec_8 σ K = runOps C [⟨(.mv (.t 4)), (some 22), none, [], []⟩, ⟨(.bin .eql (.t 22) (.c (.int .i64 0))), (some 23), none, [], []⟩] (σ.kills []) K := rfl
theorem e_rDec_10 (C : FuncId → List AV → AV → Prop) (σ : St) (K : St → Prop) : runReg C r_rDec_10 σ K = runOps C [⟨(.mv (.t 0)), (some 24), none, [], []⟩, ⟨(.bin .lss (.t 24) (.c (.int .i64 0))), (some 25), none, [], []⟩] (σ.kills []) K := rfl
theorem e_rDec_11 (C : FuncId → List AV → AV → Prop) (σ : St) (K : St → Prop) : runReg C r_rDec_11 σ K = runOps C t_rDec_11 (σ.kills []) K := rfl
theorem e_rDec_12 (C : FuncId → List AV → AV → Prop) (σ : St) (K : St → Prop) : runReg C r_rDec_12 σ K = runOps C [⟨(.mv (.t 3)), (some 28), none, [], []⟩, ⟨(.mv (.t 28)), (some 2), none, [], []⟩] (σ.kills []) K := rfl
theorem fn_rDec {args : List AV} {r : AV} (ha : args.length.ble Tryd.f32.ntmps = true) (h : run (AFn Tryd.prog) ir_rDec (endQ res_rDec r) (initSt args)) : AFn Tryd.prog 32 args r :=
  AFn.of_code (pv := false) (hint := fun _ => []) (c := Tryd.f32.body.getD .skip) (by kernel_rfl) (by kernel_rfl) Tryd.func32 (by kernel_rfl) (by kernel_rfl) (by kernel_rfl) (of_decide_eq_true (by kernel_rfl)) (Nat.le_of_ble_eq_true ha) (Nat.le_of_ble_eq_true (by kernel_rfl)) (run_ok h)
attribute [local go_sem ↓] ir_dec
attribute [local go_sem] res_dec e_dec_0 e_dec_1 t_dec_1
attribute [local go_sem ↓] ir_rDec
attribute [local go_sem] res_rDec e_rDec_0 e_rDec_1 e_rDec_2 e_rDec_3 t_rDec_3 e_rDec_4 e_rDec_5 t_rDec_5 e_rDec_6 t_rDec_6 e_rDec_7 t_rDec_7 e_rDec_8 e_rDec_10 e_rDec_11 t_rDec_11 e_rDec_12
def decS (n : Int) : ByteArray := ⟨(Lib.itoa n).toArray⟩
theorem decS_size (n : Int) : (decS n).size = (Lib.itoa n).length := rfl
def inI (n : Int) : Prop := -9223372036854775808 ≤ n ∧ n ≤ 9223372036854775807
theorem itoa_ok (n : Int) (h : inI n) : AFn Tryd.prog 85 [.int .i64 n] (.str (decS n)) :=
  .flat1 (by kernel_rfl) int_flat (fun _ _ _ => .str _) fun w hG => (Tryd.strconv_Itoa n h.1 h.2 w hG.2).mono fun e w' ⟨he, k, os, hw⟩ => by
    subst hw
    exact ⟨he, Lib.below_grow _ _ (Nat.le_refl _) _ _⟩
theorem dec_ok (n : Int) (h : inI n) : AFn Tryd.prog 46 [.int .i64 n] (.str (decS n)) := by
  refine fn_dec rfl ?_
  simp (maxSteps := 4000000) only [go_sem, ↓reduceIte, reduceCtorEq, Nat.reduceEqDiff, Nat.reduceBEq, Nat.reduceAdd, Nat.reduceSub, Nat.reduceMul, Nat.reduceLT, Nat.reduceLeDiff, Nat.reduceBNe, Int.reduceBEq, Int.reduceBNe, Int.reduceLT, Int.reduceLE]
  (first | refine calling (itoa_ok n h) ?_ | refine callingH (itoa_ok n h) ?_)
  simp (maxSteps := 4000000) only [go_sem, ↓reduceIte, reduceCtorEq, Nat.reduceEqDiff, Nat.reduceBEq, Nat.reduceAdd, Nat.reduceSub, Nat.reduceMul, Nat.reduceLT, Nat.reduceLeDiff, Nat.reduceBNe, Int.reduceBEq, Int.reduceBNe, Int.reduceLT, Int.reduceLE]
/-! ### digits -/
open Lib (decDigits itoa nDigits)
theorem dd_step (u : Nat) (h : ¬ u < 10) : decDigits u = decDigits (u / 10) ++ [UInt8.ofNat (48 + u % 10)] := by
  rw [Lib.decDigits, dif_neg h]
theorem dd_small (u : Nat) (h : u < 10) : decDigits u = [UInt8.ofNat (48 + u)] := Lib.decDigits_one h
def rdInv (n : Int) (k : Nat) (σ : St) : Prop :=
  ∃ (m : Int) (s : List UInt8), k = m.natAbs ∧ inI m ∧ decDigits n.natAbs = decDigits m.natAbs ++ s ∧ (n < 0 ↔ n < 0) ∧ σ.T 0 = .int .i64 n ∧ σ.T 4 = .int .i64 m ∧ σ.T 3 = .str (wb s)
theorem u8_dig (d : Nat) (h : d < 10) : IntKind.u8.wrap (IntKind.i64.wrap (48 + (d : Int))) = ((UInt8.ofNat (48 + d)).toNat : Int) := by
  rw [IntWalk.i64_in _ (by omega), show (UInt8.ofNat (48 + d)).toNat = (48 + d) % 256 from UInt8.toNat_ofNat' ..]
  simp [IntKind.wrap, IntKind.signed, IntKind.bits]
theorem rDec_ok (n : Int) (h : inI n) : AFn Tryd.prog 32 [.int .i64 n] (.str (decS n)) := by
  refine fn_rDec rfl ?_
  simp (maxSteps := 4000000) only [go_sem, ↓reduceIte, reduceCtorEq, Nat.reduceEqDiff, Nat.reduceBEq, Nat.reduceAdd, Nat.reduceSub, Nat.reduceMul, Nat.reduceLT, Nat.reduceLeDiff, Nat.reduceBNe, Int.reduceBEq, Int.reduceBNe, Int.reduceLT, Int.reduceLE]
  refine run_loop (rdInv n) (k := n.natAbs) ⟨n, [], rfl, h, by simp, Iff.rfl, ?_, ?_, ?_⟩ ?_
  · simp (maxSteps := 4000000) only [go_sem, ↓reduceIte, reduceCtorEq, Nat.reduceEqDiff, Nat.reduceBEq, Nat.reduceAdd, Nat.reduceSub, Nat.reduceMul, Nat.reduceLT, Nat.reduceLeDiff, Nat.reduceBNe, Int.reduceBEq, Int.reduceBNe, Int.reduceLT, Int.reduceLE]
  · simp (maxSteps := 4000000) only [go_sem, ↓reduceIte, reduceCtorEq, Nat.reduceEqDiff, Nat.reduceBEq, Nat.reduceAdd, Nat.reduceSub, Nat.reduceMul, Nat.reduceLT, Nat.reduceLeDiff, Nat.reduceBNe, Int.reduceBEq, Int.reduceBNe, Int.reduceLT, Int.reduceLE]
  · simp (maxSteps := 4000000) only [go_sem, ↓reduceIte, reduceCtorEq, Nat.reduceEqDiff, Nat.reduceBEq, Nat.reduceAdd, Nat.reduceSub, Nat.reduceMul, Nat.reduceLT, Nat.reduceLeDiff, Nat.reduceBNe, Int.reduceBEq, Int.reduceBNe, Int.reduceLT, Int.reduceLE]
    rfl
  rintro k σ ⟨m, s, rfl, hm, hds, -, t0, t4, t3⟩
  simp only [r_rDec_l9]
  obtain ⟨hm0, hm1⟩ := hm
  have hlen : s.length ≤ 21 := by
    have h1 := congrArg List.length hds
    have h2 := Lib.itoa_length_le n h.1 h.2
    have h3 : (decDigits n.natAbs).length ≤ (itoa n).length := by
      unfold Lib.itoa
      split
      · simp
      · rename_i hn
        rw [show n.natAbs = n.toNat by omega]; exact Nat.le_refl _
    rw [List.length_append] at h1
    omega
  have hd : m.natAbs % 10 < 10 := Nat.mod_lt _ (by decide)
  have hqa : (m.tdiv 10).natAbs = m.natAbs / 10 := by
    rw [Int.natAbs_tdiv]; rfl
  have hta : (m.tmod 10).natAbs = m.natAbs % 10 := by
    rw [Int.natAbs_tmod]; rfl
  have hq : IntKind.i64.wrap (m.tdiv 10) = m.tdiv 10 := IntWalk.i64_in _ (by omega)
  have h45 : #[(45 : UInt8)].size = 1 := rfl
  have hu := u8_dig (m.natAbs % 10) hd
  obtain ⟨c, hc⟩ : ∃ c, UInt8.ofNat (48 + m.natAbs % 10) = c := ⟨_, rfl⟩
  rw [hc] at hu
  have hcat : ∀ x : ByteArray, x = ⟨#[c]⟩ → x ++ wb s = wb (c :: s) := fun x hx => by
    subst hx
    apply ba_ext
    rw [ByteArray.data_append, Array.toList_append]; rfl
  have hcs := hcat _ rfl
  have hwc : (wb (c :: s)).size = s.length + 1 := rfl
  have hws : (wb s).size = s.length := rfl
  have s1 : #[c].size = 1 := rfl
  have hsplit : m.natAbs < 10 → decDigits n.natAbs = c :: s := fun hlt => by
    rw [hds, dd_small _ hlt, ← hc, Nat.mod_eq_of_lt hlt]; rfl
  have hsplit2 : ¬ m.natAbs < 10 → decDigits n.natAbs = decDigits (m.tdiv 10).natAbs ++ (c :: s) := fun hge => by
    rw [hds, dd_step _ hge, hqa, hc, List.append_assoc]; rfl
  have hfin : decDigits n.natAbs = c :: s → decS n = if n < 0 then (⟨#[45]⟩ : ByteArray) ++ wb (c :: s) else wb (c :: s) := fun e => by
    apply ba_ext
    unfold decS Lib.itoa
    by_cases hn : n < 0
    · rw [if_pos hn, if_pos hn, ByteArray.data_append, Array.toList_append, e]; rfl
    · rw [if_neg hn, if_neg hn, show n.toNat = n.natAbs by omega, e]; rfl
  by_cases hneg : m.tmod 10 < 0
  · have hw : IntKind.i64.wrap (0 - m.tmod 10) = ((m.natAbs % 10 : Nat) : Int) := by
      rw [IntWalk.i64_in _ (by omega)]; omega
    by_cases hz : m.tdiv 10 = 0
    · have hz' : (m.tdiv 10 == 0) = true := by rw [hz]; rfl
      have e := hfin (hsplit (by omega))
      rw [e]
      by_cases hn : n < 0
      · rw [if_pos hn]
        simp (maxSteps := 4000000) only [go_sem, ↓reduceIte, reduceCtorEq, Nat.reduceEqDiff, Nat.reduceBEq, Nat.reduceAdd, Nat.reduceSub, Nat.reduceMul, Nat.reduceLT, Nat.reduceLeDiff, Nat.reduceBNe, Int.reduceBEq, Int.reduceBNe, Int.reduceLT, Int.reduceLE, t0, t4, t3, hneg, hw, hu, hq, hz', hcs, hn, toB_bz, byteB_bz]
        omega
      · rw [if_neg hn]
        simp (maxSteps := 4000000) only [go_sem, ↓reduceIte, reduceCtorEq, Nat.reduceEqDiff, Nat.reduceBEq, Nat.reduceAdd, Nat.reduceSub, Nat.reduceMul, Nat.reduceLT, Nat.reduceLeDiff, Nat.reduceBNe, Int.reduceBEq, Int.reduceBNe, Int.reduceLT, Int.reduceLE, t0, t4, t3, hneg, hw, hu, hq, hz', hcs, hn, toB_bz, byteB_bz]
        omega
    · have hz' : (m.tdiv 10 == 0) = false := by rw [beq_eq_false_iff_ne]; exact hz
      have e := hsplit2 (by omega)
      simp (maxSteps := 4000000) only [go_sem, ↓reduceIte, reduceCtorEq, Nat.reduceEqDiff, Nat.reduceBEq, Nat.reduceAdd, Nat.reduceSub, Nat.reduceMul, Nat.reduceLT, Nat.reduceLeDiff, Nat.reduceBNe, Int.reduceBEq, Int.reduceBNe, Int.reduceLT, Int.reduceLE, t0, t4, t3, hneg, hw, hu, hq, hz', hcs, toB_bz, byteB_bz]
      refine ⟨by omega, by omega, by omega, (m.tdiv 10).natAbs, by omega, m.tdiv 10, c :: s, rfl, ⟨by omega, by omega⟩, e, Iff.rfl, ?_, ?_, ?_⟩ <;> (simp (maxSteps := 4000000) only [go_sem, ↓reduceIte, reduceCtorEq, Nat.reduceEqDiff, Nat.reduceBEq, Nat.reduceAdd, Nat.reduceSub, Nat.reduceMul, Nat.reduceLT, Nat.reduceLeDiff, Nat.reduceBNe, Int.reduceBEq, Int.reduceBNe, Int.reduceLT, Int.reduceLE, t0, t4, t3, hcs])
  · have hw : m.tmod 10 = ((m.natAbs % 10 : Nat) : Int) := by omega
    rw [hw] at hneg
    by_cases hz : m.tdiv 10 = 0
    · have hz' : (m.tdiv 10 == 0) = true := by rw [hz]; rfl
      have e := hfin (hsplit (by omega))
      rw [e]
      by_cases hn : n < 0
      · rw [if_pos hn]
        simp (maxSteps := 4000000) only [go_sem, ↓reduceIte, reduceCtorEq, Nat.reduceEqDiff, Nat.reduceBEq, Nat.reduceAdd, Nat.reduceSub, Nat.reduceMul, Nat.reduceLT, Nat.reduceLeDiff, Nat.reduceBNe, Int.reduceBEq, Int.reduceBNe, Int.reduceLT, Int.reduceLE, t0, t4, t3, hneg, hw, hu, hq, hz', hcs, hn, toB_bz, byteB_bz]
        omega
      · rw [if_neg hn]
        simp (maxSteps := 4000000) only [go_sem, ↓reduceIte, reduceCtorEq, Nat.reduceEqDiff, Nat.reduceBEq, Nat.reduceAdd, Nat.reduceSub, Nat.reduceMul, Nat.reduceLT, Nat.reduceLeDiff, Nat.reduceBNe, Int.reduceBEq, Int.reduceBNe, Int.reduceLT, Int.reduceLE, t0, t4, t3, hneg, hw, hu, hq, hz', hcs, hn, toB_bz, byteB_bz]
        omega
    · have hz' : (m.tdiv 10 == 0) = false := by rw [beq_eq_false_iff_ne]; exact hz
      have e := hsplit2 (by omega)
      simp (maxSteps := 4000000) only [go_sem, ↓reduceIte, reduceCtorEq, Nat.reduceEqDiff, Nat.reduceBEq, Nat.reduceAdd, Nat.reduceSub, Nat.reduceMul, Nat.reduceLT, Nat.reduceLeDiff, Nat.reduceBNe, Int.reduceBEq, Int.reduceBNe, Int.reduceLT, Int.reduceLE, t0, t4, t3, hneg, hw, hu, hq, hz', hcs, toB_bz, byteB_bz]
      refine ⟨by omega, by omega, by omega, (m.tdiv 10).natAbs, by omega, m.tdiv 10, c :: s, rfl, ⟨by omega, by omega⟩, e, Iff.rfl, ?_, ?_, ?_⟩ <;> (simp (maxSteps := 4000000) only [go_sem, ↓reduceIte, reduceCtorEq, Nat.reduceEqDiff, Nat.reduceBEq, Nat.reduceAdd, Nat.reduceSub, Nat.reduceMul, Nat.reduceLT, Nat.reduceLeDiff, Nat.reduceBNe, Int.reduceBEq, Int.reduceBNe, Int.reduceLT, Int.reduceLE, t0, t4, t3, hcs])
/-! ### a text as a number -/
theorem udGo_nn : ∀ (l : List UInt8) (n m : Int), 0 ≤ n → udGo l n = some m → 0 ≤ m
  | [], n, m, h, e => by cases e; exact h
  | c :: l, n, m, h, e => by
    rw [udGo] at e
    split at e
    · cases e
    · split at e
      · cases e
      · exact udGo_nn l _ m (by omega) e
theorem udGo_app : ∀ (l : List UInt8) (c : UInt8) (n : Int), udGo (l ++ [c]) n = (udGo l n).bind fun m => udGo [c] m
  | [], c, n => rfl
  | x :: l, c, n => by
    rw [List.cons_append, udGo, udGo]
    split
    · rfl
    · split
      · rfl
      · exact udGo_app l c _
theorem dig_nat (d : Nat) (h : d < 10) : ((UInt8.ofNat (48 + d)).toNat : Int) = 48 + d := by
  rw [show (UInt8.ofNat (48 + d)).toNat = (48 + d) % 256 from UInt8.toNat_ofNat' ..]; omega
theorem udGo_dd : ∀ u : Nat, udGo (decDigits u) 0 = some (u : Int) := by
  intro u
  induction u using Nat.strongRecOn with
  | ind u ih =>
    by_cases h : u < 10
    · rw [dd_small u h, udGo, dig_nat u h, if_neg (by omega), if_neg (by omega), udGo]
      congr 1; omega
    · rw [dd_step u h, udGo_app, ih (u / 10) (by omega)]
      show udGo [UInt8.ofNat (48 + u % 10)] _ = _
      have hd : u % 10 < 10 := Nat.mod_lt _ (by decide)
      rw [udGo, dig_nat _ hd, if_neg (by omega), if_neg (by omega), udGo]
      congr 1; omega
theorem dd_head : ∀ u : Nat, 1 ≤ u → ∃ c l, decDigits u = c :: l ∧ c ≠ 48 := by
  intro u
  induction u using Nat.strongRecOn with
  | ind u ih =>
    intro h1
    by_cases h : u < 10
    · refine ⟨_, _, dd_small u h, fun e => ?_⟩
      have := dig_nat u h
      rw [e] at this
      have : ((48 : UInt8).toNat : Int) = 48 := rfl
      omega
    · obtain ⟨c, l, e, hc⟩ := ih (u / 10) (by omega) (by omega)
      exact ⟨c, l ++ [UInt8.ofNat (48 + u % 10)], by rw [dd_step u h, e]; rfl, hc⟩
theorem dd_grow : ∀ (l : List UInt8) (a : Nat) (m : Int), 1 ≤ a → udGo l (a : Int) = some m → decDigits m.toNat = decDigits a ++ l
  | [], a, m, h, e => by cases e; simp
  | c :: l, a, m, h, e => by
    rw [udGo] at e
    split at e
    · cases e
    · split at e
      · cases e
      · rename_i h1 h2
        have := dd_grow l (10 * a + (c.toNat - 48)) m (by omega) (by rw [← e]; congr 1; omega)
        rw [this, dd_step (10 * a + (c.toNat - 48)) (by omega), show (10 * a + (c.toNat - 48)) / 10 = a by omega, show (10 * a + (c.toNat - 48)) % 10 = c.toNat - 48 by omega, List.append_assoc]
        congr 1
        show [_] ++ l = c :: l
        rw [show 48 + (c.toNat - 48) = c.toNat by omega]
        simp
/-- digits without a nought ahead are those of their number -/
theorem dd_of {c : UInt8} {l : List UInt8} {m : Int} (e : udGo (c :: l) 0 = some m) (h0 : c ≠ 48 ∨ l = []) : decDigits m.toNat = c :: l := by
  rw [udGo] at e
  split at e
  · cases e
  · split at e
    · cases e
    · rename_i h1 h2
      by_cases hc : c = 48
      · subst hc
        rcases h0 with h | h
        · exact absurd rfl h
        · subst h; cases e; decide +kernel
      · have hcn : c.toNat ≠ 48 := fun h => hc (UInt8.toNat.inj (by rw [h]; rfl))
        have := dd_grow l (c.toNat - 48) m (by omega) (by rw [← e]; congr 1; omega)
        rw [this, dd_small _ (by omega), show 48 + (c.toNat - 48) = c.toNat by omega]
        simp
theorem nd_le : ∀ (k u : Nat), u < 10 ^ (k + 1) → nDigits u ≤ k + 1
  | 0, u, h => by rw [Lib.nDigits_small (by simpa using h)]; exact Nat.le_refl _
  | k + 1, u, h => by
    by_cases h1 : u < 10
    · rw [Lib.nDigits_small h1]; omega
    · have := nd_le k (u / 10) (by rw [Nat.pow_succ] at h; omega)
      rw [Lib.nDigits_big h1]; omega
theorem nd_ge : ∀ (k u : Nat), 10 ^ k ≤ u → k + 1 ≤ nDigits u
  | 0, u, h => Lib.nDigits_pos u
  | k + 1, u, h => by
    have h2 : 10 ^ k * 10 ≤ u := by rw [← Nat.pow_succ]; exact h
    have h3 : 1 ≤ 10 ^ k := Nat.one_le_pow _ _ (by decide)
    have := nd_ge k (u / 10) (by omega)
    rw [Lib.nDigits_big (by omega)]; omega
/-- what the document answers of a text -/
def rudF (s : ByteArray) : AV := if 9 < s.size then .tup [.int .i64 0, .bool false] else match udGo s.data.toList 0 with
  | some n => if itoa n = s.data.toList then .tup [.int .i64 n, .bool true] else .tup [.int .i64 0, .bool false]
  | none => .tup [.int .i64 0, .bool false]
theorem itoa_nn {n : Int} (h : 0 ≤ n) : itoa n = decDigits n.toNat := by unfold Lib.itoa; rw [if_neg (by omega)]
theorem udF_eq (s : ByteArray) : udF s = rudF s := by
  have hL : s.data.toList.length = s.size := by rw [Array.length_toList]; rfl
  unfold udF rudF
  by_cases h9 : 9 < s.size
  · rw [if_pos (.inr (.inl h9)), if_pos h9]
  · rw [if_neg h9]
    cases hl : s.data.toList with
    | nil =>
      rw [if_pos (.inl (by rw [← hL, hl]; rfl))]
      rw [udGo]
      simp only
      rw [if_neg (by rw [itoa_nn (by omega)]; decide +kernel)]
    | cons c l =>
      have hb : b0 s = c := by unfold b0; rw [hl]; rfl
      have hsz : s.size = l.length + 1 := by rw [← hL, hl]; rfl
      cases hu : udGo (c :: l) 0 with
      | none =>
        split
        · rfl
        · rfl
      | some n =>
        have hn := udGo_nn _ 0 n (by omega) hu
        simp only
        rw [itoa_nn hn]
        by_cases h0 : c = 48 ∧ 1 < s.size
        · rw [if_pos (.inr (.inr (by rw [hb]; exact h0))), if_neg]
          intro e
          by_cases hz : n.toNat = 0
          · rw [hz, dd_small 0 (by omega)] at e
            have h := congrArg List.length e
            rw [List.length_cons, List.length_cons, List.length_nil] at h
            omega
          · obtain ⟨c', l', e', hc'⟩ := dd_head n.toNat (by omega)
            rw [e'] at e
            cases e
            exact hc' h0.1
        · rw [if_neg (by rw [hb]; rintro (h | h | h); omega; exact h9 h; exact h0 h)]
          rw [if_pos (dd_of hu (by
            by_cases hc : c = 48
            · right
              have : ¬ 1 < s.size := fun h => h0 ⟨hc, h⟩
              exact List.eq_nil_of_length_eq_zero (by omega)
            · exact .inl hc))]
          rfl
/-- a number's digits as a number -/
theorem udF_dec (n : Int) (h : inI n) : udF (decS n) = if 0 ≤ n ∧ n ≤ 999999999 then .tup [.int .i64 n, .bool true] else .tup [.int .i64 0, .bool false] := by
  have hL : (decS n).data.toList = itoa n := by unfold decS; simp
  have hz : (decS n).size = (itoa n).length := decS_size n
  rw [udF_eq]
  unfold rudF
  rw [hL, hz]
  by_cases h0 : 0 ≤ n
  · rw [itoa_nn h0, Lib.decDigits_length, udGo_dd]
    simp only
    by_cases h9 : n ≤ 999999999
    · have := nd_le 8 n.toNat (by omega)
      rw [if_neg (by omega), if_pos (show itoa ((n.toNat : Nat) : Int) = decDigits n.toNat by rw [itoa_nn (by omega)]; rfl), if_pos (show 0 ≤ n ∧ n ≤ 999999999 from ⟨h0, h9⟩)]
      rw [show ((n.toNat : Nat) : Int) = n by omega]
    · have := nd_ge 9 n.toNat (by omega)
      rw [if_pos (by omega), if_neg (by omega)]
  · rw [if_neg (show ¬ (0 ≤ n ∧ n ≤ 999999999) by omega)]
    have e : itoa n = 45 :: decDigits n.natAbs := by unfold Lib.itoa; rw [if_pos (by omega)]
    have hnone : udGo (45 :: decDigits n.natAbs) 0 = none := by rw [udGo, if_pos (by decide)]
    rw [e, hnone]
    split <;> rfl
end
section
/-
  Words with blanks between them: the library's Join; how long words are.
-/
open Go.RowKit
set_option linter.unusedVariables false
set_option linter.unusedSimpArgs false
set_option maxRecDepth 100000
theorem ba_assoc (a b c : ByteArray) : a ++ b ++ c = a ++ (b ++ c) := by
  apply ba_ext
  simp only [ByteArray.data_append, Array.toList_append, List.append_assoc]
theorem ba_nil (a : ByteArray) : a ++ (⟨#[]⟩ : ByteArray) = a := by
  apply ba_ext
  simp only [ByteArray.data_append, Array.toList_append]
  exact List.append_nil _
def joinB (l : List ByteArray) (sep : ByteArray) : ByteArray := ⟨(Lib.join (l.map (·.data.toList)) sep.data.toList).toArray⟩
theorem join_ok (l : List ByteArray) (sep : ByteArray) (hl : l.length ≤ 140737488355328) (hj : (Lib.join (l.map (·.data.toList)) sep.data.toList).length ≤ 140737488355328) : AFn Tryd.prog 47 [.sl (l.map .str), .str sep] (.str (joinB l sep)) := by
  refine ⟨by kernel_rfl, fun w Pr vs hG hPr hlen hvs => ?_⟩
  obtain ⟨a, b, rfl⟩ : ∃ a b, vs = [a, b] := by
    match vs, hlen with
    | [a, b], _ => exact ⟨a, b, rfl⟩
  have h1 := hvs 0 _ a rfl rfl
  have h2 := hvs 1 _ b rfl rfl
  obtain rfl := h2.str_of
  have fin : ∀ {v : Value}, (Calls Tryd.prog 47 #[v, .string sep] w fun e w' => e = .returned (.string (joinB l sep)) ∧ Below w.heap.size w w') → Calls Tryd.prog 47 [v, .string sep].toArray w fun e w' => ∃ u, e = .returned u ∧ Below w.heap.size w w' ∧ RR (fun b o => Pr b o ∨ w.heap.size ≤ b) w.heap.size w' (.str (joinB l sep)) u := fun hc =>
    hc.mono fun e w' ⟨he, hb⟩ => ⟨_, he, hb, .str _⟩
  generalize hq : l.map AV.str = q at h1
  cases h1 with
  | sl _ A cap z u hcap hmax hA h =>
    subst hq
    rw [List.length_map] at hcap hA ⊢
    refine fin ?_
    by_cases h0 : l.length = 0
    · have e0 : l = [] := List.length_eq_zero_iff.1 h0
      subst e0
      refine (Tryd.strings_Join_none A cap sep w).mono fun e w' ⟨he, hw⟩ => ⟨?_, by rw [hw]; exact Below.refl _ _⟩
      rw [he]; rfl
    · obtain ⟨b, off, rfl, hlies⟩ := hA (by omega)
      have hz : z = 1 := by
        obtain ⟨x, hx⟩ : ∃ x, l[0]? = some x := ⟨_, List.getElem?_eq_getElem (by omega)⟩
        exact (hlies.len (.str x) (List.mem_map.2 ⟨x, List.mem_of_getElem? hx, rfl⟩)).symm
      subst hz
      refine (Tryd.strings_Join b off cap l sep w (fun j x hx => ?_) hlies.lt hl hcap hj).mono fun e w' ⟨he, hb⟩ => ⟨he, hb⟩
      have hjl := (List.getElem?_eq_some_iff.1 hx).1
      have := (hlies.at_ j 0 (by rw [List.length_map]; exact hjl) (by omega)).2
      rw [Nat.mul_one, Nat.add_zero] at this
      rw [this]
      have hv := h j (.str x) 0 (.str x) (by rw [List.getElem?_map, hx]; rfl) rfl
      rw [hv.str_of]
/-- few short words, with blanks between them -/
theorem join_len (sep : List UInt8) : ∀ l : List (List UInt8), (Lib.join l sep).length ≤ (l.map fun x => x.length + sep.length).sum
  | [] => by simp [Lib.join_nil]
  | x :: r => by
    rw [Lib.join_cons]
    have : ∀ r : List (List UInt8), (Lib.joinTail sep r).length = (r.map fun x => x.length + sep.length).sum := by
      intro r
      induction r with
      | nil => rfl
      | cons y r ih =>
        show ((sep ++ y) ++ Lib.joinTail sep r).length = _
        rw [List.length_append, ih, List.length_append, List.map_cons, List.sum_cons]; omega
    rw [List.length_append, this, List.map_cons, List.sum_cons]; omega
theorem joined_small (l : List ByteArray) (h4 : l.length ≤ 4) (h : ∀ x, x ∈ l → x.size ≤ 1000000) : (Lib.join (l.map (·.data.toList)) (⟨#[32]⟩ : ByteArray).data.toList).length ≤ 140737488355328 := by
  have h1 := join_len (⟨#[32]⟩ : ByteArray).data.toList (l.map (·.data.toList))
  have h2 : ∀ l : List ByteArray, (∀ x, x ∈ l → x.size ≤ 1000000) → ((l.map (·.data.toList)).map fun x => x.length + 1).sum ≤ l.length * 1000001 := by
    intro l
    induction l with
    | nil => intro _; simp
    | cons y r ih =>
      intro hx
      have a := ih (fun x hxm => hx x (List.mem_cons_of_mem _ hxm))
      have b := hx y (List.mem_cons_self ..)
      have c : y.data.toList.length = y.size := by rw [Array.length_toList]; rfl
      simp only [List.map_cons, List.sum_cons, List.length_cons]
      rw [c]
      omega
  have h3 := h2 l h
  have e : (fun x : List UInt8 => x.length + (⟨#[32]⟩ : ByteArray).data.toList.length) = fun x => x.length + 1 := rfl
  rw [e] at h1
  have : l.length * 1000001 ≤ 4 * 1000001 := Nat.mul_le_mul_right _ h4
  omega
theorem quoteF_size (s : ByteArray) : (quoteF s).size ≤ 3 * s.size + 1 := by
  have h := congrArg List.length (quoteF_list s)
  have hL : s.data.toList.length = s.size := by rw [Array.length_toList]; rfl
  have e : (quoteF s).data.toList.length = (quoteF s).size := by rw [Array.length_toList]; rfl
  have := quoteL_len s.data.toList
  rw [e] at h
  rw [h]
  split
  · simp
  · omega
theorem joinB2 (a b s : ByteArray) : joinB [a, b] s = a ++ s ++ b := by
  apply ba_ext
  show Lib.join _ _ = _
  rw [List.map_cons, Lib.join_cons]; simp [Lib.joinTail]
theorem joinB3 (a b c s : ByteArray) : joinB [a, b, c] s = a ++ s ++ b ++ (s ++ c) := by
  apply ba_ext
  show Lib.join _ _ = _
  rw [List.map_cons, Lib.join_cons]; simp [Lib.joinTail]
theorem joinB4 (a b c d s : ByteArray) : joinB [a, b, c, d] s = a ++ s ++ b ++ (s ++ c) ++ (s ++ d) := by
  apply ba_ext
  show Lib.join _ _ = _
  rw [List.map_cons, Lib.join_cons]; simp [Lib.joinTail]
/-- what is joined has so many bytes -/
theorem joinB_len (sep : ByteArray) (n : Nat) (l : List ByteArray) (h : ∀ x, x ∈ l → x.size + sep.size ≤ n) : (Lib.join (l.map (·.data.toList)) sep.data.toList).length ≤ l.length * n := by
  refine Nat.le_trans (join_len _ _) ?_
  induction l with
  | nil => simp
  | cons y r ih =>
    have a := ih (fun x hx => h x (List.mem_cons_of_mem _ hx))
    have b := h y (List.mem_cons_self ..)
    have c : y.data.toList.length = y.size := by rw [Array.length_toList]; rfl
    have d : sep.data.toList.length = sep.size := by rw [Array.length_toList]; rfl
    simp only [List.map_cons, List.sum_cons, List.length_cons]
    rw [c, d, Nat.add_mul, Nat.one_mul]
    rw [d] at a
    omega
theorem joinB_size (sep : ByteArray) (n : Nat) (l : List ByteArray) (h : ∀ x, x ∈ l → x.size + sep.size ≤ n) : (joinB l sep).size ≤ l.length * n := joinB_len sep n l h
end
section
/-
  Traces in plain terms, and latches, messages, pairs as lines: the code, walked.
-/
open Go.RowKit
set_option linter.unusedVariables false
set_option linter.unusedSimpArgs false
set_option maxRecDepth 100000
attribute [local go_sem ↓] runOp headOp
theorem ba_nil_l (a : ByteArray) : (⟨#[]⟩ : ByteArray) ++ a = a := by
  apply ba_ext
  simp only [ByteArray.data_append, Array.toList_append]
  rfl
/-- the texts of a list, one behind the other -/
def catF {α : Type} (f : α → ByteArray) : List α → ByteArray
  | [] => ⟨#[]⟩
  | x :: l => f x ++ catF f l
theorem catF_app {α : Type} (f : α → ByteArray) : ∀ a b : List α, catF f (a ++ b) = catF f a ++ catF f b
  | [], b => (ba_nil_l _).symm
  | x :: a, b => by
    show f x ++ catF f (a ++ b) = (f x ++ catF f a) ++ catF f b
    rw [catF_app f a b, ba_assoc]
theorem catF_one {α : Type} (f : α → ByteArray) (x : α) : catF f [x] = f x := ba_nil _
theorem catF_snoc {α : Type} (f : α → ByteArray) (l : List α) (x : α) : catF f (l ++ [x]) = catF f l ++ f x := by rw [catF_app, catF_one]
theorem catF_map {α β : Type} (f : β → ByteArray) (g : α → β) : ∀ l : List α, catF f (l.map g) = catF (fun x => f (g x)) l
  | [] => rfl
  | x :: l => by show f (g x) ++ _ = _; rw [catF_map f g l]; rfl
theorem catF_size {α : Type} (f : α → ByteArray) (n : Nat) : ∀ l : List α, (∀ x, x ∈ l → (f x).size ≤ n) → (catF f l).size ≤ l.length * n
  | [], _ => Nat.zero_le _
  | x :: l, h => by
    have a := catF_size f n l fun y hy => h y (List.mem_cons_of_mem _ hy)
    have b := h x (List.mem_cons_self ..)
    show (f x ++ catF f l).size ≤ _
    rw [ByteArray.size_append, List.length_cons, Nat.add_mul, Nat.one_mul]; omega
theorem catF_take_size {α : Type} (f : α → ByteArray) (n : Nat) (l : List α) (j : Nat) (h : ∀ x, x ∈ l → (f x).size ≤ n) : (catF f (l.take j)).size ≤ l.length * n := by
  have a := catF_size f n (l.take j) fun x hx => h x (List.mem_of_mem_take hx)
  have b : (l.take j).length * n ≤ l.length * n := Nat.mul_le_mul_right _ (by rw [List.length_take]; omega)
  omega
/-- joined texts are the first one, and each other with a blank ahead of it -/
theorem joinB_cat (x : ByteArray) (l : List ByteArray) (s : ByteArray) : joinB (x :: l) s = x ++ catF (fun y => s ++ y) l := by
  apply ba_ext
  show Lib.join ((x :: l).map (·.data.toList)) _ = _
  rw [List.map_cons, Lib.join_cons, ByteArray.data_append, Array.toList_append]
  congr 1
  induction l with
  | nil => rfl
  | cons y l ih =>
    show ((s.data.toList ++ y.data.toList) ++ Lib.joinTail s.data.toList (l.map (·.data.toList))) = ((s ++ y) ++ catF (fun y => s ++ y) l).data.toList
    rw [ih, ByteArray.data_append, Array.toList_append, ByteArray.data_append, Array.toList_append]
theorem decS_small (n : Int) (h0 : -9223372036854775808 ≤ n) (h1 : n ≤ 9223372036854775807) : (decS n).size ≤ 30 := by
  have := Lib.itoa_length_le n (by omega) (by omega)
  rw [decS_size]; omega
def Par.w (p : Par) : ByteArray := quoteF p.key ++ (⟨#[61]⟩ : ByteArray) ++ quoteF p.val
def pairsF (l : List Par) : ByteArray := decS l.length ++ catF (fun p => (⟨#[32]⟩ : ByteArray) ++ p.w) l
theorem pairs_join (l : List Par) : joinB (decS l.length :: l.map Par.w) (⟨#[32]⟩ : ByteArray) = pairsF l := by
  rw [joinB_cat, catF_map]; rfl
def Msg.word (m : Msg) : ByteArray := if m.kind = 1 then (⟨#[112, 117, 116]⟩ : ByteArray) else if m.kind = 2 then (⟨#[97, 100, 100]⟩ : ByteArray) else if m.kind = 3 then (⟨#[100, 101, 108]⟩ : ByteArray) else if m.kind = 4 then (⟨#[119, 105, 112, 101]⟩ : ByteArray) else (⟨#[107, 105, 110, 100]⟩ : ByteArray)
def Msg.rest (m : Msg) : List ByteArray := if m.kind = 1 ∨ m.kind = 2 then [quoteF m.val] else if m.kind = 4 then (if m.op then [(⟨#[42]⟩ : ByteArray)] else [quoteF m.hi]) else []
def Msg.line (m : Msg) : ByteArray := joinB ([decS m.stamp, m.word, quoteF m.key] ++ m.rest) (⟨#[32]⟩ : ByteArray)
def Hld.line (h : Hld) : ByteArray := joinB [decS h.thread, decS h.slot, if h.wr then (⟨#[119, 114, 105, 116, 101]⟩ : ByteArray) else (⟨#[114, 101, 97, 100]⟩ : ByteArray)] (⟨#[32]⟩ : ByteArray)
/-- kids, and what parts them -/
def kidsW (ps : List ByteArray) : Nat → List Int → List ByteArray
  | _, [] => []
  | i, k :: l => (if 0 < i ∧ i ≤ ps.length then [quoteF (ps.getD (i - 1) ⟨#[]⟩)] else []) ++ [decS k] ++ kidsW ps (i + 1) l
theorem kidsW_app (ps : List ByteArray) : ∀ (a b : List Int) (i : Nat), kidsW ps i (a ++ b) = kidsW ps i a ++ kidsW ps (i + a.length) b
  | [], b, i => by simp [kidsW]
  | k :: a, b, i => by
    show _ ++ kidsW ps (i + 1) (a ++ b) = (_ ++ kidsW ps (i + 1) a) ++ _
    rw [kidsW_app ps a b (i + 1), List.length_cons, show i + 1 + a.length = i + (a.length + 1) by omega]
    simp only [List.append_assoc]
def Nd.below (n : Nd) : ByteArray := if n.level = 0 then joinB [(⟨#[114, 111, 119, 115]⟩ : ByteArray), pairsF n.rows] (⟨#[32]⟩ : ByteArray) else (⟨#[107, 105, 100, 115]⟩ : ByteArray) ++ catF (fun y => (⟨#[32]⟩ : ByteArray) ++ y) (kidsW n.pivots 0 n.kids)
def msgsF (l : List Msg) : ByteArray := (⟨#[109, 115, 103, 115]⟩ : ByteArray) ++ (⟨#[32]⟩ : ByteArray) ++ decS l.length ++ catF (fun m => (⟨#[32, 44, 32]⟩ : ByteArray) ++ m.line) l
def Nd.line (n : Nd) : ByteArray := joinB [(⟨#[110, 111, 100, 101]⟩ : ByteArray), decS n.slot, decS n.level, decS n.seen, decS n.right, if n.top then (⟨#[42]⟩ : ByteArray) else quoteF n.high, (⟨#[58]⟩ : ByteArray), n.below, (⟨#[58]⟩ : ByteArray), msgsF n.msgs] (⟨#[32]⟩ : ByteArray)
theorem baz (a : Array UInt8) : (⟨a⟩ : ByteArray).size = a.size := rfl
/-! ### percolate/trace.line -/
def r_tLine_0 : Reg := ⟨[], [⟨(.mv (.c (.str ⟨#[]⟩))), (some 2), none, [], []⟩], [], [], false⟩
def t_tLine_1 : List ROp := [⟨(.mv (.t 0)), (some 3), none, [4], []⟩, ⟨(.callv (.c (.clo 47 [] [])) [(.t 3), (.c (.str ⟨#[32]⟩))]), (some 4), none, [], []⟩, ⟨(.mv (.t 4)), (some 2), none, [], []⟩]
def r_tLine_1 : Reg := ⟨[], t_tLine_1, [4], [], false⟩
def ir_tLine : IR := (.seq (.reg r_tLine_0)
  (.seq (.reg r_tLine_1)
  .ret))
def res_tLine : List RDesc := [(.tmp 2)]
theorem e_tLine_0 (C : FuncId → List AV → AV → Prop) (σ : St) (K : St → Prop) : runReg C r_tLine_0 σ K = runOps C [⟨(.mv (.c (.str ⟨#[]⟩))), (some 2), none, [], []⟩] (σ.kills []) K := rfl
theorem e_tLine_1 (C : FuncId → List AV → AV → Prop) (σ : St) (K : St → Prop) : runReg C r_tLine_1 σ K = runOps C t_tLine_1 (σ.kills [4]) K := rfl
theorem fn_tLine {args : List AV} {r : AV} (ha : args.length.ble Tryd.f52.ntmps = true) (h : run (AFn Tryd.prog) ir_tLine (endQ res_tLine r) (initSt args)) : AFn Tryd.prog 52 args r :=
  AFn.of_code (pv := false) (hint := fun _ => []) (c := Tryd.f52.body.getD .skip) (by kernel_rfl) (by kernel_rfl) Tryd.func52 (by kernel_rfl) (by kernel_rfl) (by kernel_rfl) (of_decide_eq_true (by kernel_rfl)) (Nat.le_of_ble_eq_true ha) (Nat.le_of_ble_eq_true (by kernel_rfl)) (run_ok h)
/-! ### percolate/trace.Message -/
def r_tMsg_0 : Reg := ⟨[], [⟨(.box 6 123 (.t 0)), (some 1), none, [], []⟩, ⟨(.mv (.c (.str ⟨#[]⟩))), (some 2), none, [], []⟩], [1], [], false⟩
def r_tMsg_1 : Reg := ⟨[], [⟨(.mv (.c (.str ⟨#[107, 105, 110, 100]⟩))), (some 3), none, [], []⟩], [], [], false⟩
def t_tMsg_2 : List ROp := [⟨(.faddr 1 (.t 1)), (some 5), none, [], []⟩, ⟨(.load 1 false (.t 5)), (some 6), none, [], []⟩, ⟨(.bin .geq (.t 6) (.c (.int .i64 1))), (some 7), none, [], []⟩, ⟨(.mv (.t 7)), (some 8), none, [], []⟩, ⟨(.faddr 1 (.t 1)), (some 9), (some (8, true)), [], []⟩, ⟨(.load 1 false (.t 9)), (some 10), (some (8, true)), [], []⟩, ⟨(.bin .leq (.t 10) (.c (.int .i64 4))), (some 11), (some (8, true)), [], []⟩, ⟨(.pick (.t 8) (.t 11) (.c (.bool false))), (some 12), none, [], []⟩]
def r_tMsg_2 : Reg := ⟨[], t_tMsg_2, [], [], false⟩
def t_tMsg_3 : List ROp := [⟨(.bsl 1 9 [(.c (.str ⟨#[112, 117, 116]⟩)), (.c (.str ⟨#[97, 100, 100]⟩)), (.c (.str ⟨#[100, 101, 108]⟩)), (.c (.str ⟨#[119, 105, 112, 101]⟩))]), (some 13), none, [], []⟩, ⟨(.faddr 1 (.t 1)), (some 14), none, [], []⟩, ⟨(.load 1 false (.t 14)), (some 15), none, [], []⟩, ⟨(.bin .sub (.t 15) (.c (.int .i64 1))), (some 16), none, [], []⟩, ⟨(.iaddr 1 (.t 13) (.t 16)), (some 17), none, [], []⟩, ⟨(.load 1 false (.t 17)), (some 18), none, [], []⟩, ⟨(.mv (.t 18)), (some 3), none, [], []⟩]
def r_tMsg_3 : Reg := ⟨[], t_tMsg_3, [13], [], false⟩
def h_tMsg_4 : List ROp := [⟨(.faddr 0 (.t 1)), (some 19), none, [21, 25, 26], []⟩, ⟨(.load 1 false (.t 19)), (some 20), none, [21, 25, 26], []⟩, ⟨(.callv (.c (.clo 46 [] [])) [(.t 20)]), (some 21), none, [25, 26], []⟩, ⟨(.mv (.t 3)), (some 22), none, [21, 25, 26], []⟩, ⟨(.faddr 2 (.t 1)), (some 23), none, [21, 25, 26], []⟩, ⟨(.load 1 false (.t 23)), (some 24), none, [21, 25, 26], []⟩, ⟨(.callv (.c (.clo 70 [] [])) [(.t 24)]), (some 25), none, [26], []⟩]
def r_tMsg_4 : Reg := ⟨h_tMsg_4, [⟨(.bsl 1 9 [(.t 21), (.t 22), (.t 25)]), (some 26), none, [], []⟩, ⟨(.mv (.t 26)), (some 4), none, [], []⟩], [21, 25, 26], [], true⟩
def t_tMsg_5 : List ROp := [⟨(.faddr 1 (.t 1)), (some 28), none, [], []⟩, ⟨(.load 1 false (.t 28)), (some 29), none, [], []⟩, ⟨(.bin .eql (.t 29) (.c (.int .i64 1))), (some 30), none, [], []⟩, ⟨(.mv (.t 30)), (some 31), none, [], []⟩, ⟨(.faddr 1 (.t 1)), (some 32), (some (31, false)), [], []⟩, ⟨(.load 1 false (.t 32)), (some 33), (some (31, false)), [], []⟩, ⟨(.bin .eql (.t 33) (.c (.int .i64 2))), (some 34), (some (31, false)), [], []⟩, ⟨(.pick (.t 31) (.c (.bool true)) (.t 34)), (some 35), none, [], []⟩, ⟨(.mv (.t 35)), (some 27), none, [], []⟩]
def r_tMsg_5 : Reg := ⟨[], t_tMsg_5, [], [], false⟩
def t_tMsg_6 : List ROp := [⟨(.mv (.t 4)), (some 36), none, [39, 40], []⟩, ⟨(.faddr 5 (.t 1)), (some 37), none, [39, 40], []⟩, ⟨(.load 1 false (.t 37)), (some 38), none, [39, 40], []⟩, ⟨(.callv (.c (.clo 70 [] [])) [(.t 38)]), (some 39), none, [40], []⟩, ⟨(.bsl 1 9 [(.t 39)]), (some 40), none, [], []⟩, ⟨(.append 1 9 16 (.t 36) (.t 40)), (some 41), none, [], []⟩, ⟨(.mv (.t 41)), (some 4), none, [], []⟩]
def r_tMsg_6 : Reg := ⟨[], t_tMsg_6, [39, 40], [], false⟩
def t_tMsg_7 : List ROp := [⟨(.faddr 1 (.t 1)), (some 43), none, [], []⟩, ⟨(.load 1 false (.t 43)), (some 44), none, [], []⟩, ⟨(.bin .eql (.t 44) (.c (.int .i64 4))), (some 45), none, [], []⟩, ⟨(.mv (.t 45)), (some 46), none, [], []⟩, ⟨(.faddr 4 (.t 1)), (some 47), (some (46, true)), [], []⟩, ⟨(.load 1 false (.t 47)), (some 48), (some (46, true)), [], []⟩, ⟨(.pick (.t 46) (.t 48) (.c (.bool false))), (some 49), none, [], []⟩, ⟨(.mv (.t 49)), (some 42), none, [], []⟩]
def r_tMsg_7 : Reg := ⟨[], t_tMsg_7, [], [], false⟩
def t_tMsg_8 : List ROp := [⟨(.mv (.t 4)), (some 50), none, [51], []⟩, ⟨(.bsl 1 9 [(.c (.str ⟨#[42]⟩))]), (some 51), none, [], []⟩, ⟨(.append 1 9 16 (.t 50) (.t 51)), (some 52), none, [], []⟩, ⟨(.mv (.t 52)), (some 4), none, [], []⟩]
def r_tMsg_8 : Reg := ⟨[], t_tMsg_8, [51], [], false⟩
def t_tMsg_9 : List ROp := [⟨(.faddr 1 (.t 1)), (some 54), none, [], []⟩, ⟨(.load 1 false (.t 54)), (some 55), none, [], []⟩, ⟨(.bin .eql (.t 55) (.c (.int .i64 4))), (some 56), none, [], []⟩, ⟨(.mv (.t 56)), (some 53), none, [], []⟩]
def r_tMsg_9 : Reg := ⟨[], t_tMsg_9, [], [], false⟩
def t_tMsg_10 : List ROp := [⟨(.mv (.t 4)), (some 57), none, [60, 61], []⟩, ⟨(.faddr 3 (.t 1)), (some 58), none, [60, 61], []⟩, ⟨(.load 1 false (.t 58)), (some 59), none, [60, 61], []⟩, ⟨(.callv (.c (.clo 70 [] [])) [(.t 59)]), (some 60), none, [61], []⟩, ⟨(.bsl 1 9 [(.t 60)]), (some 61), none, [], []⟩, ⟨(.append 1 9 16 (.t 57) (.t 61)), (some 62), none, [], []⟩, ⟨(.mv (.t 62)), (some 4), none, [], []⟩]
def r_tMsg_10 : Reg := ⟨[], t_tMsg_10, [60, 61], [], false⟩
def t_tMsg_11 : List ROp := [⟨(.mv (.t 4)), (some 63), none, [64], []⟩, ⟨(.callv (.c (.clo 52 [] [])) [(.t 63)]), (some 64), none, [], []⟩, ⟨(.mv (.t 64)), (some 2), none, [], []⟩]
def r_tMsg_11 : Reg := ⟨[], t_tMsg_11, [64], [], false⟩
def ir_tMsg : IR := (.seq (.reg r_tMsg_0)
  (.seq (.reg r_tMsg_1)
  (.seq (.seq (.reg r_tMsg_2)
  (.cond (.t 12) (.reg r_tMsg_3)
  .skip))
  (.seq (.reg r_tMsg_4)
  (.seq (.block 0 (.seq (.reg r_tMsg_5)
  (.cond (.t 27) (.reg r_tMsg_6)
  (.seq (.reg r_tMsg_7)
  (.cond (.t 42) (.reg r_tMsg_8)
  (.seq (.reg r_tMsg_9)
  (.cond (.t 53) (.reg r_tMsg_10)
  .skip)))))))
  (.seq (.reg r_tMsg_11)
  .ret))))))
def res_tMsg : List RDesc := [(.tmp 2)]
theorem e_tMsg_0 (C : FuncId → List AV → AV → Prop) (σ : St) (K : St → Prop) : runReg C r_tMsg_0 σ K = runOps C [⟨(.box 6 123 (.t 0)), (some 1), none, [], []⟩, ⟨(.mv (.c (.str ⟨#[]⟩))), (some 2), none, [], []⟩] (σ.kills [1]) K := rfl
theorem e_tMsg_1 (C : FuncId → List AV → AV → Prop) (σ : St) (K : St → Prop) : runReg C r_tMsg_1 σ K = runOps C [⟨(.mv (.c (.str ⟨#[107, 105, 110, 100]⟩))), (some 3), none, [], []⟩] (σ.kills []) K := rfl
theorem e_tMsg_2 (C : FuncId → List AV → AV → Prop) (σ : St) (K : St → Prop) : runReg C r_tMsg_2 σ K = runOps C t_tMsg_2 (σ.kills []) K := rfl
theorem e_tMsg_3 (C : FuncId → List AV → AV → Prop) (σ : St) (K : St → Prop) : runReg C r_tMsg_3 σ K = runOps C t_tMsg_3 (σ.kills [13]) K := rfl
theorem e_tMsg_4 (C : FuncId → List AV → AV → Prop) (σ : St) (K : St → Prop) : runReg C r_tMsg_4 σ K = runHead C [] [⟨(.bsl 1 9 [(.t 21), (.t 22), (.t 25)]), (some 26), none, [], []⟩, ⟨(.mv (.t 26)), (some 4), none, [], []⟩] h_tMsg_4 (σ.kills [21, 25, 26]) K := rfl
theorem e_tMsg_5 (C : FuncId → List AV → AV → Prop) (σ : St) (K : St → Prop) : runReg C r_tMsg_5 σ K = runOps C t_tMsg_5 (σ.kills []) K := rfl
theorem e_tMsg_6 (C : FuncId → List AV → AV → Prop) (σ : St) (K : St → Prop) : runReg C r_tMsg_6 σ K = runOps C t_tMsg_6 (σ.kills [39, 40]) K := rfl
theorem e_tMsg_7 (C : FuncId → List AV → AV → Prop) (σ : St) (K : St → Prop) : runReg C r_tMsg_7 σ K = runOps C t_tMsg_7 (σ.kills []) K := rfl
theorem e_tMsg_8 (C : FuncId → List AV → AV → Prop) (σ : St) (K : St → Prop) : runReg C r_tMsg_8 σ K = runOps C t_tMsg_8 (σ.kills [51]) K := rfl
theorem e_tMsg_9 (C : FuncId → List AV → AV → Prop) (σ : St) (K : St → Prop) : runReg C r_tMsg_9 σ K = runOps C t_tMsg_9 (σ.kills []) K := rfl
theorem e_tMsg_10 (C : FuncId → List AV → AV → Prop) (σ : St) (K : St → Prop) : runReg C r_tMsg_10 σ K = runOps C t_tMsg_10 (σ.kills [60, 61]) K := rfl
theorem e_tMsg_11 (C : FuncId → List AV → AV → Prop) (σ : St) (K : St → Prop) : runReg C r_tMsg_11 σ K = runOps C t_tMsg_11 (σ.kills [64]) K := rfl
theorem fn_tMsg {args : List AV} {r : AV} (ha : args.length.ble Tryd.f89.ntmps = true) (h : run (AFn Tryd.prog) ir_tMsg (endQ res_tMsg r) (initSt args)) : AFn Tryd.prog 89 args r :=
  AFn.of_code (pv := false) (hint := fun _ => []) (c := Tryd.f89.body.getD .skip) (by kernel_rfl) (by kernel_rfl) Tryd.func89 (by kernel_rfl) (by kernel_rfl) (by kernel_rfl) (of_decide_eq_true (by kernel_rfl)) (Nat.le_of_ble_eq_true ha) (Nat.le_of_ble_eq_true (by kernel_rfl)) (run_ok h)
attribute [local go_sem ↓] ir_tLine
attribute [local go_sem] res_tLine e_tLine_0 e_tLine_1 t_tLine_1
attribute [local go_sem ↓] ir_tMsg
attribute [local go_sem] res_tMsg e_tMsg_0 e_tMsg_1 e_tMsg_2 t_tMsg_2 e_tMsg_3 t_tMsg_3 e_tMsg_4 h_tMsg_4 e_tMsg_5 t_tMsg_5 e_tMsg_6 t_tMsg_6 e_tMsg_7 t_tMsg_7 e_tMsg_8 t_tMsg_8 e_tMsg_9 t_tMsg_9 e_tMsg_10 t_tMsg_10 e_tMsg_11 t_tMsg_11
theorem tLine_ok (l : List ByteArray) (n : Nat) (hl : l.length ≤ 10000) (hn : n ≤ 1000000000) (h : ∀ x, x ∈ l → x.size + 1 ≤ n) : AFn Tryd.prog 52 [.sl (l.map .str)] (.str (joinB l (⟨#[32]⟩ : ByteArray))) := by
  refine fn_tLine rfl ?_
  have hj := joinB_len (⟨#[32]⟩ : ByteArray) n l h
  have hm : l.length * n ≤ 10000 * 1000000000 := Nat.mul_le_mul hl hn
  simp (maxSteps := 4000000) only [go_sem, ↓reduceIte, reduceCtorEq, Nat.reduceEqDiff, Nat.reduceBEq, Nat.reduceAdd, Nat.reduceSub, Nat.reduceMul, Nat.reduceLT, Nat.reduceLeDiff, Nat.reduceBNe, Int.reduceBEq, Int.reduceBNe, Int.reduceLT, Int.reduceLE, Msg.a, Par.a, Hld.a]
  (first | refine calling (join_ok l (⟨#[32]⟩ : ByteArray) (by omega) (by omega)) ?_ | refine callingH (join_ok l (⟨#[32]⟩ : ByteArray) (by omega) (by omega)) ?_)
  simp (maxSteps := 4000000) only [go_sem, ↓reduceIte, reduceCtorEq, Nat.reduceEqDiff, Nat.reduceBEq, Nat.reduceAdd, Nat.reduceSub, Nat.reduceMul, Nat.reduceLT, Nat.reduceLeDiff, Nat.reduceBNe, Int.reduceBEq, Int.reduceBNe, Int.reduceLT, Int.reduceLE, Msg.a, Par.a, Hld.a]
set_option maxHeartbeats 2000000 in
theorem tMsg_ok (m : Msg) (hs : -9223372036854775808 ≤ m.stamp ∧ m.stamp ≤ 9223372036854775807) (h1 : m.key.size ≤ 2000) (h2 : m.hi.size ≤ 2000) (h3 : m.val.size ≤ 2000) : AFn Tryd.prog 89 [m.a] (.str m.line) := by
  refine fn_tMsg rfl ?_
  have d1 := decS_small m.stamp hs.1 hs.2
  have q1 := quoteF_size m.key
  have q2 := quoteF_size m.hi
  have q3 := quoteF_size m.val
  have c1 := dec_ok m.stamp hs
  have c2 := quote_ok m.key (by omega)
  have c3 := quote_ok m.hi (by omega)
  have c4 := quote_ok m.val (by omega)
  obtain ⟨stamp, kind, key, hi, op, val⟩ := m
  unfold Msg.line Msg.word Msg.rest
  simp only at d1 q1 q2 q3 c1 c2 c3 c4 h1 h2 h3 ⊢
  by_cases k0 : 1 ≤ kind
  case neg =>
    have e1 : kind ≠ 1 := by omega
    have e2 : kind ≠ 2 := by omega
    have e3 : kind ≠ 3 := by omega
    have e4 : kind ≠ 4 := by omega
    have b1 : (kind == 1) = false := by simp [e1]
    have b2 : (kind == 2) = false := by simp [e2]
    have b4 : (kind == 4) = false := by simp [e4]
    have c5 := tLine_ok [decS stamp, (⟨#[107, 105, 110, 100]⟩ : ByteArray), quoteF key] 10000 (by simp) (by omega) (by simp [baz]; omega)
    simp only [e1, e2, e3, e4, if_false, or_self]
    (repeat (first | simp (maxSteps := 4000000) only [go_sem, ↓reduceIte, reduceCtorEq, Nat.reduceEqDiff, Nat.reduceBEq, Nat.reduceAdd, Nat.reduceSub, Nat.reduceMul, Nat.reduceLT, Nat.reduceLeDiff, Nat.reduceBNe, Int.reduceBEq, Int.reduceBNe, Int.reduceLT, Int.reduceLE, Msg.a, Par.a, Hld.a, k0, b1, b2, b4] | refine calling (c1) ?_ | refine callingH (c1) ?_ | refine calling (c2) ?_ | refine callingH (c2) ?_ | refine calling (c3) ?_ | refine callingH (c3) ?_ | refine calling (c4) ?_ | refine callingH (c4) ?_ | refine calling (c5) ?_ | refine callingH (c5) ?_ | refine And.intro (by omega) ?_ | refine And.intro (fun d hd => by (repeat (rcases hd with rfl | hd; · exact ⟨rfl, rfl⟩)); cases hd) ?_))
  by_cases k4 : kind ≤ 4
  case neg =>
    have e1 : kind ≠ 1 := by omega
    have e2 : kind ≠ 2 := by omega
    have e3 : kind ≠ 3 := by omega
    have e4 : kind ≠ 4 := by omega
    have b1 : (kind == 1) = false := by simp [e1]
    have b2 : (kind == 2) = false := by simp [e2]
    have b4 : (kind == 4) = false := by simp [e4]
    have c5 := tLine_ok [decS stamp, (⟨#[107, 105, 110, 100]⟩ : ByteArray), quoteF key] 10000 (by simp) (by omega) (by simp [baz]; omega)
    simp only [e1, e2, e3, e4, if_false, or_self]
    (repeat (first | simp (maxSteps := 4000000) only [go_sem, ↓reduceIte, reduceCtorEq, Nat.reduceEqDiff, Nat.reduceBEq, Nat.reduceAdd, Nat.reduceSub, Nat.reduceMul, Nat.reduceLT, Nat.reduceLeDiff, Nat.reduceBNe, Int.reduceBEq, Int.reduceBNe, Int.reduceLT, Int.reduceLE, Msg.a, Par.a, Hld.a, k0, k4, b1, b2, b4] | refine calling (c1) ?_ | refine callingH (c1) ?_ | refine calling (c2) ?_ | refine callingH (c2) ?_ | refine calling (c3) ?_ | refine callingH (c3) ?_ | refine calling (c4) ?_ | refine callingH (c4) ?_ | refine calling (c5) ?_ | refine callingH (c5) ?_ | refine And.intro (by omega) ?_ | refine And.intro (fun d hd => by (repeat (rcases hd with rfl | hd; · exact ⟨rfl, rfl⟩)); cases hd) ?_))
  have hk : kind = 1 ∨ kind = 2 ∨ kind = 3 ∨ kind = 4 := by omega
  rcases hk with rfl | rfl | rfl | rfl
  · have tw : IntKind.i64.wrap (1 - 1) = 0 := by rfl
    have tn : Int.toNat 0 = 0 := rfl
    have c5 := tLine_ok [decS stamp, (⟨#[112, 117, 116]⟩ : ByteArray), quoteF key, quoteF val] 10000 (by simp) (by omega) (by simp [baz]; omega)
    (repeat (first | simp (maxSteps := 4000000) only [go_sem, ↓reduceIte, reduceCtorEq, Nat.reduceEqDiff, Nat.reduceBEq, Nat.reduceAdd, Nat.reduceSub, Nat.reduceMul, Nat.reduceLT, Nat.reduceLeDiff, Nat.reduceBNe, Int.reduceBEq, Int.reduceBNe, Int.reduceLT, Int.reduceLE, Msg.a, Par.a, Hld.a, tw, tn] | refine calling (c1) ?_ | refine callingH (c1) ?_ | refine calling (c2) ?_ | refine callingH (c2) ?_ | refine calling (c3) ?_ | refine callingH (c3) ?_ | refine calling (c4) ?_ | refine callingH (c4) ?_ | refine calling (c5) ?_ | refine callingH (c5) ?_ | refine And.intro (by omega) ?_ | refine And.intro (fun d hd => by (repeat (rcases hd with rfl | hd; · exact ⟨rfl, rfl⟩)); cases hd) ?_))
    all_goals (first | rfl | simp)
  · have tw : IntKind.i64.wrap (2 - 1) = 1 := by rfl
    have tn : Int.toNat 1 = 1 := rfl
    have c5 := tLine_ok [decS stamp, (⟨#[97, 100, 100]⟩ : ByteArray), quoteF key, quoteF val] 10000 (by simp) (by omega) (by simp [baz]; omega)
    (repeat (first | simp (maxSteps := 4000000) only [go_sem, ↓reduceIte, reduceCtorEq, Nat.reduceEqDiff, Nat.reduceBEq, Nat.reduceAdd, Nat.reduceSub, Nat.reduceMul, Nat.reduceLT, Nat.reduceLeDiff, Nat.reduceBNe, Int.reduceBEq, Int.reduceBNe, Int.reduceLT, Int.reduceLE, Msg.a, Par.a, Hld.a, tw, tn] | refine calling (c1) ?_ | refine callingH (c1) ?_ | refine calling (c2) ?_ | refine callingH (c2) ?_ | refine calling (c3) ?_ | refine callingH (c3) ?_ | refine calling (c4) ?_ | refine callingH (c4) ?_ | refine calling (c5) ?_ | refine callingH (c5) ?_ | refine And.intro (by omega) ?_ | refine And.intro (fun d hd => by (repeat (rcases hd with rfl | hd; · exact ⟨rfl, rfl⟩)); cases hd) ?_))
    all_goals (first | rfl | simp)
  · have tw : IntKind.i64.wrap (3 - 1) = 2 := by rfl
    have tn : Int.toNat 2 = 2 := rfl
    have c5 := tLine_ok [decS stamp, (⟨#[100, 101, 108]⟩ : ByteArray), quoteF key] 10000 (by simp) (by omega) (by simp [baz]; omega)
    (repeat (first | simp (maxSteps := 4000000) only [go_sem, ↓reduceIte, reduceCtorEq, Nat.reduceEqDiff, Nat.reduceBEq, Nat.reduceAdd, Nat.reduceSub, Nat.reduceMul, Nat.reduceLT, Nat.reduceLeDiff, Nat.reduceBNe, Int.reduceBEq, Int.reduceBNe, Int.reduceLT, Int.reduceLE, Msg.a, Par.a, Hld.a, tw, tn] | refine calling (c1) ?_ | refine callingH (c1) ?_ | refine calling (c2) ?_ | refine callingH (c2) ?_ | refine calling (c3) ?_ | refine callingH (c3) ?_ | refine calling (c4) ?_ | refine callingH (c4) ?_ | refine calling (c5) ?_ | refine callingH (c5) ?_ | refine And.intro (by omega) ?_ | refine And.intro (fun d hd => by (repeat (rcases hd with rfl | hd; · exact ⟨rfl, rfl⟩)); cases hd) ?_))
    all_goals (first | rfl | simp)
  · have tw : IntKind.i64.wrap (4 - 1) = 3 := by rfl
    have tn : Int.toNat 3 = 3 := rfl
    cases op with
    | true =>
      have c5 := tLine_ok [decS stamp, (⟨#[119, 105, 112, 101]⟩ : ByteArray), quoteF key, (⟨#[42]⟩ : ByteArray)] 10000 (by simp) (by omega) (by simp [baz]; omega)
      (repeat (first | simp (maxSteps := 4000000) only [go_sem, ↓reduceIte, reduceCtorEq, Nat.reduceEqDiff, Nat.reduceBEq, Nat.reduceAdd, Nat.reduceSub, Nat.reduceMul, Nat.reduceLT, Nat.reduceLeDiff, Nat.reduceBNe, Int.reduceBEq, Int.reduceBNe, Int.reduceLT, Int.reduceLE, Msg.a, Par.a, Hld.a, tw, tn] | refine calling (c1) ?_ | refine callingH (c1) ?_ | refine calling (c2) ?_ | refine callingH (c2) ?_ | refine calling (c3) ?_ | refine callingH (c3) ?_ | refine calling (c4) ?_ | refine callingH (c4) ?_ | refine calling (c5) ?_ | refine callingH (c5) ?_ | refine And.intro (by omega) ?_ | refine And.intro (fun d hd => by (repeat (rcases hd with rfl | hd; · exact ⟨rfl, rfl⟩)); cases hd) ?_))
      all_goals (first | rfl | simp)
    | false =>
      have c5 := tLine_ok [decS stamp, (⟨#[119, 105, 112, 101]⟩ : ByteArray), quoteF key, quoteF hi] 10000 (by simp) (by omega) (by simp [baz]; omega)
      (repeat (first | simp (maxSteps := 4000000) only [go_sem, ↓reduceIte, reduceCtorEq, Nat.reduceEqDiff, Nat.reduceBEq, Nat.reduceAdd, Nat.reduceSub, Nat.reduceMul, Nat.reduceLT, Nat.reduceLeDiff, Nat.reduceBNe, Int.reduceBEq, Int.reduceBNe, Int.reduceLT, Int.reduceLE, Msg.a, Par.a, Hld.a, tw, tn] | refine calling (c1) ?_ | refine callingH (c1) ?_ | refine calling (c2) ?_ | refine callingH (c2) ?_ | refine calling (c3) ?_ | refine callingH (c3) ?_ | refine calling (c4) ?_ | refine callingH (c4) ?_ | refine calling (c5) ?_ | refine callingH (c5) ?_ | refine And.intro (by omega) ?_ | refine And.intro (fun d hd => by (repeat (rcases hd with rfl | hd; · exact ⟨rfl, rfl⟩)); cases hd) ?_))
      all_goals (first | rfl | simp)
end
section
/-
  Layer 7 on the plain machine: operations: whether they may be, their spans.
-/
open Go.RowKit
set_option linter.unusedVariables false
set_option linter.unusedSimpArgs false
set_option maxRecDepth 100000
attribute [local go_sem ↓] runOp headOp
structure Opr where
  kind : Int
  key : ByteArray
  hi : ByteArray
  op : Bool
  val : ByteArray
  lim : Int
def Opr.a (o : Opr) : AV := .agg [.int .i64 o.kind, .str o.key, .str o.hi, .bool o.op, .str o.val, .int .i64 o.lim]
def Opr.zero : Opr := ⟨0, ⟨#[]⟩, ⟨#[]⟩, false, ⟨#[]⟩, 0⟩
structure Spn where
  lo : ByteArray
  hi : ByteArray
  op : Bool
def Spn.a (s : Spn) : AV := .agg [.str s.lo, .str s.hi, .bool s.op]
def nul : ByteArray := ⟨#[]⟩
def nextB (k : ByteArray) : ByteArray := k ++ ⟨#[0]⟩
def Opr.ranged (o : Opr) : Bool := o.kind == 4 || o.kind == 6
def Opr.valued (o : Opr) : Bool := o.kind == 1 || o.kind == 2
def Opr.span (o : Opr) : Spn := if o.ranged then ⟨o.key, o.hi, o.op⟩ else ⟨o.key, nextB o.key, false⟩
def leB (x y : ByteArray) : Bool := Op.bytesLess x.toList y.toList
def Spn.empty (s : Spn) : Bool := !s.op && !leB s.lo s.hi
def nilB (s : ByteArray) : Bool := s.toList == nul.toList
/-- no byte, or so many -/
def Opr.right (o : Opr) : Bool :=
  decide (1 ≤ o.kind) && decide (o.kind ≤ 6) && decide ((o.key.size : Int) ≤ 16) && decide ((o.hi.size : Int) ≤ 16) && decide ((o.val.size : Int) ≤ 16) &&
  (o.valued || nilB o.val) && (!o.op || nilB o.hi) && (if o.ranged then !(Spn.empty ⟨o.key, o.hi, o.op⟩) else nilB o.hi && !o.op) &&
  (if o.kind == 6 then decide (1 ≤ o.lim) && decide (o.lim ≤ 64) else o.lim == 0)
/-! ### percolate/op.valued -/
def r_valued_0 : Reg := ⟨[], [⟨(.box 6 43 (.t 0)), (some 1), none, [], []⟩, ⟨(.mv (.c (.bool false))), (some 2), none, [], []⟩], [1], [], false⟩
def t_valued_1 : List ROp := [⟨(.faddr 0 (.t 1)), (some 3), none, [], []⟩, ⟨(.load 1 false (.t 3)), (some 4), none, [], []⟩, ⟨(.bin .eql (.t 4) (.c (.int .i64 1))), (some 5), none, [], []⟩, ⟨(.mv (.t 5)), (some 6), none, [], []⟩, ⟨(.faddr 0 (.t 1)), (some 7), (some (6, false)), [], []⟩, ⟨(.load 1 false (.t 7)), (some 8), (some (6, false)), [], []⟩, ⟨(.bin .eql (.t 8) (.c (.int .i64 2))), (some 9), (some (6, false)), [], []⟩, ⟨(.pick (.t 6) (.c (.bool true)) (.t 9)), (some 10), none, [], []⟩, ⟨(.mv (.t 10)), (some 2), none, [], []⟩]
def r_valued_1 : Reg := ⟨[], t_valued_1, [], [], false⟩
def ir_valued : IR := (.seq (.reg r_valued_0)
  (.seq (.reg r_valued_1)
  .ret))
def res_valued : List RDesc := [(.tmp 2)]
theorem e_valued_0 (C : FuncId → List AV → AV → Prop) (σ : St) (K : St → Prop) : runReg C r_valued_0 σ K = runOps C [⟨(.box 6 43 (.t 0)), (some 1), none, [], []⟩, ⟨(.mv (.c (.bool false))), (some 2), none, [], []⟩] (σ.kills [1]) K := rfl
theorem e_valued_1 (C : FuncId → List AV → AV → Prop) (σ : St) (K : St → Prop) : runReg C r_valued_1 σ K = runOps C t_valued_1 (σ.kills []) K := rfl
theorem fn_valued {args : List AV} {r : AV} (ha : args.length.ble Tryd.f93.ntmps = true) (h : run (AFn Tryd.prog) ir_valued (endQ res_valued r) (initSt args)) : AFn Tryd.prog 93 args r :=
  AFn.of_code (pv := false) (hint := fun _ => []) (c := Tryd.f93.body.getD .skip) (by kernel_rfl) (by kernel_rfl) Tryd.func93 (by kernel_rfl) (by kernel_rfl) (by kernel_rfl) (of_decide_eq_true (by kernel_rfl)) (Nat.le_of_ble_eq_true ha) (Nat.le_of_ble_eq_true (by kernel_rfl)) (run_ok h)
/-! ### percolate/op.ranged -/
def r_ranged_0 : Reg := ⟨[], [⟨(.box 6 43 (.t 0)), (some 1), none, [], []⟩, ⟨(.mv (.c (.bool false))), (some 2), none, [], []⟩], [1], [], false⟩
def t_ranged_1 : List ROp := [⟨(.faddr 0 (.t 1)), (some 3), none, [], []⟩, ⟨(.load 1 false (.t 3)), (some 4), none, [], []⟩, ⟨(.bin .eql (.t 4) (.c (.int .i64 4))), (some 5), none, [], []⟩, ⟨(.mv (.t 5)), (some 6), none, [], []⟩, ⟨(.faddr 0 (.t 1)), (some 7), (some (6, false)), [], []⟩, ⟨(.load 1 false (.t 7)), (some 8), (some (6, false)), [], []⟩, ⟨(.bin .eql (.t 8) (.c (.int .i64 6))), (some 9), (some (6, false)), [], []⟩, ⟨(.pick (.t 6) (.c (.bool true)) (.t 9)), (some 10), none, [], []⟩, ⟨(.mv (.t 10)), (some 2), none, [], []⟩]
def r_ranged_1 : Reg := ⟨[], t_ranged_1, [], [], false⟩
def ir_ranged : IR := (.seq (.reg r_ranged_0)
  (.seq (.reg r_ranged_1)
  .ret))
def res_ranged : List RDesc := [(.tmp 2)]
theorem e_ranged_0 (C : FuncId → List AV → AV → Prop) (σ : St) (K : St → Prop) : runReg C r_ranged_0 σ K = runOps C [⟨(.box 6 43 (.t 0)), (some 1), none, [], []⟩, ⟨(.mv (.c (.bool false))), (some 2), none, [], []⟩] (σ.kills [1]) K := rfl
theorem e_ranged_1 (C : FuncId → List AV → AV → Prop) (σ : St) (K : St → Prop) : runReg C r_ranged_1 σ K = runOps C t_ranged_1 (σ.kills []) K := rfl
theorem fn_ranged {args : List AV} {r : AV} (ha : args.length.ble Tryd.f94.ntmps = true) (h : run (AFn Tryd.prog) ir_ranged (endQ res_ranged r) (initSt args)) : AFn Tryd.prog 94 args r :=
  AFn.of_code (pv := false) (hint := fun _ => []) (c := Tryd.f94.body.getD .skip) (by kernel_rfl) (by kernel_rfl) Tryd.func94 (by kernel_rfl) (by kernel_rfl) (by kernel_rfl) (of_decide_eq_true (by kernel_rfl)) (Nat.le_of_ble_eq_true ha) (Nat.le_of_ble_eq_true (by kernel_rfl)) (run_ok h)
/-! ### percolate/key.Right -/
def r_keyR_0 : Reg := ⟨[], [⟨(.mv (.c (.bool false))), (some 2), none, [], []⟩], [], [], false⟩
def t_keyR_1 : List ROp := [⟨(.mv (.t 0)), (some 3), none, [], []⟩, ⟨(.len true (.t 3)), (some 4), none, [], []⟩, ⟨(.bin .leq (.t 4) (.c (.int .i64 16))), (some 5), none, [], []⟩, ⟨(.mv (.t 5)), (some 2), none, [], []⟩]
def r_keyR_1 : Reg := ⟨[], t_keyR_1, [], [], false⟩
def ir_keyR : IR := (.seq (.reg r_keyR_0)
  (.seq (.reg r_keyR_1)
  .ret))
def res_keyR : List RDesc := [(.tmp 2)]
theorem e_keyR_0 (C : FuncId → List AV → AV → Prop) (σ : St) (K : St → Prop) : runReg C r_keyR_0 σ K = runOps C [⟨(.mv (.c (.bool false))), (some 2), none, [], []⟩] (σ.kills []) K := rfl
theorem e_keyR_1 (C : FuncId → List AV → AV → Prop) (σ : St) (K : St → Prop) : runReg C r_keyR_1 σ K = runOps C t_keyR_1 (σ.kills []) K := rfl
theorem fn_keyR {args : List AV} {r : AV} (ha : args.length.ble Tryd.f99.ntmps = true) (h : run (AFn Tryd.prog) ir_keyR (endQ res_keyR r) (initSt args)) : AFn Tryd.prog 99 args r :=
  AFn.of_code (pv := false) (hint := fun _ => []) (c := Tryd.f99.body.getD .skip) (by kernel_rfl) (by kernel_rfl) Tryd.func99 (by kernel_rfl) (by kernel_rfl) (by kernel_rfl) (of_decide_eq_true (by kernel_rfl)) (Nat.le_of_ble_eq_true ha) (Nat.le_of_ble_eq_true (by kernel_rfl)) (run_ok h)
/-! ### percolate/value.Right -/
def r_valR_0 : Reg := ⟨[], [⟨(.mv (.c (.bool false))), (some 2), none, [], []⟩], [], [], false⟩
def t_valR_1 : List ROp := [⟨(.mv (.t 0)), (some 3), none, [], []⟩, ⟨(.len true (.t 3)), (some 4), none, [], []⟩, ⟨(.bin .leq (.t 4) (.c (.int .i64 16))), (some 5), none, [], []⟩, ⟨(.mv (.t 5)), (some 2), none, [], []⟩]
def r_valR_1 : Reg := ⟨[], t_valR_1, [], [], false⟩
def ir_valR : IR := (.seq (.reg r_valR_0)
  (.seq (.reg r_valR_1)
  .ret))
def res_valR : List RDesc := [(.tmp 2)]
theorem e_valR_0 (C : FuncId → List AV → AV → Prop) (σ : St) (K : St → Prop) : runReg C r_valR_0 σ K = runOps C [⟨(.mv (.c (.bool false))), (some 2), none, [], []⟩] (σ.kills []) K := rfl
theorem e_valR_1 (C : FuncId → List AV → AV → Prop) (σ : St) (K : St → Prop) : runReg C r_valR_1 σ K = runOps C t_valR_1 (σ.kills []) K := rfl
theorem fn_valR {args : List AV} {r : AV} (ha : args.length.ble Tryd.f61.ntmps = true) (h : run (AFn Tryd.prog) ir_valR (endQ res_valR r) (initSt args)) : AFn Tryd.prog 61 args r :=
  AFn.of_code (pv := false) (hint := fun _ => []) (c := Tryd.f61.body.getD .skip) (by kernel_rfl) (by kernel_rfl) Tryd.func61 (by kernel_rfl) (by kernel_rfl) (by kernel_rfl) (of_decide_eq_true (by kernel_rfl)) (Nat.le_of_ble_eq_true ha) (Nat.le_of_ble_eq_true (by kernel_rfl)) (run_ok h)
/-! ### percolate/span.Empty -/
def r_sEmpty_0 : Reg := ⟨[], [⟨(.box 3 58 (.t 0)), (some 1), none, [], []⟩, ⟨(.mv (.c (.bool false))), (some 2), none, [], []⟩], [1], [], false⟩
def t_sEmpty_1 : List ROp := [⟨(.faddr 2 (.t 1)), (some 3), none, [], []⟩, ⟨(.load 1 false (.t 3)), (some 4), none, [], []⟩, ⟨(.un .not (.t 4)), (some 5), none, [], []⟩, ⟨(.mv (.t 5)), (some 6), none, [], []⟩, ⟨(.faddr 0 (.t 1)), (some 7), (some (6, true)), [], []⟩, ⟨(.load 1 false (.t 7)), (some 8), (some (6, true)), [], []⟩, ⟨(.faddr 1 (.t 1)), (some 9), (some (6, true)), [], []⟩, ⟨(.load 1 false (.t 9)), (some 10), (some (6, true)), [], []⟩, ⟨(.bin .geq (.t 8) (.t 10)), (some 11), (some (6, true)), [], []⟩, ⟨(.pick (.t 6) (.t 11) (.c (.bool false))), (some 12), none, [], []⟩, ⟨(.mv (.t 12)), (some 2), none, [], []⟩]
def r_sEmpty_1 : Reg := ⟨[], t_sEmpty_1, [], [], false⟩
def ir_sEmpty : IR := (.seq (.reg r_sEmpty_0)
  (.seq (.reg r_sEmpty_1)
  .ret))
def res_sEmpty : List RDesc := [(.tmp 2)]
theorem e_sEmpty_0 (C : FuncId → List AV → AV → Prop) (σ : St) (K : St → Prop) : runReg C r_sEmpty_0 σ K = runOps C [⟨(.box 3 58 (.t 0)), (some 1), none, [], []⟩, ⟨(.mv (.c (.bool false))), (some 2), none, [], []⟩] (σ.kills [1]) K := rfl
theorem e_sEmpty_1 (C : FuncId → List AV → AV → Prop) (σ : St) (K : St → Prop) : runReg C r_sEmpty_1 σ K = runOps C t_sEmpty_1 (σ.kills []) K := rfl
theorem fn_sEmpty {args : List AV} {r : AV} (ha : args.length.ble Tryd.f124.ntmps = true) (h : run (AFn Tryd.prog) ir_sEmpty (endQ res_sEmpty r) (initSt args)) : AFn Tryd.prog 124 args r :=
  AFn.of_code (pv := false) (hint := fun _ => []) (c := Tryd.f124.body.getD .skip) (by kernel_rfl) (by kernel_rfl) Tryd.func124 (by kernel_rfl) (by kernel_rfl) (by kernel_rfl) (of_decide_eq_true (by kernel_rfl)) (Nat.le_of_ble_eq_true ha) (Nat.le_of_ble_eq_true (by kernel_rfl)) (run_ok h)
/-! ### percolate/key.Next -/
def r_kNext_0 : Reg := ⟨[], [⟨(.mv (.c (.str ⟨#[]⟩))), (some 2), none, [], []⟩], [], [], false⟩
def t_kNext_1 : List ROp := [⟨(.mv (.t 0)), (some 3), none, [], []⟩, ⟨(.bin .add (.t 3) (.c (.str ⟨#[0]⟩))), (some 4), none, [], []⟩, ⟨(.mv (.t 4)), (some 2), none, [], []⟩]
def r_kNext_1 : Reg := ⟨[], t_kNext_1, [], [], false⟩
def ir_kNext : IR := (.seq (.reg r_kNext_0)
  (.seq (.reg r_kNext_1)
  .ret))
def res_kNext : List RDesc := [(.tmp 2)]
theorem e_kNext_0 (C : FuncId → List AV → AV → Prop) (σ : St) (K : St → Prop) : runReg C r_kNext_0 σ K = runOps C [⟨(.mv (.c (.str ⟨#[]⟩))), (some 2), none, [], []⟩] (σ.kills []) K := rfl
theorem e_kNext_1 (C : FuncId → List AV → AV → Prop) (σ : St) (K : St → Prop) : runReg C r_kNext_1 σ K = runOps C t_kNext_1 (σ.kills []) K := rfl
theorem fn_kNext {args : List AV} {r : AV} (ha : args.length.ble Tryd.f158.ntmps = true) (h : run (AFn Tryd.prog) ir_kNext (endQ res_kNext r) (initSt args)) : AFn Tryd.prog 158 args r :=
  AFn.of_code (pv := false) (hint := fun _ => []) (c := Tryd.f158.body.getD .skip) (by kernel_rfl) (by kernel_rfl) Tryd.func158 (by kernel_rfl) (by kernel_rfl) (by kernel_rfl) (of_decide_eq_true (by kernel_rfl)) (Nat.le_of_ble_eq_true ha) (Nat.le_of_ble_eq_true (by kernel_rfl)) (run_ok h)
/-! ### percolate/span.Point -/
def r_sPoint_0 : Reg := ⟨[], [⟨(.alloc 3 58 (.agg [(.str ⟨#[]⟩), (.str ⟨#[]⟩), (.bool false)])), (some 2), none, [], []⟩], [2], [], false⟩
def t_sPoint_1 : List ROp := [⟨(.mv (.t 0)), (some 3), none, [5], []⟩, ⟨(.mv (.t 0)), (some 4), none, [5], []⟩, ⟨(.callv (.c (.clo 158 [] [])) [(.t 4)]), (some 5), none, [], []⟩, ⟨(.bld [(.str ⟨#[]⟩), (.str ⟨#[]⟩), (.bool false)] [⟨0, 1, (.t 3)⟩, ⟨1, 1, (.t 5)⟩]), (some 6), none, [], []⟩, ⟨(.store 3 (.t 2) (.t 6)), none, none, [], []⟩]
def r_sPoint_1 : Reg := ⟨[], t_sPoint_1, [5], [], false⟩
def ir_sPoint : IR := (.seq (.reg r_sPoint_0)
  (.seq (.reg r_sPoint_1)
  .ret))
def res_sPoint : List RDesc := [(.cell 2 3 true)]
theorem e_sPoint_0 (C : FuncId → List AV → AV → Prop) (σ : St) (K : St → Prop) : runReg C r_sPoint_0 σ K = runOps C [⟨(.alloc 3 58 (.agg [(.str ⟨#[]⟩), (.str ⟨#[]⟩), (.bool false)])), (some 2), none, [], []⟩] (σ.kills [2]) K := rfl
theorem e_sPoint_1 (C : FuncId → List AV → AV → Prop) (σ : St) (K : St → Prop) : runReg C r_sPoint_1 σ K = runOps C t_sPoint_1 (σ.kills [5]) K := rfl
theorem fn_sPoint {args : List AV} {r : AV} (ha : args.length.ble Tryd.f145.ntmps = true) (h : run (AFn Tryd.prog) ir_sPoint (endQ res_sPoint r) (initSt args)) : AFn Tryd.prog 145 args r :=
  AFn.of_code (pv := false) (hint := fun _ => []) (c := Tryd.f145.body.getD .skip) (by kernel_rfl) (by kernel_rfl) Tryd.func145 (by kernel_rfl) (by kernel_rfl) (by kernel_rfl) (of_decide_eq_true (by kernel_rfl)) (Nat.le_of_ble_eq_true ha) (Nat.le_of_ble_eq_true (by kernel_rfl)) (run_ok h)
/-! ### percolate/op.Span -/
def t_oSpan_0 : List ROp := [⟨(.box 6 43 (.t 0)), (some 1), none, [2], []⟩, ⟨(.alloc 3 58 (.agg [(.str ⟨#[]⟩), (.str ⟨#[]⟩), (.bool false)])), (some 2), none, [], []⟩]
def r_oSpan_0 : Reg := ⟨[], t_oSpan_0, [1, 2], [], false⟩
def r_oSpan_1 : Reg := ⟨[], [⟨(.load 6 true (.t 1)), (some 3), none, [4], []⟩, ⟨(.callv (.c (.clo 94 [] [])) [(.t 3)]), (some 4), none, [], []⟩], [4], [], false⟩
def t_oSpan_2 : List ROp := [⟨(.faddr 1 (.t 1)), (some 5), none, [], []⟩, ⟨(.load 1 false (.t 5)), (some 6), none, [], []⟩, ⟨(.faddr 2 (.t 1)), (some 7), none, [], []⟩, ⟨(.load 1 false (.t 7)), (some 8), none, [], []⟩, ⟨(.faddr 3 (.t 1)), (some 9), none, [], []⟩, ⟨(.load 1 false (.t 9)), (some 10), none, [], []⟩, ⟨(.bld [(.str ⟨#[]⟩), (.str ⟨#[]⟩), (.bool false)] [⟨0, 1, (.t 6)⟩, ⟨1, 1, (.t 8)⟩, ⟨2, 1, (.t 10)⟩]), (some 11), none, [], []⟩, ⟨(.store 3 (.t 2) (.t 11)), none, none, [], []⟩]
def r_oSpan_2 : Reg := ⟨[], t_oSpan_2, [], [], false⟩
def t_oSpan_3 : List ROp := [⟨(.faddr 1 (.t 1)), (some 12), none, [14], []⟩, ⟨(.load 1 false (.t 12)), (some 13), none, [14], []⟩, ⟨(.callv (.c (.clo 145 [] [])) [(.t 13)]), (some 14), none, [], []⟩, ⟨(.store 3 (.t 2) (.t 14)), none, none, [], []⟩]
def r_oSpan_3 : Reg := ⟨[], t_oSpan_3, [14], [], false⟩
def ir_oSpan : IR := (.seq (.reg r_oSpan_0)
  (.seq (.seq (.reg r_oSpan_1)
  (.cond (.t 4) (.seq (.reg r_oSpan_2)
  .ret)
  .skip))
  (.seq (.reg r_oSpan_3)
  .ret)))
def res_oSpan : List RDesc := [(.cell 2 3 true)]
theorem e_oSpan_0 (C : FuncId → List AV → AV → Prop) (σ : St) (K : St → Prop) : runReg C r_oSpan_0 σ K = runOps C t_oSpan_0 (σ.kills [1, 2]) K := rfl
theorem e_oSpan_1 (C : FuncId → List AV → AV → Prop) (σ : St) (K : St → Prop) : runReg C r_oSpan_1 σ K = runOps C [⟨(.load 6 true (.t 1)), (some 3), none, [4], []⟩, ⟨(.callv (.c (.clo 94 [] [])) [(.t 3)]), (some 4), none, [], []⟩] (σ.kills [4]) K := rfl
theorem e_oSpan_2 (C : FuncId → List AV → AV → Prop) (σ : St) (K : St → Prop) : runReg C r_oSpan_2 σ K = runOps C t_oSpan_2 (σ.kills []) K := rfl
theorem e_oSpan_3 (C : FuncId → List AV → AV → Prop) (σ : St) (K : St → Prop) : runReg C r_oSpan_3 σ K = runOps C t_oSpan_3 (σ.kills [14]) K := rfl
theorem fn_oSpan {args : List AV} {r : AV} (ha : args.length.ble Tryd.f125.ntmps = true) (h : run (AFn Tryd.prog) ir_oSpan (endQ res_oSpan r) (initSt args)) : AFn Tryd.prog 125 args r :=
  AFn.of_code (pv := false) (hint := fun _ => []) (c := Tryd.f125.body.getD .skip) (by kernel_rfl) (by kernel_rfl) Tryd.func125 (by kernel_rfl) (by kernel_rfl) (by kernel_rfl) (of_decide_eq_true (by kernel_rfl)) (Nat.le_of_ble_eq_true ha) (Nat.le_of_ble_eq_true (by kernel_rfl)) (run_ok h)
attribute [local go_sem ↓] ir_valued
attribute [local go_sem] res_valued e_valued_0 e_valued_1 t_valued_1
attribute [local go_sem ↓] ir_ranged
attribute [local go_sem] res_ranged e_ranged_0 e_ranged_1 t_ranged_1
attribute [local go_sem ↓] ir_keyR
attribute [local go_sem] res_keyR e_keyR_0 e_keyR_1 t_keyR_1
attribute [local go_sem ↓] ir_valR
attribute [local go_sem] res_valR e_valR_0 e_valR_1 t_valR_1
attribute [local go_sem ↓] ir_sEmpty
attribute [local go_sem] res_sEmpty e_sEmpty_0 e_sEmpty_1 t_sEmpty_1
attribute [local go_sem ↓] ir_kNext
attribute [local go_sem] res_kNext e_kNext_0 e_kNext_1 t_kNext_1
attribute [local go_sem ↓] ir_sPoint
attribute [local go_sem] res_sPoint e_sPoint_0 e_sPoint_1 t_sPoint_1
attribute [local go_sem ↓] ir_oSpan
attribute [local go_sem] res_oSpan e_oSpan_0 t_oSpan_0 e_oSpan_1 e_oSpan_2 t_oSpan_2 e_oSpan_3 t_oSpan_3
theorem valued_ok (o : Opr) : AFn Tryd.prog 93 [o.a] (.bool o.valued) := by
  refine fn_valued rfl ?_
  unfold Opr.valued
  cases h1 : (o.kind == 1) <;> cases h2 : (o.kind == 2) <;> (simp (maxSteps := 4000000) only [go_sem, ↓reduceIte, reduceCtorEq, Nat.reduceEqDiff, Nat.reduceBEq, Nat.reduceAdd, Nat.reduceSub, Nat.reduceMul, Nat.reduceLT, Nat.reduceLeDiff, Nat.reduceBNe, Int.reduceBEq, Int.reduceBNe, Int.reduceLT, Int.reduceLE, Opr.a, Spn.a, nul, h1, h2])
theorem ranged_ok (o : Opr) : AFn Tryd.prog 94 [o.a] (.bool o.ranged) := by
  refine fn_ranged rfl ?_
  unfold Opr.ranged
  cases h1 : (o.kind == 4) <;> cases h2 : (o.kind == 6) <;> (simp (maxSteps := 4000000) only [go_sem, ↓reduceIte, reduceCtorEq, Nat.reduceEqDiff, Nat.reduceBEq, Nat.reduceAdd, Nat.reduceSub, Nat.reduceMul, Nat.reduceLT, Nat.reduceLeDiff, Nat.reduceBNe, Int.reduceBEq, Int.reduceBNe, Int.reduceLT, Int.reduceLE, Opr.a, Spn.a, nul, h1, h2])
theorem keyR_ok (s : ByteArray) : AFn Tryd.prog 99 [.str s] (.bool (decide ((s.size : Int) ≤ 16))) := by
  refine fn_keyR rfl ?_
  simp (maxSteps := 4000000) only [go_sem, ↓reduceIte, reduceCtorEq, Nat.reduceEqDiff, Nat.reduceBEq, Nat.reduceAdd, Nat.reduceSub, Nat.reduceMul, Nat.reduceLT, Nat.reduceLeDiff, Nat.reduceBNe, Int.reduceBEq, Int.reduceBNe, Int.reduceLT, Int.reduceLE, Opr.a, Spn.a, nul]
theorem valR_ok (s : ByteArray) : AFn Tryd.prog 61 [.str s] (.bool (decide ((s.size : Int) ≤ 16))) := by
  refine fn_valR rfl ?_
  simp (maxSteps := 4000000) only [go_sem, ↓reduceIte, reduceCtorEq, Nat.reduceEqDiff, Nat.reduceBEq, Nat.reduceAdd, Nat.reduceSub, Nat.reduceMul, Nat.reduceLT, Nat.reduceLeDiff, Nat.reduceBNe, Int.reduceBEq, Int.reduceBNe, Int.reduceLT, Int.reduceLE, Opr.a, Spn.a, nul]
theorem sEmpty_ok (s : Spn) : AFn Tryd.prog 124 [s.a] (.bool s.empty) := by
  refine fn_sEmpty rfl ?_
  unfold Spn.empty leB
  cases h1 : s.op <;> (simp (maxSteps := 4000000) only [go_sem, ↓reduceIte, reduceCtorEq, Nat.reduceEqDiff, Nat.reduceBEq, Nat.reduceAdd, Nat.reduceSub, Nat.reduceMul, Nat.reduceLT, Nat.reduceLeDiff, Nat.reduceBNe, Int.reduceBEq, Int.reduceBNe, Int.reduceLT, Int.reduceLE, Opr.a, Spn.a, nul, h1])
theorem kNext_ok (s : ByteArray) (h : s.size ≤ 9000000000) : AFn Tryd.prog 158 [.str s] (.str (nextB s)) := by
  refine fn_kNext rfl ?_
  unfold nextB
  simp (maxSteps := 4000000) only [go_sem, ↓reduceIte, reduceCtorEq, Nat.reduceEqDiff, Nat.reduceBEq, Nat.reduceAdd, Nat.reduceSub, Nat.reduceMul, Nat.reduceLT, Nat.reduceLeDiff, Nat.reduceBNe, Int.reduceBEq, Int.reduceBNe, Int.reduceLT, Int.reduceLE, Opr.a, Spn.a, nul]
  show s.size + 1 ≤ _
  omega
theorem sPoint_ok (s : ByteArray) (h : s.size ≤ 9000000000) : AFn Tryd.prog 145 [.str s] (Spn.a ⟨s, nextB s, false⟩) := by
  refine fn_sPoint rfl ?_
  simp (maxSteps := 4000000) only [go_sem, ↓reduceIte, reduceCtorEq, Nat.reduceEqDiff, Nat.reduceBEq, Nat.reduceAdd, Nat.reduceSub, Nat.reduceMul, Nat.reduceLT, Nat.reduceLeDiff, Nat.reduceBNe, Int.reduceBEq, Int.reduceBNe, Int.reduceLT, Int.reduceLE, Opr.a, Spn.a, nul]
  (first | refine calling (kNext_ok s h) ?_ | refine callingH (kNext_ok s h) ?_)
  simp (maxSteps := 4000000) only [go_sem, ↓reduceIte, reduceCtorEq, Nat.reduceEqDiff, Nat.reduceBEq, Nat.reduceAdd, Nat.reduceSub, Nat.reduceMul, Nat.reduceLT, Nat.reduceLeDiff, Nat.reduceBNe, Int.reduceBEq, Int.reduceBNe, Int.reduceLT, Int.reduceLE, Opr.a, Spn.a, nul]
theorem oSpan_ok (o : Opr) (h : o.key.size ≤ 9000000000) : AFn Tryd.prog 125 [o.a] o.span.a := by
  refine fn_oSpan rfl ?_
  unfold Opr.span
  simp (maxSteps := 4000000) only [go_sem, ↓reduceIte, reduceCtorEq, Nat.reduceEqDiff, Nat.reduceBEq, Nat.reduceAdd, Nat.reduceSub, Nat.reduceMul, Nat.reduceLT, Nat.reduceLeDiff, Nat.reduceBNe, Int.reduceBEq, Int.reduceBNe, Int.reduceLT, Int.reduceLE, Opr.a, Spn.a, nul]
  (first | refine calling (ranged_ok o) ?_ | refine callingH (ranged_ok o) ?_)
  cases h1 : o.ranged with
  | true => simp (maxSteps := 4000000) only [go_sem, ↓reduceIte, reduceCtorEq, Nat.reduceEqDiff, Nat.reduceBEq, Nat.reduceAdd, Nat.reduceSub, Nat.reduceMul, Nat.reduceLT, Nat.reduceLeDiff, Nat.reduceBNe, Int.reduceBEq, Int.reduceBNe, Int.reduceLT, Int.reduceLE, Opr.a, Spn.a, nul, h1]
  | false =>
    simp (maxSteps := 4000000) only [go_sem, ↓reduceIte, reduceCtorEq, Nat.reduceEqDiff, Nat.reduceBEq, Nat.reduceAdd, Nat.reduceSub, Nat.reduceMul, Nat.reduceLT, Nat.reduceLeDiff, Nat.reduceBNe, Int.reduceBEq, Int.reduceBNe, Int.reduceLT, Int.reduceLE, Opr.a, Spn.a, nul, h1]
    (first | refine calling (sPoint_ok o.key h) ?_ | refine callingH (sPoint_ok o.key h) ?_)
    simp (maxSteps := 4000000) only [go_sem, ↓reduceIte, reduceCtorEq, Nat.reduceEqDiff, Nat.reduceBEq, Nat.reduceAdd, Nat.reduceSub, Nat.reduceMul, Nat.reduceLT, Nat.reduceLeDiff, Nat.reduceBNe, Int.reduceBEq, Int.reduceBNe, Int.reduceLT, Int.reduceLE, Opr.a, Spn.a, nul, h1]
end
section
/-
  Layer 7 on the plain machine: whether an operation may be.
-/
open Go.RowKit
set_option linter.unusedVariables false
set_option linter.unusedSimpArgs false
set_option maxRecDepth 100000
attribute [local go_sem ↓] runOp headOp
/-! ### percolate/op.Right -/
def r_oRight_0 : Reg := ⟨[], [⟨(.box 6 43 (.t 0)), (some 1), none, [], []⟩, ⟨(.mv (.c (.int .i64 0))), (some 2), none, [], []⟩], [1], [], false⟩
def t_oRight_1 : List ROp := [⟨(.faddr 0 (.t 1)), (some 4), none, [15, 20, 25], []⟩, ⟨(.load 1 false (.t 4)), (some 5), none, [15, 20, 25], []⟩, ⟨(.bin .geq (.t 5) (.c (.int .i64 1))), (some 6), none, [15, 20, 25], []⟩, ⟨(.mv (.t 6)), (some 7), none, [15, 20, 25], []⟩, ⟨(.faddr 0 (.t 1)), (some 8), (some (7, true)), [15, 20, 25], []⟩, ⟨(.load 1 false (.t 8)), (some 9), (some (7, true)), [15, 20, 25], []⟩, ⟨(.bin .leq (.t 9) (.c (.int .i64 6))), (some 10), (some (7, true)), [15, 20, 25], []⟩, ⟨(.pick (.t 7) (.t 10) (.c (.bool false))), (some 11), none, [15, 20, 25], []⟩, ⟨(.mv (.t 11)), (some 12), none, [15, 20, 25], []⟩, ⟨(.faddr 1 (.t 1)), (some 13), (some (12, true)), [15, 20, 25], []⟩, ⟨(.load 1 false (.t 13)), (some 14), (some (12, true)), [15, 20, 25], []⟩, ⟨(.callv (.c (.clo 99 [] [])) [(.t 14)]), (some 15), (some (12, true)), [20, 25], []⟩, ⟨(.pick (.t 12) (.t 15) (.c (.bool false))), (some 16), none, [20, 25], []⟩, ⟨(.mv (.t 16)), (some 17), none, [20, 25], []⟩, ⟨(.faddr 2 (.t 1)), (some 18), (some (17, true)), [20, 25], []⟩, ⟨(.load 1 false (.t 18)), (some 19), (some (17, true)), [20, 25], []⟩, ⟨(.callv (.c (.clo 99 [] [])) [(.t 19)]), (some 20), (some (17, true)), [25], []⟩, ⟨(.pick (.t 17) (.t 20) (.c (.bool false))), (some 21), none, [25], []⟩, ⟨(.mv (.t 21)), (some 22), none, [25], []⟩, ⟨(.faddr 4 (.t 1)), (some 23), (some (22, true)), [25], []⟩, ⟨(.load 1 false (.t 23)), (some 24), (some (22, true)), [25], []⟩, ⟨(.callv (.c (.clo 61 [] [])) [(.t 24)]), (some 25), (some (22, true)), [], []⟩, ⟨(.pick (.t 22) (.t 25) (.c (.bool false))), (some 26), none, [], []⟩, ⟨(.mv (.t 26)), (some 3), none, [], []⟩]
def r_oRight_1 : Reg := ⟨[], t_oRight_1, [15, 20, 25], [], false⟩
def t_oRight_2 : List ROp := [⟨(.mv (.t 3)), (some 27), none, [30], []⟩, ⟨(.mv (.t 27)), (some 28), none, [30], []⟩, ⟨(.load 6 true (.t 1)), (some 29), (some (28, true)), [30], []⟩, ⟨(.callv (.c (.clo 93 [] [])) [(.t 29)]), (some 30), (some (28, true)), [], []⟩, ⟨(.mv (.t 30)), (some 31), (some (28, true)), [], []⟩, ⟨(.faddr 4 (.t 1)), (some 32), (some (31, false)), [], []⟩, ⟨(.load 1 false (.t 32)), (some 33), (some (31, false)), [], []⟩, ⟨(.bin .eql (.t 33) (.c (.str ⟨#[]⟩))), (some 34), (some (31, false)), [], []⟩, ⟨(.pick (.t 31) (.c (.bool true)) (.t 34)), (some 35), (some (28, true)), [], []⟩, ⟨(.pick (.t 28) (.t 35) (.c (.bool false))), (some 36), none, [], []⟩, ⟨(.mv (.t 36)), (some 37), none, [], []⟩, ⟨(.faddr 3 (.t 1)), (some 38), (some (37, true)), [], []⟩, ⟨(.load 1 false (.t 38)), (some 39), (some (37, true)), [], []⟩, ⟨(.un .not (.t 39)), (some 40), (some (37, true)), [], []⟩, ⟨(.mv (.t 40)), (some 41), (some (37, true)), [], []⟩, ⟨(.faddr 2 (.t 1)), (some 42), (some (41, false)), [], []⟩, ⟨(.load 1 false (.t 42)), (some 43), (some (41, false)), [], []⟩, ⟨(.bin .eql (.t 43) (.c (.str ⟨#[]⟩))), (some 44), (some (41, false)), [], []⟩, ⟨(.pick (.t 41) (.c (.bool true)) (.t 44)), (some 45), (some (37, true)), [], []⟩, ⟨(.pick (.t 37) (.t 45) (.c (.bool false))), (some 46), none, [], []⟩, ⟨(.mv (.t 46)), (some 3), none, [], []⟩]
def r_oRight_2 : Reg := ⟨[], t_oRight_2, [30], [], false⟩
def t_oRight_3 : List ROp := [⟨(.load 6 true (.t 1)), (some 47), none, [48], []⟩, ⟨(.callv (.c (.clo 94 [] [])) [(.t 47)]), (some 48), none, [], []⟩]
def r_oRight_3 : Reg := ⟨[], t_oRight_3, [48], [], false⟩
def t_oRight_4 : List ROp := [⟨(.mv (.t 3)), (some 49), none, [52, 53], []⟩, ⟨(.mv (.t 49)), (some 50), none, [52, 53], []⟩, ⟨(.load 6 true (.t 1)), (some 51), (some (50, true)), [52, 53], []⟩, ⟨(.callv (.c (.clo 125 [] [])) [(.t 51)]), (some 52), (some (50, true)), [53], []⟩, ⟨(.callv (.c (.clo 124 [] [])) [(.t 52)]), (some 53), (some (50, true)), [], []⟩, ⟨(.un .not (.t 53)), (some 54), (some (50, true)), [], []⟩, ⟨(.pick (.t 50) (.t 54) (.c (.bool false))), (some 55), none, [], []⟩, ⟨(.mv (.t 55)), (some 3), none, [], []⟩]
def r_oRight_4 : Reg := ⟨[], t_oRight_4, [52, 53], [], false⟩
def t_oRight_5 : List ROp := [⟨(.mv (.t 3)), (some 56), none, [], []⟩, ⟨(.mv (.t 56)), (some 57), none, [], []⟩, ⟨(.faddr 2 (.t 1)), (some 58), (some (57, true)), [], []⟩, ⟨(.load 1 false (.t 58)), (some 59), (some (57, true)), [], []⟩, ⟨(.bin .eql (.t 59) (.c (.str ⟨#[]⟩))), (some 60), (some (57, true)), [], []⟩, ⟨(.pick (.t 57) (.t 60) (.c (.bool false))), (some 61), none, [], []⟩, ⟨(.mv (.t 61)), (some 62), none, [], []⟩, ⟨(.faddr 3 (.t 1)), (some 63), (some (62, true)), [], []⟩, ⟨(.load 1 false (.t 63)), (some 64), (some (62, true)), [], []⟩, ⟨(.un .not (.t 64)), (some 65), (some (62, true)), [], []⟩, ⟨(.pick (.t 62) (.t 65) (.c (.bool false))), (some 66), none, [], []⟩, ⟨(.mv (.t 66)), (some 3), none, [], []⟩]
def r_oRight_5 : Reg := ⟨[], t_oRight_5, [], [], false⟩
def t_oRight_6 : List ROp := [⟨(.faddr 0 (.t 1)), (some 67), none, [], []⟩, ⟨(.load 1 false (.t 67)), (some 68), none, [], []⟩, ⟨(.bin .eql (.t 68) (.c (.int .i64 6))), (some 69), none, [], []⟩]
def r_oRight_6 : Reg := ⟨[], t_oRight_6, [], [], false⟩
def t_oRight_7 : List ROp := [⟨(.mv (.t 3)), (some 70), none, [], []⟩, ⟨(.mv (.t 70)), (some 71), none, [], []⟩, ⟨(.faddr 5 (.t 1)), (some 72), (some (71, true)), [], []⟩, ⟨(.load 1 false (.t 72)), (some 73), (some (71, true)), [], []⟩, ⟨(.bin .geq (.t 73) (.c (.int .i64 1))), (some 74), (some (71, true)), [], []⟩, ⟨(.pick (.t 71) (.t 74) (.c (.bool false))), (some 75), none, [], []⟩, ⟨(.mv (.t 75)), (some 76), none, [], []⟩, ⟨(.faddr 5 (.t 1)), (some 77), (some (76, true)), [], []⟩, ⟨(.load 1 false (.t 77)), (some 78), (some (76, true)), [], []⟩, ⟨(.bin .leq (.t 78) (.c (.int .i64 64))), (some 79), (some (76, true)), [], []⟩, ⟨(.pick (.t 76) (.t 79) (.c (.bool false))), (some 80), none, [], []⟩, ⟨(.mv (.t 80)), (some 3), none, [], []⟩]
def r_oRight_7 : Reg := ⟨[], t_oRight_7, [], [], false⟩
def t_oRight_8 : List ROp := [⟨(.mv (.t 3)), (some 81), none, [], []⟩, ⟨(.mv (.t 81)), (some 82), none, [], []⟩, ⟨(.faddr 5 (.t 1)), (some 83), (some (82, true)), [], []⟩, ⟨(.load 1 false (.t 83)), (some 84), (some (82, true)), [], []⟩, ⟨(.bin .eql (.t 84) (.c (.int .i64 0))), (some 85), (some (82, true)), [], []⟩, ⟨(.pick (.t 82) (.t 85) (.c (.bool false))), (some 86), none, [], []⟩, ⟨(.mv (.t 86)), (some 3), none, [], []⟩]
def r_oRight_8 : Reg := ⟨[], t_oRight_8, [], [], false⟩
def r_oRight_9 : Reg := ⟨[], [⟨(.mv (.t 3)), (some 87), none, [], []⟩, ⟨(.un .not (.t 87)), (some 88), none, [], []⟩], [], [], false⟩
def r_oRight_10 : Reg := ⟨[], [⟨(.mv (.c (.int .i64 3))), (some 2), none, [], []⟩], [], [], false⟩
def r_oRight_11 : Reg := ⟨[], [⟨(.mv (.c (.int .i64 0))), (some 2), none, [], []⟩], [], [], false⟩
def ir_oRight : IR := (.seq (.reg r_oRight_0)
  (.seq (.reg r_oRight_1)
  (.seq (.reg r_oRight_2)
  (.seq (.seq (.reg r_oRight_3)
  (.cond (.t 48) (.reg r_oRight_4)
  (.reg r_oRight_5)))
  (.seq (.seq (.reg r_oRight_6)
  (.cond (.t 69) (.reg r_oRight_7)
  (.reg r_oRight_8)))
  (.seq (.seq (.reg r_oRight_9)
  (.cond (.t 88) (.seq (.reg r_oRight_10)
  .ret)
  .skip))
  (.seq (.reg r_oRight_11)
  .ret)))))))
def res_oRight : List RDesc := [(.tmp 2)]
theorem e_oRight_0 (C : FuncId → List AV → AV → Prop) (σ : St) (K : St → Prop) : runReg C r_oRight_0 σ K = runOps C [⟨(.box 6 43 (.t 0)), (some 1), none, [], []⟩, ⟨(.mv (.c (.int .i64 0))), (some 2), none, [], []⟩] (σ.kills [1]) K := rfl
theorem e_oRight_1 (C : FuncId → List AV → AV → Prop) (σ : St) (K : St → Prop) : runReg C r_oRight_1 σ K = runOps C t_oRight_1 (σ.kills [15, 20, 25]) K := rfl
theorem e_oRight_2 (C : FuncId → List AV → AV → Prop) (σ : St) (K : St → Prop) : runReg C r_oRight_2 σ K = runOps C t_oRight_2 (σ.kills [30]) K := rfl
theorem e_oRight_3 (C : FuncId → List AV → AV → Prop) (σ : St) (K : St → Prop) : runReg C r_oRight_3 σ K = runOps C t_oRight_3 (σ.kills [48]) K := rfl
theorem e_oRight_4 (C : FuncId → List AV → AV → Prop) (σ : St) (K : St → Prop) : runReg C r_oRight_4 σ K = runOps C t_oRight_4 (σ.kills [52, 53]) K := rfl
theorem e_oRight_5 (C : FuncId → List AV → AV → Prop) (σ : St) (K : St → Prop) : runReg C r_oRight_5 σ K = runOps C t_oRight_5 (σ.kills []) K := rfl
theorem e_oRight_6 (C : FuncId → List AV → AV → Prop) (σ : St) (K : St → Prop) : runReg C r_oRight_6 σ K = runOps C t_oRight_6 (σ.kills []) K := rfl
theorem e_oRight_7 (C : FuncId → List AV → AV → Prop) (σ : St) (K : St → Prop) : runReg C r_oRight_7 σ K = runOps C t_oRight_7 (σ.kills []) K := rfl
theorem e_oRight_8 (C : FuncId → List AV → AV → Prop) (σ : St) (K : St → Prop) : runReg C r_oRight_8 σ K = runOps C t_oRight_8 (σ.kills []) K := rfl
theorem e_oRight_9 (C : FuncId → List AV → AV → Prop) (σ : St) (K : St → Prop) : runReg C r_oRight_9 σ K = runOps C [⟨(.mv (.t 3)), (some 87), none, [], []⟩, ⟨(.un .not (.t 87)), (some 88), none, [], []⟩] (σ.kills []) K := rfl
theorem e_oRight_10 (C : FuncId → List AV → AV → Prop) (σ : St) (K : St → Prop) : runReg C r_oRight_10 σ K = runOps C [⟨(.mv (.c (.int .i64 3))), (some 2), none, [], []⟩] (σ.kills []) K := rfl
theorem e_oRight_11 (C : FuncId → List AV → AV → Prop) (σ : St) (K : St → Prop) : runReg C r_oRight_11 σ K = runOps C [⟨(.mv (.c (.int .i64 0))), (some 2), none, [], []⟩] (σ.kills []) K := rfl
theorem fn_oRight {args : List AV} {r : AV} (ha : args.length.ble Tryd.f91.ntmps = true) (h : run (AFn Tryd.prog) ir_oRight (endQ res_oRight r) (initSt args)) : AFn Tryd.prog 91 args r :=
  AFn.of_code (pv := false) (hint := fun _ => []) (c := Tryd.f91.body.getD .skip) (by kernel_rfl) (by kernel_rfl) Tryd.func91 (by kernel_rfl) (by kernel_rfl) (by kernel_rfl) (of_decide_eq_true (by kernel_rfl)) (Nat.le_of_ble_eq_true ha) (Nat.le_of_ble_eq_true (by kernel_rfl)) (run_ok h)
attribute [local go_sem ↓] ir_oRight
attribute [local go_sem] res_oRight e_oRight_0 e_oRight_1 t_oRight_1 e_oRight_2 t_oRight_2 e_oRight_3 t_oRight_3 e_oRight_4 t_oRight_4 e_oRight_5 t_oRight_5 e_oRight_6 t_oRight_6 e_oRight_7 t_oRight_7 e_oRight_8 t_oRight_8 e_oRight_9 e_oRight_10 e_oRight_11
set_option maxHeartbeats 4000000 in
/-- the tests one behind the other -/
theorem oRight_ok (o : Opr) (h : o.key.size ≤ 9000000000) : AFn Tryd.prog 91 [o.a] (.int .i64 (if o.right then 0 else 3)) := by
  refine fn_oRight rfl ?_
  obtain ⟨kind, key, hi, op, val, lim⟩ := o
  have hsp : ∀ k, k = 4 ∨ k = 6 → Opr.span ⟨k, key, hi, op, val, lim⟩ = ⟨key, hi, op⟩ := by
    rintro k (rfl | rfl) <;> rfl
  have sE : ∀ k, k = 4 ∨ k = 6 → AFn Tryd.prog 125 [.agg [.int .i64 k, .str key, .str hi, .bool op, .str val, .int .i64 lim]] (.agg [.str key, .str hi, .bool op]) := fun k hk => by
    have := oSpan_ok ⟨k, key, hi, op, val, lim⟩ h
    rw [hsp k hk] at this
    exact this
  have eE : AFn Tryd.prog 124 [.agg [.str key, .str hi, .bool op]] (.bool (!op && !leB key hi)) := sEmpty_ok ⟨key, hi, op⟩
  have out : (kind < 1 ∨ 6 < kind) → run (AFn Tryd.prog) ir_oRight (endQ res_oRight (.int .i64 (if (Opr.right ⟨kind, key, hi, op, val, lim⟩) then 0 else 3))) (initSt [Opr.a ⟨kind, key, hi, op, val, lim⟩]) := by
    intro hk
    have h4 : (kind == 4) = false := by rw [beq_eq_false_iff_ne]; omega
    have h6 : (kind == 6) = false := by rw [beq_eq_false_iff_ne]; omega
    have hr := ranged_ok ⟨kind, key, hi, op, val, lim⟩
    simp only [Opr.a, Opr.ranged, h4, h6, Bool.or_self] at hr
    rcases hk with hk | hk
    · have k1 : ¬ 1 ≤ kind := by omega
      have ans : Opr.right ⟨kind, key, hi, op, val, lim⟩ = false := by unfold Opr.right; simp [k1]
      rw [ans]
      (repeat (first | simp (maxSteps := 4000000) only [go_sem, ↓reduceIte, reduceCtorEq, Nat.reduceEqDiff, Nat.reduceBEq, Nat.reduceAdd, Nat.reduceSub, Nat.reduceMul, Nat.reduceLT, Nat.reduceLeDiff, Nat.reduceBNe, Int.reduceBEq, Int.reduceBNe, Int.reduceLT, Int.reduceLE, Opr.a, Spn.a, nul, k1, h4, h6] | refine calling (hr) ?_ | refine callingH (hr) ?_ | refine And.intro (by omega) ?_ | refine And.intro (fun d hd => by (repeat (rcases hd with rfl | hd; · exact ⟨rfl, rfl⟩)); cases hd) ?_))
    · have k1 : 1 ≤ kind := by omega
      have k2 : ¬ kind ≤ 6 := by omega
      have ans : Opr.right ⟨kind, key, hi, op, val, lim⟩ = false := by unfold Opr.right; simp [k1, k2]
      rw [ans]
      (repeat (first | simp (maxSteps := 4000000) only [go_sem, ↓reduceIte, reduceCtorEq, Nat.reduceEqDiff, Nat.reduceBEq, Nat.reduceAdd, Nat.reduceSub, Nat.reduceMul, Nat.reduceLT, Nat.reduceLeDiff, Nat.reduceBNe, Int.reduceBEq, Int.reduceBNe, Int.reduceLT, Int.reduceLE, Opr.a, Spn.a, nul, k1, k2, h4, h6] | refine calling (hr) ?_ | refine callingH (hr) ?_ | refine And.intro (by omega) ?_ | refine And.intro (fun d hd => by (repeat (rcases hd with rfl | hd; · exact ⟨rfl, rfl⟩)); cases hd) ?_))
  have sE0 := sE
  clear sE
  have hk : (kind < 1 ∨ 6 < kind) ∨ kind = 1 ∨ kind = 2 ∨ kind = 3 ∨ kind = 4 ∨ kind = 5 ∨ kind = 6 := by omega
  rcases hk with hk | rfl | rfl | rfl | rfl | rfl | rfl
  · exact out hk
  · -- kind 1
    have hv : AFn Tryd.prog 93 [.agg [.int .i64 1, .str key, .str hi, .bool op, .str val, .int .i64 lim]] (.bool true) := valued_ok ⟨1, key, hi, op, val, lim⟩
    have hr : AFn Tryd.prog 94 [.agg [.int .i64 1, .str key, .str hi, .bool op, .str val, .int .i64 lim]] (.bool false) := ranged_ok ⟨1, key, hi, op, val, lim⟩
    by_cases ha : (key.size : Int) ≤ 16
    case neg =>
      (repeat (first | simp (maxSteps := 4000000) only [go_sem, ↓reduceIte, reduceCtorEq, Nat.reduceEqDiff, Nat.reduceBEq, Nat.reduceAdd, Nat.reduceSub, Nat.reduceMul, Nat.reduceLT, Nat.reduceLeDiff, Nat.reduceBNe, Int.reduceBEq, Int.reduceBNe, Int.reduceLT, Int.reduceLE, Opr.a, Spn.a, nul, Opr.right, Opr.valued, Opr.ranged, Spn.empty, nilB, Int.reduceBEq, Bool.or_self, ha] | refine calling (hv) ?_ | refine callingH (hv) ?_ | refine calling (hr) ?_ | refine callingH (hr) ?_ | refine calling (keyR_ok key) ?_ | refine callingH (keyR_ok key) ?_ | refine calling (keyR_ok hi) ?_ | refine callingH (keyR_ok hi) ?_ | refine calling (valR_ok val) ?_ | refine callingH (valR_ok val) ?_ | refine And.intro (by omega) ?_ | refine And.intro (fun d hd => by (repeat (rcases hd with rfl | hd; · exact ⟨rfl, rfl⟩)); cases hd) ?_))
    by_cases hb : (hi.size : Int) ≤ 16
    case neg =>
      (repeat (first | simp (maxSteps := 4000000) only [go_sem, ↓reduceIte, reduceCtorEq, Nat.reduceEqDiff, Nat.reduceBEq, Nat.reduceAdd, Nat.reduceSub, Nat.reduceMul, Nat.reduceLT, Nat.reduceLeDiff, Nat.reduceBNe, Int.reduceBEq, Int.reduceBNe, Int.reduceLT, Int.reduceLE, Opr.a, Spn.a, nul, Opr.right, Opr.valued, Opr.ranged, Spn.empty, nilB, Int.reduceBEq, Bool.or_self, ha, hb] | refine calling (hv) ?_ | refine callingH (hv) ?_ | refine calling (hr) ?_ | refine callingH (hr) ?_ | refine calling (keyR_ok key) ?_ | refine callingH (keyR_ok key) ?_ | refine calling (keyR_ok hi) ?_ | refine callingH (keyR_ok hi) ?_ | refine calling (valR_ok val) ?_ | refine callingH (valR_ok val) ?_ | refine And.intro (by omega) ?_ | refine And.intro (fun d hd => by (repeat (rcases hd with rfl | hd; · exact ⟨rfl, rfl⟩)); cases hd) ?_))
    by_cases hc : (val.size : Int) ≤ 16
    case neg =>
      (repeat (first | simp (maxSteps := 4000000) only [go_sem, ↓reduceIte, reduceCtorEq, Nat.reduceEqDiff, Nat.reduceBEq, Nat.reduceAdd, Nat.reduceSub, Nat.reduceMul, Nat.reduceLT, Nat.reduceLeDiff, Nat.reduceBNe, Int.reduceBEq, Int.reduceBNe, Int.reduceLT, Int.reduceLE, Opr.a, Spn.a, nul, Opr.right, Opr.valued, Opr.ranged, Spn.empty, nilB, Int.reduceBEq, Bool.or_self, ha, hb, hc] | refine calling (hv) ?_ | refine callingH (hv) ?_ | refine calling (hr) ?_ | refine callingH (hr) ?_ | refine calling (keyR_ok key) ?_ | refine callingH (keyR_ok key) ?_ | refine calling (keyR_ok hi) ?_ | refine callingH (keyR_ok hi) ?_ | refine calling (valR_ok val) ?_ | refine callingH (valR_ok val) ?_ | refine And.intro (by omega) ?_ | refine And.intro (fun d hd => by (repeat (rcases hd with rfl | hd; · exact ⟨rfl, rfl⟩)); cases hd) ?_))
    cases hh : (hi.toList == (ByteArray.mk #[]).toList)
    case false =>
      cases op <;> (repeat (first | simp (maxSteps := 4000000) only [go_sem, ↓reduceIte, reduceCtorEq, Nat.reduceEqDiff, Nat.reduceBEq, Nat.reduceAdd, Nat.reduceSub, Nat.reduceMul, Nat.reduceLT, Nat.reduceLeDiff, Nat.reduceBNe, Int.reduceBEq, Int.reduceBNe, Int.reduceLT, Int.reduceLE, Opr.a, Spn.a, nul, Opr.right, Opr.valued, Opr.ranged, Spn.empty, nilB, Int.reduceBEq, Bool.or_self, ha, hb, hc, hh] | refine calling (hv) ?_ | refine callingH (hv) ?_ | refine calling (hr) ?_ | refine callingH (hr) ?_ | refine calling (keyR_ok key) ?_ | refine callingH (keyR_ok key) ?_ | refine calling (keyR_ok hi) ?_ | refine callingH (keyR_ok hi) ?_ | refine calling (valR_ok val) ?_ | refine callingH (valR_ok val) ?_ | refine And.intro (by omega) ?_ | refine And.intro (fun d hd => by (repeat (rcases hd with rfl | hd; · exact ⟨rfl, rfl⟩)); cases hd) ?_))
    cases op <;> cases hz : (lim == 0) <;> (repeat (first | simp (maxSteps := 4000000) only [go_sem, ↓reduceIte, reduceCtorEq, Nat.reduceEqDiff, Nat.reduceBEq, Nat.reduceAdd, Nat.reduceSub, Nat.reduceMul, Nat.reduceLT, Nat.reduceLeDiff, Nat.reduceBNe, Int.reduceBEq, Int.reduceBNe, Int.reduceLT, Int.reduceLE, Opr.a, Spn.a, nul, Opr.right, Opr.valued, Opr.ranged, Spn.empty, nilB, Int.reduceBEq, Bool.or_self, ha, hb, hc, hh, hz] | refine calling (hv) ?_ | refine callingH (hv) ?_ | refine calling (hr) ?_ | refine callingH (hr) ?_ | refine calling (keyR_ok key) ?_ | refine callingH (keyR_ok key) ?_ | refine calling (keyR_ok hi) ?_ | refine callingH (keyR_ok hi) ?_ | refine calling (valR_ok val) ?_ | refine callingH (valR_ok val) ?_ | refine And.intro (by omega) ?_ | refine And.intro (fun d hd => by (repeat (rcases hd with rfl | hd; · exact ⟨rfl, rfl⟩)); cases hd) ?_))
  · -- kind 2
    have hv : AFn Tryd.prog 93 [.agg [.int .i64 2, .str key, .str hi, .bool op, .str val, .int .i64 lim]] (.bool true) := valued_ok ⟨2, key, hi, op, val, lim⟩
    have hr : AFn Tryd.prog 94 [.agg [.int .i64 2, .str key, .str hi, .bool op, .str val, .int .i64 lim]] (.bool false) := ranged_ok ⟨2, key, hi, op, val, lim⟩
    by_cases ha : (key.size : Int) ≤ 16
    case neg =>
      (repeat (first | simp (maxSteps := 4000000) only [go_sem, ↓reduceIte, reduceCtorEq, Nat.reduceEqDiff, Nat.reduceBEq, Nat.reduceAdd, Nat.reduceSub, Nat.reduceMul, Nat.reduceLT, Nat.reduceLeDiff, Nat.reduceBNe, Int.reduceBEq, Int.reduceBNe, Int.reduceLT, Int.reduceLE, Opr.a, Spn.a, nul, Opr.right, Opr.valued, Opr.ranged, Spn.empty, nilB, Int.reduceBEq, Bool.or_self, ha] | refine calling (hv) ?_ | refine callingH (hv) ?_ | refine calling (hr) ?_ | refine callingH (hr) ?_ | refine calling (keyR_ok key) ?_ | refine callingH (keyR_ok key) ?_ | refine calling (keyR_ok hi) ?_ | refine callingH (keyR_ok hi) ?_ | refine calling (valR_ok val) ?_ | refine callingH (valR_ok val) ?_ | refine And.intro (by omega) ?_ | refine And.intro (fun d hd => by (repeat (rcases hd with rfl | hd; · exact ⟨rfl, rfl⟩)); cases hd) ?_))
    by_cases hb : (hi.size : Int) ≤ 16
    case neg =>
      (repeat (first | simp (maxSteps := 4000000) only [go_sem, ↓reduceIte, reduceCtorEq, Nat.reduceEqDiff, Nat.reduceBEq, Nat.reduceAdd, Nat.reduceSub, Nat.reduceMul, Nat.reduceLT, Nat.reduceLeDiff, Nat.reduceBNe, Int.reduceBEq, Int.reduceBNe, Int.reduceLT, Int.reduceLE, Opr.a, Spn.a, nul, Opr.right, Opr.valued, Opr.ranged, Spn.empty, nilB, Int.reduceBEq, Bool.or_self, ha, hb] | refine calling (hv) ?_ | refine callingH (hv) ?_ | refine calling (hr) ?_ | refine callingH (hr) ?_ | refine calling (keyR_ok key) ?_ | refine callingH (keyR_ok key) ?_ | refine calling (keyR_ok hi) ?_ | refine callingH (keyR_ok hi) ?_ | refine calling (valR_ok val) ?_ | refine callingH (valR_ok val) ?_ | refine And.intro (by omega) ?_ | refine And.intro (fun d hd => by (repeat (rcases hd with rfl | hd; · exact ⟨rfl, rfl⟩)); cases hd) ?_))
    by_cases hc : (val.size : Int) ≤ 16
    case neg =>
      (repeat (first | simp (maxSteps := 4000000) only [go_sem, ↓reduceIte, reduceCtorEq, Nat.reduceEqDiff, Nat.reduceBEq, Nat.reduceAdd, Nat.reduceSub, Nat.reduceMul, Nat.reduceLT, Nat.reduceLeDiff, Nat.reduceBNe, Int.reduceBEq, Int.reduceBNe, Int.reduceLT, Int.reduceLE, Opr.a, Spn.a, nul, Opr.right, Opr.valued, Opr.ranged, Spn.empty, nilB, Int.reduceBEq, Bool.or_self, ha, hb, hc] | refine calling (hv) ?_ | refine callingH (hv) ?_ | refine calling (hr) ?_ | refine callingH (hr) ?_ | refine calling (keyR_ok key) ?_ | refine callingH (keyR_ok key) ?_ | refine calling (keyR_ok hi) ?_ | refine callingH (keyR_ok hi) ?_ | refine calling (valR_ok val) ?_ | refine callingH (valR_ok val) ?_ | refine And.intro (by omega) ?_ | refine And.intro (fun d hd => by (repeat (rcases hd with rfl | hd; · exact ⟨rfl, rfl⟩)); cases hd) ?_))
    cases hh : (hi.toList == (ByteArray.mk #[]).toList)
    case false =>
      cases op <;> (repeat (first | simp (maxSteps := 4000000) only [go_sem, ↓reduceIte, reduceCtorEq, Nat.reduceEqDiff, Nat.reduceBEq, Nat.reduceAdd, Nat.reduceSub, Nat.reduceMul, Nat.reduceLT, Nat.reduceLeDiff, Nat.reduceBNe, Int.reduceBEq, Int.reduceBNe, Int.reduceLT, Int.reduceLE, Opr.a, Spn.a, nul, Opr.right, Opr.valued, Opr.ranged, Spn.empty, nilB, Int.reduceBEq, Bool.or_self, ha, hb, hc, hh] | refine calling (hv) ?_ | refine callingH (hv) ?_ | refine calling (hr) ?_ | refine callingH (hr) ?_ | refine calling (keyR_ok key) ?_ | refine callingH (keyR_ok key) ?_ | refine calling (keyR_ok hi) ?_ | refine callingH (keyR_ok hi) ?_ | refine calling (valR_ok val) ?_ | refine callingH (valR_ok val) ?_ | refine And.intro (by omega) ?_ | refine And.intro (fun d hd => by (repeat (rcases hd with rfl | hd; · exact ⟨rfl, rfl⟩)); cases hd) ?_))
    cases op <;> cases hz : (lim == 0) <;> (repeat (first | simp (maxSteps := 4000000) only [go_sem, ↓reduceIte, reduceCtorEq, Nat.reduceEqDiff, Nat.reduceBEq, Nat.reduceAdd, Nat.reduceSub, Nat.reduceMul, Nat.reduceLT, Nat.reduceLeDiff, Nat.reduceBNe, Int.reduceBEq, Int.reduceBNe, Int.reduceLT, Int.reduceLE, Opr.a, Spn.a, nul, Opr.right, Opr.valued, Opr.ranged, Spn.empty, nilB, Int.reduceBEq, Bool.or_self, ha, hb, hc, hh, hz] | refine calling (hv) ?_ | refine callingH (hv) ?_ | refine calling (hr) ?_ | refine callingH (hr) ?_ | refine calling (keyR_ok key) ?_ | refine callingH (keyR_ok key) ?_ | refine calling (keyR_ok hi) ?_ | refine callingH (keyR_ok hi) ?_ | refine calling (valR_ok val) ?_ | refine callingH (valR_ok val) ?_ | refine And.intro (by omega) ?_ | refine And.intro (fun d hd => by (repeat (rcases hd with rfl | hd; · exact ⟨rfl, rfl⟩)); cases hd) ?_))
  · -- kind 3
    have hv : AFn Tryd.prog 93 [.agg [.int .i64 3, .str key, .str hi, .bool op, .str val, .int .i64 lim]] (.bool false) := valued_ok ⟨3, key, hi, op, val, lim⟩
    have hr : AFn Tryd.prog 94 [.agg [.int .i64 3, .str key, .str hi, .bool op, .str val, .int .i64 lim]] (.bool false) := ranged_ok ⟨3, key, hi, op, val, lim⟩
    by_cases ha : (key.size : Int) ≤ 16
    case neg =>
      (repeat (first | simp (maxSteps := 4000000) only [go_sem, ↓reduceIte, reduceCtorEq, Nat.reduceEqDiff, Nat.reduceBEq, Nat.reduceAdd, Nat.reduceSub, Nat.reduceMul, Nat.reduceLT, Nat.reduceLeDiff, Nat.reduceBNe, Int.reduceBEq, Int.reduceBNe, Int.reduceLT, Int.reduceLE, Opr.a, Spn.a, nul, Opr.right, Opr.valued, Opr.ranged, Spn.empty, nilB, Int.reduceBEq, Bool.or_self, ha] | refine calling (hv) ?_ | refine callingH (hv) ?_ | refine calling (hr) ?_ | refine callingH (hr) ?_ | refine calling (keyR_ok key) ?_ | refine callingH (keyR_ok key) ?_ | refine calling (keyR_ok hi) ?_ | refine callingH (keyR_ok hi) ?_ | refine calling (valR_ok val) ?_ | refine callingH (valR_ok val) ?_ | refine And.intro (by omega) ?_ | refine And.intro (fun d hd => by (repeat (rcases hd with rfl | hd; · exact ⟨rfl, rfl⟩)); cases hd) ?_))
    by_cases hb : (hi.size : Int) ≤ 16
    case neg =>
      (repeat (first | simp (maxSteps := 4000000) only [go_sem, ↓reduceIte, reduceCtorEq, Nat.reduceEqDiff, Nat.reduceBEq, Nat.reduceAdd, Nat.reduceSub, Nat.reduceMul, Nat.reduceLT, Nat.reduceLeDiff, Nat.reduceBNe, Int.reduceBEq, Int.reduceBNe, Int.reduceLT, Int.reduceLE, Opr.a, Spn.a, nul, Opr.right, Opr.valued, Opr.ranged, Spn.empty, nilB, Int.reduceBEq, Bool.or_self, ha, hb] | refine calling (hv) ?_ | refine callingH (hv) ?_ | refine calling (hr) ?_ | refine callingH (hr) ?_ | refine calling (keyR_ok key) ?_ | refine callingH (keyR_ok key) ?_ | refine calling (keyR_ok hi) ?_ | refine callingH (keyR_ok hi) ?_ | refine calling (valR_ok val) ?_ | refine callingH (valR_ok val) ?_ | refine And.intro (by omega) ?_ | refine And.intro (fun d hd => by (repeat (rcases hd with rfl | hd; · exact ⟨rfl, rfl⟩)); cases hd) ?_))
    by_cases hc : (val.size : Int) ≤ 16
    case neg =>
      (repeat (first | simp (maxSteps := 4000000) only [go_sem, ↓reduceIte, reduceCtorEq, Nat.reduceEqDiff, Nat.reduceBEq, Nat.reduceAdd, Nat.reduceSub, Nat.reduceMul, Nat.reduceLT, Nat.reduceLeDiff, Nat.reduceBNe, Int.reduceBEq, Int.reduceBNe, Int.reduceLT, Int.reduceLE, Opr.a, Spn.a, nul, Opr.right, Opr.valued, Opr.ranged, Spn.empty, nilB, Int.reduceBEq, Bool.or_self, ha, hb, hc] | refine calling (hv) ?_ | refine callingH (hv) ?_ | refine calling (hr) ?_ | refine callingH (hr) ?_ | refine calling (keyR_ok key) ?_ | refine callingH (keyR_ok key) ?_ | refine calling (keyR_ok hi) ?_ | refine callingH (keyR_ok hi) ?_ | refine calling (valR_ok val) ?_ | refine callingH (valR_ok val) ?_ | refine And.intro (by omega) ?_ | refine And.intro (fun d hd => by (repeat (rcases hd with rfl | hd; · exact ⟨rfl, rfl⟩)); cases hd) ?_))
    cases hn : (val.toList == (ByteArray.mk #[]).toList)
    case false =>
      (repeat (first | simp (maxSteps := 4000000) only [go_sem, ↓reduceIte, reduceCtorEq, Nat.reduceEqDiff, Nat.reduceBEq, Nat.reduceAdd, Nat.reduceSub, Nat.reduceMul, Nat.reduceLT, Nat.reduceLeDiff, Nat.reduceBNe, Int.reduceBEq, Int.reduceBNe, Int.reduceLT, Int.reduceLE, Opr.a, Spn.a, nul, Opr.right, Opr.valued, Opr.ranged, Spn.empty, nilB, Int.reduceBEq, Bool.or_self, ha, hb, hc, hn] | refine calling (hv) ?_ | refine callingH (hv) ?_ | refine calling (hr) ?_ | refine callingH (hr) ?_ | refine calling (keyR_ok key) ?_ | refine callingH (keyR_ok key) ?_ | refine calling (keyR_ok hi) ?_ | refine callingH (keyR_ok hi) ?_ | refine calling (valR_ok val) ?_ | refine callingH (valR_ok val) ?_ | refine And.intro (by omega) ?_ | refine And.intro (fun d hd => by (repeat (rcases hd with rfl | hd; · exact ⟨rfl, rfl⟩)); cases hd) ?_))
    cases hh : (hi.toList == (ByteArray.mk #[]).toList)
    case false =>
      cases op <;> (repeat (first | simp (maxSteps := 4000000) only [go_sem, ↓reduceIte, reduceCtorEq, Nat.reduceEqDiff, Nat.reduceBEq, Nat.reduceAdd, Nat.reduceSub, Nat.reduceMul, Nat.reduceLT, Nat.reduceLeDiff, Nat.reduceBNe, Int.reduceBEq, Int.reduceBNe, Int.reduceLT, Int.reduceLE, Opr.a, Spn.a, nul, Opr.right, Opr.valued, Opr.ranged, Spn.empty, nilB, Int.reduceBEq, Bool.or_self, ha, hb, hc, hn, hh] | refine calling (hv) ?_ | refine callingH (hv) ?_ | refine calling (hr) ?_ | refine callingH (hr) ?_ | refine calling (keyR_ok key) ?_ | refine callingH (keyR_ok key) ?_ | refine calling (keyR_ok hi) ?_ | refine callingH (keyR_ok hi) ?_ | refine calling (valR_ok val) ?_ | refine callingH (valR_ok val) ?_ | refine And.intro (by omega) ?_ | refine And.intro (fun d hd => by (repeat (rcases hd with rfl | hd; · exact ⟨rfl, rfl⟩)); cases hd) ?_))
    cases op <;> cases hz : (lim == 0) <;> (repeat (first | simp (maxSteps := 4000000) only [go_sem, ↓reduceIte, reduceCtorEq, Nat.reduceEqDiff, Nat.reduceBEq, Nat.reduceAdd, Nat.reduceSub, Nat.reduceMul, Nat.reduceLT, Nat.reduceLeDiff, Nat.reduceBNe, Int.reduceBEq, Int.reduceBNe, Int.reduceLT, Int.reduceLE, Opr.a, Spn.a, nul, Opr.right, Opr.valued, Opr.ranged, Spn.empty, nilB, Int.reduceBEq, Bool.or_self, ha, hb, hc, hn, hh, hz] | refine calling (hv) ?_ | refine callingH (hv) ?_ | refine calling (hr) ?_ | refine callingH (hr) ?_ | refine calling (keyR_ok key) ?_ | refine callingH (keyR_ok key) ?_ | refine calling (keyR_ok hi) ?_ | refine callingH (keyR_ok hi) ?_ | refine calling (valR_ok val) ?_ | refine callingH (valR_ok val) ?_ | refine And.intro (by omega) ?_ | refine And.intro (fun d hd => by (repeat (rcases hd with rfl | hd; · exact ⟨rfl, rfl⟩)); cases hd) ?_))
  · -- kind 4
    have hv : AFn Tryd.prog 93 [.agg [.int .i64 4, .str key, .str hi, .bool op, .str val, .int .i64 lim]] (.bool false) := valued_ok ⟨4, key, hi, op, val, lim⟩
    have hr : AFn Tryd.prog 94 [.agg [.int .i64 4, .str key, .str hi, .bool op, .str val, .int .i64 lim]] (.bool true) := ranged_ok ⟨4, key, hi, op, val, lim⟩
    have sE := sE0 4 (by omega)
    by_cases ha : (key.size : Int) ≤ 16
    case neg =>
      (repeat (first | simp (maxSteps := 4000000) only [go_sem, ↓reduceIte, reduceCtorEq, Nat.reduceEqDiff, Nat.reduceBEq, Nat.reduceAdd, Nat.reduceSub, Nat.reduceMul, Nat.reduceLT, Nat.reduceLeDiff, Nat.reduceBNe, Int.reduceBEq, Int.reduceBNe, Int.reduceLT, Int.reduceLE, Opr.a, Spn.a, nul, Opr.right, Opr.valued, Opr.ranged, Spn.empty, nilB, Int.reduceBEq, Bool.or_self, ha] | refine calling (hv) ?_ | refine callingH (hv) ?_ | refine calling (hr) ?_ | refine callingH (hr) ?_ | refine calling (keyR_ok key) ?_ | refine callingH (keyR_ok key) ?_ | refine calling (keyR_ok hi) ?_ | refine callingH (keyR_ok hi) ?_ | refine calling (valR_ok val) ?_ | refine callingH (valR_ok val) ?_ | refine calling (sE) ?_ | refine callingH (sE) ?_ | refine calling (eE) ?_ | refine callingH (eE) ?_ | refine And.intro (by omega) ?_ | refine And.intro (fun d hd => by (repeat (rcases hd with rfl | hd; · exact ⟨rfl, rfl⟩)); cases hd) ?_))
    by_cases hb : (hi.size : Int) ≤ 16
    case neg =>
      (repeat (first | simp (maxSteps := 4000000) only [go_sem, ↓reduceIte, reduceCtorEq, Nat.reduceEqDiff, Nat.reduceBEq, Nat.reduceAdd, Nat.reduceSub, Nat.reduceMul, Nat.reduceLT, Nat.reduceLeDiff, Nat.reduceBNe, Int.reduceBEq, Int.reduceBNe, Int.reduceLT, Int.reduceLE, Opr.a, Spn.a, nul, Opr.right, Opr.valued, Opr.ranged, Spn.empty, nilB, Int.reduceBEq, Bool.or_self, ha, hb] | refine calling (hv) ?_ | refine callingH (hv) ?_ | refine calling (hr) ?_ | refine callingH (hr) ?_ | refine calling (keyR_ok key) ?_ | refine callingH (keyR_ok key) ?_ | refine calling (keyR_ok hi) ?_ | refine callingH (keyR_ok hi) ?_ | refine calling (valR_ok val) ?_ | refine callingH (valR_ok val) ?_ | refine calling (sE) ?_ | refine callingH (sE) ?_ | refine calling (eE) ?_ | refine callingH (eE) ?_ | refine And.intro (by omega) ?_ | refine And.intro (fun d hd => by (repeat (rcases hd with rfl | hd; · exact ⟨rfl, rfl⟩)); cases hd) ?_))
    by_cases hc : (val.size : Int) ≤ 16
    case neg =>
      (repeat (first | simp (maxSteps := 4000000) only [go_sem, ↓reduceIte, reduceCtorEq, Nat.reduceEqDiff, Nat.reduceBEq, Nat.reduceAdd, Nat.reduceSub, Nat.reduceMul, Nat.reduceLT, Nat.reduceLeDiff, Nat.reduceBNe, Int.reduceBEq, Int.reduceBNe, Int.reduceLT, Int.reduceLE, Opr.a, Spn.a, nul, Opr.right, Opr.valued, Opr.ranged, Spn.empty, nilB, Int.reduceBEq, Bool.or_self, ha, hb, hc] | refine calling (hv) ?_ | refine callingH (hv) ?_ | refine calling (hr) ?_ | refine callingH (hr) ?_ | refine calling (keyR_ok key) ?_ | refine callingH (keyR_ok key) ?_ | refine calling (keyR_ok hi) ?_ | refine callingH (keyR_ok hi) ?_ | refine calling (valR_ok val) ?_ | refine callingH (valR_ok val) ?_ | refine calling (sE) ?_ | refine callingH (sE) ?_ | refine calling (eE) ?_ | refine callingH (eE) ?_ | refine And.intro (by omega) ?_ | refine And.intro (fun d hd => by (repeat (rcases hd with rfl | hd; · exact ⟨rfl, rfl⟩)); cases hd) ?_))
    cases hn : (val.toList == (ByteArray.mk #[]).toList)
    case false =>
      (repeat (first | simp (maxSteps := 4000000) only [go_sem, ↓reduceIte, reduceCtorEq, Nat.reduceEqDiff, Nat.reduceBEq, Nat.reduceAdd, Nat.reduceSub, Nat.reduceMul, Nat.reduceLT, Nat.reduceLeDiff, Nat.reduceBNe, Int.reduceBEq, Int.reduceBNe, Int.reduceLT, Int.reduceLE, Opr.a, Spn.a, nul, Opr.right, Opr.valued, Opr.ranged, Spn.empty, nilB, Int.reduceBEq, Bool.or_self, ha, hb, hc, hn] | refine calling (hv) ?_ | refine callingH (hv) ?_ | refine calling (hr) ?_ | refine callingH (hr) ?_ | refine calling (keyR_ok key) ?_ | refine callingH (keyR_ok key) ?_ | refine calling (keyR_ok hi) ?_ | refine callingH (keyR_ok hi) ?_ | refine calling (valR_ok val) ?_ | refine callingH (valR_ok val) ?_ | refine calling (sE) ?_ | refine callingH (sE) ?_ | refine calling (eE) ?_ | refine callingH (eE) ?_ | refine And.intro (by omega) ?_ | refine And.intro (fun d hd => by (repeat (rcases hd with rfl | hd; · exact ⟨rfl, rfl⟩)); cases hd) ?_))
    cases op
    case false =>
      cases hl : leB key hi <;> cases hz : (lim == 0) <;> (repeat (first | simp (maxSteps := 4000000) only [go_sem, ↓reduceIte, reduceCtorEq, Nat.reduceEqDiff, Nat.reduceBEq, Nat.reduceAdd, Nat.reduceSub, Nat.reduceMul, Nat.reduceLT, Nat.reduceLeDiff, Nat.reduceBNe, Int.reduceBEq, Int.reduceBNe, Int.reduceLT, Int.reduceLE, Opr.a, Spn.a, nul, Opr.right, Opr.valued, Opr.ranged, Spn.empty, nilB, Int.reduceBEq, Bool.or_self, ha, hb, hc, hn, hl, hz] | refine calling (hv) ?_ | refine callingH (hv) ?_ | refine calling (hr) ?_ | refine callingH (hr) ?_ | refine calling (keyR_ok key) ?_ | refine callingH (keyR_ok key) ?_ | refine calling (keyR_ok hi) ?_ | refine callingH (keyR_ok hi) ?_ | refine calling (valR_ok val) ?_ | refine callingH (valR_ok val) ?_ | refine calling (sE) ?_ | refine callingH (sE) ?_ | refine calling (eE) ?_ | refine callingH (eE) ?_ | refine And.intro (by omega) ?_ | refine And.intro (fun d hd => by (repeat (rcases hd with rfl | hd; · exact ⟨rfl, rfl⟩)); cases hd) ?_))
    cases hh : (hi.toList == (ByteArray.mk #[]).toList)
    case false =>
      (repeat (first | simp (maxSteps := 4000000) only [go_sem, ↓reduceIte, reduceCtorEq, Nat.reduceEqDiff, Nat.reduceBEq, Nat.reduceAdd, Nat.reduceSub, Nat.reduceMul, Nat.reduceLT, Nat.reduceLeDiff, Nat.reduceBNe, Int.reduceBEq, Int.reduceBNe, Int.reduceLT, Int.reduceLE, Opr.a, Spn.a, nul, Opr.right, Opr.valued, Opr.ranged, Spn.empty, nilB, Int.reduceBEq, Bool.or_self, ha, hb, hc, hn, hh] | refine calling (hv) ?_ | refine callingH (hv) ?_ | refine calling (hr) ?_ | refine callingH (hr) ?_ | refine calling (keyR_ok key) ?_ | refine callingH (keyR_ok key) ?_ | refine calling (keyR_ok hi) ?_ | refine callingH (keyR_ok hi) ?_ | refine calling (valR_ok val) ?_ | refine callingH (valR_ok val) ?_ | refine calling (sE) ?_ | refine callingH (sE) ?_ | refine calling (eE) ?_ | refine callingH (eE) ?_ | refine And.intro (by omega) ?_ | refine And.intro (fun d hd => by (repeat (rcases hd with rfl | hd; · exact ⟨rfl, rfl⟩)); cases hd) ?_))
    cases hz : (lim == 0) <;> (repeat (first | simp (maxSteps := 4000000) only [go_sem, ↓reduceIte, reduceCtorEq, Nat.reduceEqDiff, Nat.reduceBEq, Nat.reduceAdd, Nat.reduceSub, Nat.reduceMul, Nat.reduceLT, Nat.reduceLeDiff, Nat.reduceBNe, Int.reduceBEq, Int.reduceBNe, Int.reduceLT, Int.reduceLE, Opr.a, Spn.a, nul, Opr.right, Opr.valued, Opr.ranged, Spn.empty, nilB, Int.reduceBEq, Bool.or_self, ha, hb, hc, hn, hh, hz] | refine calling (hv) ?_ | refine callingH (hv) ?_ | refine calling (hr) ?_ | refine callingH (hr) ?_ | refine calling (keyR_ok key) ?_ | refine callingH (keyR_ok key) ?_ | refine calling (keyR_ok hi) ?_ | refine callingH (keyR_ok hi) ?_ | refine calling (valR_ok val) ?_ | refine callingH (valR_ok val) ?_ | refine calling (sE) ?_ | refine callingH (sE) ?_ | refine calling (eE) ?_ | refine callingH (eE) ?_ | refine And.intro (by omega) ?_ | refine And.intro (fun d hd => by (repeat (rcases hd with rfl | hd; · exact ⟨rfl, rfl⟩)); cases hd) ?_))
  · -- kind 5
    have hv : AFn Tryd.prog 93 [.agg [.int .i64 5, .str key, .str hi, .bool op, .str val, .int .i64 lim]] (.bool false) := valued_ok ⟨5, key, hi, op, val, lim⟩
    have hr : AFn Tryd.prog 94 [.agg [.int .i64 5, .str key, .str hi, .bool op, .str val, .int .i64 lim]] (.bool false) := ranged_ok ⟨5, key, hi, op, val, lim⟩
    by_cases ha : (key.size : Int) ≤ 16
    case neg =>
      (repeat (first | simp (maxSteps := 4000000) only [go_sem, ↓reduceIte, reduceCtorEq, Nat.reduceEqDiff, Nat.reduceBEq, Nat.reduceAdd, Nat.reduceSub, Nat.reduceMul, Nat.reduceLT, Nat.reduceLeDiff, Nat.reduceBNe, Int.reduceBEq, Int.reduceBNe, Int.reduceLT, Int.reduceLE, Opr.a, Spn.a, nul, Opr.right, Opr.valued, Opr.ranged, Spn.empty, nilB, Int.reduceBEq, Bool.or_self, ha] | refine calling (hv) ?_ | refine callingH (hv) ?_ | refine calling (hr) ?_ | refine callingH (hr) ?_ | refine calling (keyR_ok key) ?_ | refine callingH (keyR_ok key) ?_ | refine calling (keyR_ok hi) ?_ | refine callingH (keyR_ok hi) ?_ | refine calling (valR_ok val) ?_ | refine callingH (valR_ok val) ?_ | refine And.intro (by omega) ?_ | refine And.intro (fun d hd => by (repeat (rcases hd with rfl | hd; · exact ⟨rfl, rfl⟩)); cases hd) ?_))
    by_cases hb : (hi.size : Int) ≤ 16
    case neg =>
      (repeat (first | simp (maxSteps := 4000000) only [go_sem, ↓reduceIte, reduceCtorEq, Nat.reduceEqDiff, Nat.reduceBEq, Nat.reduceAdd, Nat.reduceSub, Nat.reduceMul, Nat.reduceLT, Nat.reduceLeDiff, Nat.reduceBNe, Int.reduceBEq, Int.reduceBNe, Int.reduceLT, Int.reduceLE, Opr.a, Spn.a, nul, Opr.right, Opr.valued, Opr.ranged, Spn.empty, nilB, Int.reduceBEq, Bool.or_self, ha, hb] | refine calling (hv) ?_ | refine callingH (hv) ?_ | refine calling (hr) ?_ | refine callingH (hr) ?_ | refine calling (keyR_ok key) ?_ | refine callingH (keyR_ok key) ?_ | refine calling (keyR_ok hi) ?_ | refine callingH (keyR_ok hi) ?_ | refine calling (valR_ok val) ?_ | refine callingH (valR_ok val) ?_ | refine And.intro (by omega) ?_ | refine And.intro (fun d hd => by (repeat (rcases hd with rfl | hd; · exact ⟨rfl, rfl⟩)); cases hd) ?_))
    by_cases hc : (val.size : Int) ≤ 16
    case neg =>
      (repeat (first | simp (maxSteps := 4000000) only [go_sem, ↓reduceIte, reduceCtorEq, Nat.reduceEqDiff, Nat.reduceBEq, Nat.reduceAdd, Nat.reduceSub, Nat.reduceMul, Nat.reduceLT, Nat.reduceLeDiff, Nat.reduceBNe, Int.reduceBEq, Int.reduceBNe, Int.reduceLT, Int.reduceLE, Opr.a, Spn.a, nul, Opr.right, Opr.valued, Opr.ranged, Spn.empty, nilB, Int.reduceBEq, Bool.or_self, ha, hb, hc] | refine calling (hv) ?_ | refine callingH (hv) ?_ | refine calling (hr) ?_ | refine callingH (hr) ?_ | refine calling (keyR_ok key) ?_ | refine callingH (keyR_ok key) ?_ | refine calling (keyR_ok hi) ?_ | refine callingH (keyR_ok hi) ?_ | refine calling (valR_ok val) ?_ | refine callingH (valR_ok val) ?_ | refine And.intro (by omega) ?_ | refine And.intro (fun d hd => by (repeat (rcases hd with rfl | hd; · exact ⟨rfl, rfl⟩)); cases hd) ?_))
    cases hn : (val.toList == (ByteArray.mk #[]).toList)
    case false =>
      (repeat (first | simp (maxSteps := 4000000) only [go_sem, ↓reduceIte, reduceCtorEq, Nat.reduceEqDiff, Nat.reduceBEq, Nat.reduceAdd, Nat.reduceSub, Nat.reduceMul, Nat.reduceLT, Nat.reduceLeDiff, Nat.reduceBNe, Int.reduceBEq, Int.reduceBNe, Int.reduceLT, Int.reduceLE, Opr.a, Spn.a, nul, Opr.right, Opr.valued, Opr.ranged, Spn.empty, nilB, Int.reduceBEq, Bool.or_self, ha, hb, hc, hn] | refine calling (hv) ?_ | refine callingH (hv) ?_ | refine calling (hr) ?_ | refine callingH (hr) ?_ | refine calling (keyR_ok key) ?_ | refine callingH (keyR_ok key) ?_ | refine calling (keyR_ok hi) ?_ | refine callingH (keyR_ok hi) ?_ | refine calling (valR_ok val) ?_ | refine callingH (valR_ok val) ?_ | refine And.intro (by omega) ?_ | refine And.intro (fun d hd => by (repeat (rcases hd with rfl | hd; · exact ⟨rfl, rfl⟩)); cases hd) ?_))
    cases hh : (hi.toList == (ByteArray.mk #[]).toList)
    case false =>
      cases op <;> (repeat (first | simp (maxSteps := 4000000) only [go_sem, ↓reduceIte, reduceCtorEq, Nat.reduceEqDiff, Nat.reduceBEq, Nat.reduceAdd, Nat.reduceSub, Nat.reduceMul, Nat.reduceLT, Nat.reduceLeDiff, Nat.reduceBNe, Int.reduceBEq, Int.reduceBNe, Int.reduceLT, Int.reduceLE, Opr.a, Spn.a, nul, Opr.right, Opr.valued, Opr.ranged, Spn.empty, nilB, Int.reduceBEq, Bool.or_self, ha, hb, hc, hn, hh] | refine calling (hv) ?_ | refine callingH (hv) ?_ | refine calling (hr) ?_ | refine callingH (hr) ?_ | refine calling (keyR_ok key) ?_ | refine callingH (keyR_ok key) ?_ | refine calling (keyR_ok hi) ?_ | refine callingH (keyR_ok hi) ?_ | refine calling (valR_ok val) ?_ | refine callingH (valR_ok val) ?_ | refine And.intro (by omega) ?_ | refine And.intro (fun d hd => by (repeat (rcases hd with rfl | hd; · exact ⟨rfl, rfl⟩)); cases hd) ?_))
    cases op <;> cases hz : (lim == 0) <;> (repeat (first | simp (maxSteps := 4000000) only [go_sem, ↓reduceIte, reduceCtorEq, Nat.reduceEqDiff, Nat.reduceBEq, Nat.reduceAdd, Nat.reduceSub, Nat.reduceMul, Nat.reduceLT, Nat.reduceLeDiff, Nat.reduceBNe, Int.reduceBEq, Int.reduceBNe, Int.reduceLT, Int.reduceLE, Opr.a, Spn.a, nul, Opr.right, Opr.valued, Opr.ranged, Spn.empty, nilB, Int.reduceBEq, Bool.or_self, ha, hb, hc, hn, hh, hz] | refine calling (hv) ?_ | refine callingH (hv) ?_ | refine calling (hr) ?_ | refine callingH (hr) ?_ | refine calling (keyR_ok key) ?_ | refine callingH (keyR_ok key) ?_ | refine calling (keyR_ok hi) ?_ | refine callingH (keyR_ok hi) ?_ | refine calling (valR_ok val) ?_ | refine callingH (valR_ok val) ?_ | refine And.intro (by omega) ?_ | refine And.intro (fun d hd => by (repeat (rcases hd with rfl | hd; · exact ⟨rfl, rfl⟩)); cases hd) ?_))
  · -- kind 6
    have hv : AFn Tryd.prog 93 [.agg [.int .i64 6, .str key, .str hi, .bool op, .str val, .int .i64 lim]] (.bool false) := valued_ok ⟨6, key, hi, op, val, lim⟩
    have hr : AFn Tryd.prog 94 [.agg [.int .i64 6, .str key, .str hi, .bool op, .str val, .int .i64 lim]] (.bool true) := ranged_ok ⟨6, key, hi, op, val, lim⟩
    have sE := sE0 6 (by omega)
    by_cases ha : (key.size : Int) ≤ 16
    case neg =>
      (repeat (first | simp (maxSteps := 4000000) only [go_sem, ↓reduceIte, reduceCtorEq, Nat.reduceEqDiff, Nat.reduceBEq, Nat.reduceAdd, Nat.reduceSub, Nat.reduceMul, Nat.reduceLT, Nat.reduceLeDiff, Nat.reduceBNe, Int.reduceBEq, Int.reduceBNe, Int.reduceLT, Int.reduceLE, Opr.a, Spn.a, nul, Opr.right, Opr.valued, Opr.ranged, Spn.empty, nilB, Int.reduceBEq, Bool.or_self, ha] | refine calling (hv) ?_ | refine callingH (hv) ?_ | refine calling (hr) ?_ | refine callingH (hr) ?_ | refine calling (keyR_ok key) ?_ | refine callingH (keyR_ok key) ?_ | refine calling (keyR_ok hi) ?_ | refine callingH (keyR_ok hi) ?_ | refine calling (valR_ok val) ?_ | refine callingH (valR_ok val) ?_ | refine calling (sE) ?_ | refine callingH (sE) ?_ | refine calling (eE) ?_ | refine callingH (eE) ?_ | refine And.intro (by omega) ?_ | refine And.intro (fun d hd => by (repeat (rcases hd with rfl | hd; · exact ⟨rfl, rfl⟩)); cases hd) ?_))
    by_cases hb : (hi.size : Int) ≤ 16
    case neg =>
      (repeat (first | simp (maxSteps := 4000000) only [go_sem, ↓reduceIte, reduceCtorEq, Nat.reduceEqDiff, Nat.reduceBEq, Nat.reduceAdd, Nat.reduceSub, Nat.reduceMul, Nat.reduceLT, Nat.reduceLeDiff, Nat.reduceBNe, Int.reduceBEq, Int.reduceBNe, Int.reduceLT, Int.reduceLE, Opr.a, Spn.a, nul, Opr.right, Opr.valued, Opr.ranged, Spn.empty, nilB, Int.reduceBEq, Bool.or_self, ha, hb] | refine calling (hv) ?_ | refine callingH (hv) ?_ | refine calling (hr) ?_ | refine callingH (hr) ?_ | refine calling (keyR_ok key) ?_ | refine callingH (keyR_ok key) ?_ | refine calling (keyR_ok hi) ?_ | refine callingH (keyR_ok hi) ?_ | refine calling (valR_ok val) ?_ | refine callingH (valR_ok val) ?_ | refine calling (sE) ?_ | refine callingH (sE) ?_ | refine calling (eE) ?_ | refine callingH (eE) ?_ | refine And.intro (by omega) ?_ | refine And.intro (fun d hd => by (repeat (rcases hd with rfl | hd; · exact ⟨rfl, rfl⟩)); cases hd) ?_))
    by_cases hc : (val.size : Int) ≤ 16
    case neg =>
      (repeat (first | simp (maxSteps := 4000000) only [go_sem, ↓reduceIte, reduceCtorEq, Nat.reduceEqDiff, Nat.reduceBEq, Nat.reduceAdd, Nat.reduceSub, Nat.reduceMul, Nat.reduceLT, Nat.reduceLeDiff, Nat.reduceBNe, Int.reduceBEq, Int.reduceBNe, Int.reduceLT, Int.reduceLE, Opr.a, Spn.a, nul, Opr.right, Opr.valued, Opr.ranged, Spn.empty, nilB, Int.reduceBEq, Bool.or_self, ha, hb, hc] | refine calling (hv) ?_ | refine callingH (hv) ?_ | refine calling (hr) ?_ | refine callingH (hr) ?_ | refine calling (keyR_ok key) ?_ | refine callingH (keyR_ok key) ?_ | refine calling (keyR_ok hi) ?_ | refine callingH (keyR_ok hi) ?_ | refine calling (valR_ok val) ?_ | refine callingH (valR_ok val) ?_ | refine calling (sE) ?_ | refine callingH (sE) ?_ | refine calling (eE) ?_ | refine callingH (eE) ?_ | refine And.intro (by omega) ?_ | refine And.intro (fun d hd => by (repeat (rcases hd with rfl | hd; · exact ⟨rfl, rfl⟩)); cases hd) ?_))
    cases hn : (val.toList == (ByteArray.mk #[]).toList)
    case false =>
      (repeat (first | simp (maxSteps := 4000000) only [go_sem, ↓reduceIte, reduceCtorEq, Nat.reduceEqDiff, Nat.reduceBEq, Nat.reduceAdd, Nat.reduceSub, Nat.reduceMul, Nat.reduceLT, Nat.reduceLeDiff, Nat.reduceBNe, Int.reduceBEq, Int.reduceBNe, Int.reduceLT, Int.reduceLE, Opr.a, Spn.a, nul, Opr.right, Opr.valued, Opr.ranged, Spn.empty, nilB, Int.reduceBEq, Bool.or_self, ha, hb, hc, hn] | refine calling (hv) ?_ | refine callingH (hv) ?_ | refine calling (hr) ?_ | refine callingH (hr) ?_ | refine calling (keyR_ok key) ?_ | refine callingH (keyR_ok key) ?_ | refine calling (keyR_ok hi) ?_ | refine callingH (keyR_ok hi) ?_ | refine calling (valR_ok val) ?_ | refine callingH (valR_ok val) ?_ | refine calling (sE) ?_ | refine callingH (sE) ?_ | refine calling (eE) ?_ | refine callingH (eE) ?_ | refine And.intro (by omega) ?_ | refine And.intro (fun d hd => by (repeat (rcases hd with rfl | hd; · exact ⟨rfl, rfl⟩)); cases hd) ?_))
    cases op
    case false =>
      cases hl : leB key hi <;> by_cases l1 : 1 ≤ lim <;> by_cases l2 : lim ≤ 64 <;> (repeat (first | simp (maxSteps := 4000000) only [go_sem, ↓reduceIte, reduceCtorEq, Nat.reduceEqDiff, Nat.reduceBEq, Nat.reduceAdd, Nat.reduceSub, Nat.reduceMul, Nat.reduceLT, Nat.reduceLeDiff, Nat.reduceBNe, Int.reduceBEq, Int.reduceBNe, Int.reduceLT, Int.reduceLE, Opr.a, Spn.a, nul, Opr.right, Opr.valued, Opr.ranged, Spn.empty, nilB, Int.reduceBEq, Bool.or_self, ha, hb, hc, hn, hl , l1, l2] | refine calling (hv) ?_ | refine callingH (hv) ?_ | refine calling (hr) ?_ | refine callingH (hr) ?_ | refine calling (keyR_ok key) ?_ | refine callingH (keyR_ok key) ?_ | refine calling (keyR_ok hi) ?_ | refine callingH (keyR_ok hi) ?_ | refine calling (valR_ok val) ?_ | refine callingH (valR_ok val) ?_ | refine calling (sE) ?_ | refine callingH (sE) ?_ | refine calling (eE) ?_ | refine callingH (eE) ?_ | refine And.intro (by omega) ?_ | refine And.intro (fun d hd => by (repeat (rcases hd with rfl | hd; · exact ⟨rfl, rfl⟩)); cases hd) ?_))
    cases hh : (hi.toList == (ByteArray.mk #[]).toList)
    case false =>
      (repeat (first | simp (maxSteps := 4000000) only [go_sem, ↓reduceIte, reduceCtorEq, Nat.reduceEqDiff, Nat.reduceBEq, Nat.reduceAdd, Nat.reduceSub, Nat.reduceMul, Nat.reduceLT, Nat.reduceLeDiff, Nat.reduceBNe, Int.reduceBEq, Int.reduceBNe, Int.reduceLT, Int.reduceLE, Opr.a, Spn.a, nul, Opr.right, Opr.valued, Opr.ranged, Spn.empty, nilB, Int.reduceBEq, Bool.or_self, ha, hb, hc, hn, hh] | refine calling (hv) ?_ | refine callingH (hv) ?_ | refine calling (hr) ?_ | refine callingH (hr) ?_ | refine calling (keyR_ok key) ?_ | refine callingH (keyR_ok key) ?_ | refine calling (keyR_ok hi) ?_ | refine callingH (keyR_ok hi) ?_ | refine calling (valR_ok val) ?_ | refine callingH (valR_ok val) ?_ | refine calling (sE) ?_ | refine callingH (sE) ?_ | refine calling (eE) ?_ | refine callingH (eE) ?_ | refine And.intro (by omega) ?_ | refine And.intro (fun d hd => by (repeat (rcases hd with rfl | hd; · exact ⟨rfl, rfl⟩)); cases hd) ?_))
    by_cases l1 : 1 ≤ lim <;> by_cases l2 : lim ≤ 64 <;> (repeat (first | simp (maxSteps := 4000000) only [go_sem, ↓reduceIte, reduceCtorEq, Nat.reduceEqDiff, Nat.reduceBEq, Nat.reduceAdd, Nat.reduceSub, Nat.reduceMul, Nat.reduceLT, Nat.reduceLeDiff, Nat.reduceBNe, Int.reduceBEq, Int.reduceBNe, Int.reduceLT, Int.reduceLE, Opr.a, Spn.a, nul, Opr.right, Opr.valued, Opr.ranged, Spn.empty, nilB, Int.reduceBEq, Bool.or_self, ha, hb, hc, hn, hh , l1, l2] | refine calling (hv) ?_ | refine callingH (hv) ?_ | refine calling (hr) ?_ | refine callingH (hr) ?_ | refine calling (keyR_ok key) ?_ | refine callingH (keyR_ok key) ?_ | refine calling (keyR_ok hi) ?_ | refine callingH (keyR_ok hi) ?_ | refine calling (valR_ok val) ?_ | refine callingH (valR_ok val) ?_ | refine calling (sE) ?_ | refine callingH (sE) ?_ | refine calling (eE) ?_ | refine callingH (eE) ?_ | refine And.intro (by omega) ?_ | refine And.intro (fun d hd => by (repeat (rcases hd with rfl | hd; · exact ⟨rfl, rfl⟩)); cases hd) ?_))
end
section
/-
  Layer 7: what holds of an operation that may be.
-/
open Go.RowKit
set_option linter.unusedVariables false
set_option linter.unusedSimpArgs false
set_option maxRecDepth 100000
/-- what holds of an operation that may be -/
theorem right_parts {o : Opr} (h : o.right = true) : 1 ≤ o.kind ∧ o.kind ≤ 6 ∧ o.key.size ≤ 16 ∧ o.hi.size ≤ 16 ∧ o.val.size ≤ 16 ∧ (o.valued || nilB o.val) = true ∧ (!o.op || nilB o.hi) = true ∧
    (if o.ranged then !(Spn.empty ⟨o.key, o.hi, o.op⟩) else nilB o.hi && !o.op) = true ∧ (if o.kind == 6 then decide (1 ≤ o.lim) && decide (o.lim ≤ 64) else o.lim == 0) = true := by
  unfold Opr.right at h
  simp only [Bool.and_eq_true, decide_eq_true_eq] at h
  obtain ⟨⟨⟨⟨⟨⟨⟨⟨h1, h2⟩, h3⟩, h4⟩, h5⟩, h6⟩, h7⟩, h8⟩, h9⟩ := h
  refine ⟨h1, h2, by omega, by omega, by omega, h6, h7, ?_, ?_⟩
  · cases hr : o.ranged <;> rw [hr] at h8 <;> simpa using h8
  · cases hr : (o.kind == 6) <;> rw [hr] at h9 <;> simpa using h9
theorem nil_of_size {s : ByteArray} (h : s.size = 0) : s = ⟨#[]⟩ := by
  cases s; congr 1; exact Array.eq_empty_of_size_eq_zero h
theorem nilB_eq {s : ByteArray} (h : nilB s = true) : s = ⟨#[]⟩ := by
  unfold nilB nul at h
  rw [bytes_nil] at h
  exact nil_of_size (by simpa using h)
end
end Go.Proofs.YthfdbjocpicbmaaDoor
