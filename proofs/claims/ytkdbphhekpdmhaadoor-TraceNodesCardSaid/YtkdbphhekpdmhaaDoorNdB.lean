/-
  Are nodes few, with few things? The document's Light, walked.
-/
import Derived.Test.YtkdbphhekpdmhaaDoorNdA
namespace Go.Proofs.YtkdbphhekpdmhaaDoor
open Go.RowKit
set_option linter.unusedVariables false
set_option linter.unusedSimpArgs false
set_option maxRecDepth 100000
attribute [local go_sem ↓] runOp headOp
attribute [local go_sem] ev0 ev1 ev2 ev3 ev4 evA stHOk.eq_1 stHOk.eq_2 stHSt.eq_1 stHSt.eq_2 okV valV fzV okF valF okBld valBld mxOk.eq_1 mxOk.eq_2 mxVal.eq_1 mxVal.eq_2 cellFit.eq_1 cellFit.eq_2 cellFit.eq_3 cellEq.eq_1 cellEq.eq_2 cellEq.eq_3 upd_at AV.flatB AV.flatBs binIok binIV binSok binSV cellsOk.eq_1 cellsOk.eq_2 cellsVal.eq_1 cellsVal.eq_2 objCells.eq_1 objCells.eq_2 objZ.eq_1 objZ.eq_2 objProt.eq_1 objProt.eq_2 oneObj ptrOk.eq_1 ptrOk.eq_2 ptrOk.eq_3 ptrCells.eq_1 ptrCells.eq_2 ptrCells.eq_3 lenOk.eq_1 lenOk.eq_2 lenOk.eq_3 lenOk.eq_4 lenVal.eq_1 lenVal.eq_2 lenVal.eq_3 lenVal.eq_4 faOk.eq_1 faOk.eq_2 faOk.eq_3 faVal.eq_1 faVal.eq_2 faVal.eq_3 iaOk.eq_1 iaOk.eq_2 iaOk.eq_3 iaVal.eq_1 iaVal.eq_2 iaVal.eq_3 slcLen.eq_1 slcLen.eq_2 slcLen.eq_3 slcLen.eq_4 bdOk.eq_1 bdOk.eq_2 bdVal.eq_1 bdVal.eq_2 slcOk.eq_1 slcOk.eq_2 slcOk.eq_3 slcOk.eq_4 slcVal.eq_1 slcVal.eq_2 slcVal.eq_3 slcVal.eq_4 slcFz.eq_1 slcFz.eq_2 byOk.eq_1 byOk.eq_2 byOk.eq_3 byOk.eq_4 byOk.eq_5 byOk.eq_6 byOk.eq_7 byVal.eq_1 byVal.eq_2 byVal.eq_3 byFz.eq_1 byFz.eq_2 byFz.eq_3 byOks byVals byFzs allOne resSt.eq_1 resSt.eq_2 resName.eq_1 resName.eq_2 stOk.eq_1 stOk.eq_2 stArr.eq_1 stArr.eq_2 stSt.eq_1 stSt.eq_2 AV.patch nameOk_none gB.eq_1 gB.eq_2 gB.eq_3 gIs.eq_1 gIs.eq_2 gIs.eq_3 retV resV resVs evalV cellsV St.byval List.getD_cons_zero List.getD_cons_succ List.getD_nil List.map_cons List.map_nil List.length_cons List.length_nil List.take_succ_cons List.take_zero List.drop_succ_cons List.drop_zero List.headD_cons List.set_cons_zero List.append_nil List.nil_append List.cons_append List.contains_cons List.contains_nil List.elem_cons List.elem_nil List.all_cons List.all_nil List.getElem?_cons_zero List.getElem?_cons_succ List.filterMap_cons List.filterMap_nil Option.isSome_some Option.isSome_none Option.map_some Option.map_none Option.some.injEq AV.int.injEq AV.bool.injEq AV.str.injEq AV.tup.injEq AV.agg.injEq AV.sl.injEq List.cons.injEq Bool.false_eq_true Bool.true_eq_false Bool.not_true Bool.not_false Bool.and_true Bool.true_and Bool.or_false Bool.or_true Bool.false_or Bool.true_or Bool.or_self Bool.and_self Bool.not_eq_true' Bool.not_eq_false' Bool.not_not beq_self_eq_true true_and and_true false_and and_false and_self not_true_eq_false not_false_eq_true forall_const true_implies false_implies implies_true imp_self Nat.lt_add_one Nat.le_refl Nat.zero_le Nat.add_zero Nat.zero_add decide_true decide_false decide_eq_true_eq decide_eq_false_iff_not exists_eq_left exists_eq_left' ge_iff_le gt_iff_lt ite_branch ite_branch' nilOk.eq_1 nilOk.eq_2 nilMay.eq_1 nilMay.eq_2 AV.isSl.eq_1 objTy'.eq_1 objTy'.eq_2 apSt.eq_1 apArr.eq_1 apArr.eq_2 slOf.eq_1 fitsV List.mem_cons List.not_mem_nil Bool.false_and Bool.and_false primOk.eq_1 primOk.eq_2 primOk.eq_3 primOk.eq_4 primOk.eq_5 primVal.eq_1 primVal.eq_2 primVal.eq_3 primVal.eq_4 primVal.eq_5 mOk.eq_1 mOk.eq_2 mVal.eq_1 mVal.eq_2 mFz.eq_1 mFz.eq_2 mOks mVals mFzs mCalOk.eq_1 mCalOk.eq_2 mFn.eq_1 mFn.eq_2 mArgs.eq_1 mArgs.eq_2 ckOk.eq_1 ckOk.eq_2 cloOk.eq_1 ptrAt.eq_1 sh.eq_1 sh.eq_2 sh.eq_3 sh.eq_4 sh.eq_5 retM shH_small
def sumN {α : Type} (f : α → Nat) : List α → Nat
  | [] => 0
  | x :: l => f x + sumN f l
theorem sumN_at {α : Type} {f : α → Nat} {l : List α} {j : Nat} {x : α} (h : l[j]? = some x) : sumN f (l.drop j) = f x + sumN f (l.drop (j + 1)) := by
  rw [drop_at h]; rfl
theorem sumN_mem {α : Type} {f : α → Nat} : ∀ {l : List α} {x : α}, x ∈ l → f x ≤ sumN f l
  | y :: l, x, h => by
    show _ ≤ f y + sumN f l
    rcases List.mem_cons.1 h with rfl | h
    · omega
    · have := sumN_mem (f := f) h; omega
theorem sumN_len {α : Type} {f : α → Nat} (hf : ∀ x, 1 ≤ f x) : ∀ l : List α, l.length ≤ sumN f l
  | [] => Nat.le_refl _
  | x :: l => by
    have := sumN_len hf l
    have := hf x
    show l.length + 1 ≤ f x + sumN f l
    omega
def Par.bulk (p : Par) : Nat := 1 + p.key.size + p.val.size
def Msg.bulk (m : Msg) : Nat := 1 + m.key.size + m.hi.size + m.val.size
def strBulk (s : ByteArray) : Nat := s.size + 1
def longInv (l : List AV) (most : Int) (rest : Nat → Nat) (r : Bool) (k : Nat) (σ : St) : Prop :=
  ∃ (j n : Nat), j ≤ l.length ∧ k = l.length - j ∧ σ.T 0 = .sl l ∧ σ.T 1 = .int .i64 most ∧ σ.T 5 = .int .i64 n ∧ σ.T 6 = .int .i64 j ∧ n ≤ 900000000000000 ∧ decide (((n + rest j : Nat) : Int) ≤ most) = r
/-! ### percolate/percolateref09.Long -/
def r_rLong9_0 : Reg := ⟨[], [⟨(.mv (.c (.bool false))), (some 4), none, [], []⟩], [], [], false⟩
def r_rLong9_1 : Reg := ⟨[], [⟨(.mv (.c (.int .i64 0))), (some 5), none, [], []⟩], [], [], false⟩
def r_rLong9_2 : Reg := ⟨[], [⟨(.mv (.c (.int .i64 0))), (some 6), none, [], []⟩], [], [], false⟩
def r_rLong9_3 : Reg := ⟨[], [⟨(.mv (.t 6)), (some 7), none, [], []⟩, ⟨(.mv (.t 0)), (some 8), none, [], []⟩, ⟨(.len false (.t 8)), (some 9), none, [], []⟩, ⟨(.bin .lss (.t 7) (.t 9)), (some 10), none, [], []⟩, ⟨(.mv (.t 10)), (some 11), none, [], []⟩, ⟨(.mv (.t 5)), (some 12), (some (11, true)), [], []⟩, ⟨(.mv (.t 1)), (some 13), (some (11, true)), [], []⟩, ⟨(.bin .leq (.t 12) (.t 13)), (some 14), (some (11, true)), [], []⟩, ⟨(.pick (.t 11) (.t 14) (.c (.bool false))), (some 15), none, [], []⟩], [], [], false⟩
def r_rLong9_4 : Reg := ⟨[⟨(.mv (.t 5)), (some 18), none, [], []⟩, ⟨(.mv (.t 0)), (some 19), none, [], []⟩, ⟨(.mv (.t 6)), (some 20), none, [], []⟩, ⟨(.iaddr 2 (.t 19) (.t 20)), (some 21), none, [], []⟩, ⟨(.faddr 0 (.t 21)), (some 22), none, [], []⟩, ⟨(.load 1 false (.t 22)), (some 23), none, [], []⟩, ⟨(.len true (.t 23)), (some 24), none, [], []⟩, ⟨(.bin .add (.c (.int .i64 1)) (.t 24)), (some 25), none, [], []⟩, ⟨(.mv (.t 0)), (some 26), none, [], []⟩, ⟨(.mv (.t 6)), (some 27), none, [], []⟩, ⟨(.iaddr 2 (.t 26) (.t 27)), (some 28), none, [], []⟩, ⟨(.faddr 1 (.t 28)), (some 29), none, [], []⟩, ⟨(.load 1 false (.t 29)), (some 30), none, [], []⟩, ⟨(.len true (.t 30)), (some 31), none, [], []⟩, ⟨(.bin .add (.t 25) (.t 31)), (some 32), none, [], []⟩], [⟨(.bin .add (.t 18) (.t 32)), (some 33), none, [], []⟩, ⟨(.mv (.t 33)), (some 5), none, [], []⟩], [], [], true⟩
def r_rLong9_5 : Reg := ⟨[], [⟨(.mv (.t 6)), (some 16), none, [], []⟩, ⟨(.bin .add (.t 16) (.c (.int .i64 1))), (some 17), none, [], []⟩, ⟨(.mv (.t 17)), (some 6), none, [], []⟩], [], [], false⟩
def r_rLong9_l6 : IR := (.seq (.seq (.reg r_rLong9_3)
  (.cond (.t 15) .skip
  (.exit 0)))
  (.seq (.block 1 (.reg r_rLong9_4))
  (.reg r_rLong9_5)))
def r_rLong9_7 : Reg := ⟨[], [⟨(.mv (.t 5)), (some 34), none, [], []⟩, ⟨(.mv (.t 1)), (some 35), none, [], []⟩, ⟨(.bin .leq (.t 34) (.t 35)), (some 36), none, [], []⟩, ⟨(.mv (.t 36)), (some 4), none, [], []⟩], [], [], false⟩
def ir_rLong9 : IR := (.seq (.reg r_rLong9_0)
  (.seq (.reg r_rLong9_1)
  (.seq (.seq (.reg r_rLong9_2)
  (.block 0 (.loop r_rLong9_l6)))
  (.seq (.reg r_rLong9_7)
  .ret))))
def res_rLong9 : List RDesc := [(.tmp 4)]
theorem e_rLong9_0 (C : FuncId → List AV → AV → Prop) (σ : St) (K : St → Prop) : runReg C r_rLong9_0 σ K = runOps C [⟨(.mv (.c (.bool false))), (some 4), none, [], []⟩] (σ.kills []) K := rfl
theorem e_rLong9_1 (C : FuncId → List AV → AV → Prop) (σ : St) (K : St → Prop) : runReg C r_rLong9_1 σ K = runOps C [⟨(.mv (.c (.int .i64 0))), (some 5), none, [], []⟩] (σ.kills []) K := rfl
theorem e_rLong9_2 (C : FuncId → List AV → AV → Prop) (σ : St) (K : St → Prop) : runReg C r_rLong9_2 σ K = runOps C [⟨(.mv (.c (.int .i64 0))), (some 6), none, [], []⟩] (σ.kills []) K := rfl
theorem e_rLong9_3 (C : FuncId → List AV → AV → Prop) (σ : St) (K : St → Prop) : runReg C r_rLong9_3 σ K = runOps C [⟨(.mv (.t 6)), (some 7), none, [], []⟩, ⟨(.mv (.t 0)), (some 8), none, [], []⟩, ⟨(.len false (.t 8)), (some 9), none, [], []⟩, ⟨(.bin .lss (.t 7) (.t 9)), (some 10), none, [], []⟩, ⟨(.mv (.t 10)), (some 11), none, [], []⟩, ⟨(.mv (.t 5)), (some 12), (some (11, true)), [], []⟩, ⟨(.mv (.t 1)), (some 13), (some (11, true)), [], []⟩, ⟨(.bin .leq (.t 12) (.t 13)), (some 14), (some (11, true)), [], []⟩, ⟨(.pick (.t 11) (.t 14) (.c (.bool false))), (some 15), none, [], []⟩] (σ.kills []) K := rfl
theorem e_rLong9_4 (C : FuncId → List AV → AV → Prop) (σ : St) (K : St → Prop) : runReg C r_rLong9_4 σ K = runHead C [] [⟨(.bin .add (.t 18) (.t 32)), (some 33), none, [], []⟩, ⟨(.mv (.t 33)), (some 5), none, [], []⟩] [⟨(.mv (.t 5)), (some 18), none, [], []⟩, ⟨(.mv (.t 0)), (some 19), none, [], []⟩, ⟨(.mv (.t 6)), (some 20), none, [], []⟩, ⟨(.iaddr 2 (.t 19) (.t 20)), (some 21), none, [], []⟩, ⟨(.faddr 0 (.t 21)), (some 22), none, [], []⟩, ⟨(.load 1 false (.t 22)), (some 23), none, [], []⟩, ⟨(.len true (.t 23)), (some 24), none, [], []⟩, ⟨(.bin .add (.c (.int .i64 1)) (.t 24)), (some 25), none, [], []⟩, ⟨(.mv (.t 0)), (some 26), none, [], []⟩, ⟨(.mv (.t 6)), (some 27), none, [], []⟩, ⟨(.iaddr 2 (.t 26) (.t 27)), (some 28), none, [], []⟩, ⟨(.faddr 1 (.t 28)), (some 29), none, [], []⟩, ⟨(.load 1 false (.t 29)), (some 30), none, [], []⟩, ⟨(.len true (.t 30)), (some 31), none, [], []⟩, ⟨(.bin .add (.t 25) (.t 31)), (some 32), none, [], []⟩] (σ.kills []) K := rfl
theorem e_rLong9_5 (C : FuncId → List AV → AV → Prop) (σ : St) (K : St → Prop) : runReg C r_rLong9_5 σ K = runOps C [⟨(.mv (.t 6)), (some 16), none, [], []⟩, ⟨(.bin .add (.t 16) (.c (.int .i64 1))), (some 17), none, [], []⟩, ⟨(.mv (.t 17)), (some 6), none, [], []⟩] (σ.kills []) K := rfl
theorem e_rLong9_7 (C : FuncId → List AV → AV → Prop) (σ : St) (K : St → Prop) : runReg C r_rLong9_7 σ K = runOps C [⟨(.mv (.t 5)), (some 34), none, [], []⟩, ⟨(.mv (.t 1)), (some 35), none, [], []⟩, ⟨(.bin .leq (.t 34) (.t 35)), (some 36), none, [], []⟩, ⟨(.mv (.t 36)), (some 4), none, [], []⟩] (σ.kills []) K := rfl
theorem fn_rLong9 {args : List AV} {r : AV} (ha : args.length.ble Tryd.f48.ntmps = true) (h : run (AFn Tryd.prog) ir_rLong9 (endQ res_rLong9 r) (initSt args)) : AFn Tryd.prog 48 args r :=
  AFn.of_code (hint := fun _ => []) (c := Tryd.f48.body.getD .skip) (by kernel_rfl) (by kernel_rfl) Tryd.func48 (by kernel_rfl) (by kernel_rfl) (by kernel_rfl) (of_decide_eq_true (by kernel_rfl)) (Nat.le_of_ble_eq_true ha) (Nat.le_of_ble_eq_true (by kernel_rfl)) (run_ok h)

/-! ### percolate/percolateref05.Few -/
def r_rFew_0 : Reg := ⟨[], [⟨(.mv (.c (.bool false))), (some 4), none, [], []⟩], [], [], false⟩
def r_rFew_1 : Reg := ⟨[], [⟨(.mv (.c (.int .i64 0))), (some 5), none, [], []⟩], [], [], false⟩
def r_rFew_2 : Reg := ⟨[], [⟨(.mv (.c (.int .i64 0))), (some 6), none, [], []⟩], [], [], false⟩
def r_rFew_3 : Reg := ⟨[], [⟨(.mv (.t 6)), (some 7), none, [], []⟩, ⟨(.mv (.t 0)), (some 8), none, [], []⟩, ⟨(.len false (.t 8)), (some 9), none, [], []⟩, ⟨(.bin .lss (.t 7) (.t 9)), (some 10), none, [], []⟩, ⟨(.mv (.t 10)), (some 11), none, [], []⟩, ⟨(.mv (.t 5)), (some 12), (some (11, true)), [], []⟩, ⟨(.mv (.t 1)), (some 13), (some (11, true)), [], []⟩, ⟨(.bin .leq (.t 12) (.t 13)), (some 14), (some (11, true)), [], []⟩, ⟨(.pick (.t 11) (.t 14) (.c (.bool false))), (some 15), none, [], []⟩], [], [], false⟩
def r_rFew_4 : Reg := ⟨[⟨(.mv (.t 5)), (some 18), none, [], []⟩, ⟨(.mv (.t 0)), (some 19), none, [], []⟩, ⟨(.mv (.t 6)), (some 20), none, [], []⟩, ⟨(.iaddr 6 (.t 19) (.t 20)), (some 21), none, [], []⟩, ⟨(.faddr 2 (.t 21)), (some 22), none, [], []⟩, ⟨(.load 1 false (.t 22)), (some 23), none, [], []⟩, ⟨(.len true (.t 23)), (some 24), none, [], []⟩, ⟨(.bin .add (.c (.int .i64 1)) (.t 24)), (some 25), none, [], []⟩, ⟨(.mv (.t 0)), (some 26), none, [], []⟩, ⟨(.mv (.t 6)), (some 27), none, [], []⟩, ⟨(.iaddr 6 (.t 26) (.t 27)), (some 28), none, [], []⟩, ⟨(.faddr 3 (.t 28)), (some 29), none, [], []⟩, ⟨(.load 1 false (.t 29)), (some 30), none, [], []⟩, ⟨(.len true (.t 30)), (some 31), none, [], []⟩, ⟨(.bin .add (.t 25) (.t 31)), (some 32), none, [], []⟩, ⟨(.mv (.t 0)), (some 33), none, [], []⟩, ⟨(.mv (.t 6)), (some 34), none, [], []⟩, ⟨(.iaddr 6 (.t 33) (.t 34)), (some 35), none, [], []⟩, ⟨(.faddr 5 (.t 35)), (some 36), none, [], []⟩, ⟨(.load 1 false (.t 36)), (some 37), none, [], []⟩, ⟨(.len true (.t 37)), (some 38), none, [], []⟩, ⟨(.bin .add (.t 32) (.t 38)), (some 39), none, [], []⟩], [⟨(.bin .add (.t 18) (.t 39)), (some 40), none, [], []⟩, ⟨(.mv (.t 40)), (some 5), none, [], []⟩], [], [], true⟩
def r_rFew_5 : Reg := ⟨[], [⟨(.mv (.t 6)), (some 16), none, [], []⟩, ⟨(.bin .add (.t 16) (.c (.int .i64 1))), (some 17), none, [], []⟩, ⟨(.mv (.t 17)), (some 6), none, [], []⟩], [], [], false⟩
def r_rFew_l6 : IR := (.seq (.seq (.reg r_rFew_3)
  (.cond (.t 15) .skip
  (.exit 0)))
  (.seq (.block 1 (.reg r_rFew_4))
  (.reg r_rFew_5)))
def r_rFew_7 : Reg := ⟨[], [⟨(.mv (.t 5)), (some 41), none, [], []⟩, ⟨(.mv (.t 1)), (some 42), none, [], []⟩, ⟨(.bin .leq (.t 41) (.t 42)), (some 43), none, [], []⟩, ⟨(.mv (.t 43)), (some 4), none, [], []⟩], [], [], false⟩
def ir_rFew : IR := (.seq (.reg r_rFew_0)
  (.seq (.reg r_rFew_1)
  (.seq (.seq (.reg r_rFew_2)
  (.block 0 (.loop r_rFew_l6)))
  (.seq (.reg r_rFew_7)
  .ret))))
def res_rFew : List RDesc := [(.tmp 4)]
theorem e_rFew_0 (C : FuncId → List AV → AV → Prop) (σ : St) (K : St → Prop) : runReg C r_rFew_0 σ K = runOps C [⟨(.mv (.c (.bool false))), (some 4), none, [], []⟩] (σ.kills []) K := rfl
theorem e_rFew_1 (C : FuncId → List AV → AV → Prop) (σ : St) (K : St → Prop) : runReg C r_rFew_1 σ K = runOps C [⟨(.mv (.c (.int .i64 0))), (some 5), none, [], []⟩] (σ.kills []) K := rfl
theorem e_rFew_2 (C : FuncId → List AV → AV → Prop) (σ : St) (K : St → Prop) : runReg C r_rFew_2 σ K = runOps C [⟨(.mv (.c (.int .i64 0))), (some 6), none, [], []⟩] (σ.kills []) K := rfl
theorem e_rFew_3 (C : FuncId → List AV → AV → Prop) (σ : St) (K : St → Prop) : runReg C r_rFew_3 σ K = runOps C [⟨(.mv (.t 6)), (some 7), none, [], []⟩, ⟨(.mv (.t 0)), (some 8), none, [], []⟩, ⟨(.len false (.t 8)), (some 9), none, [], []⟩, ⟨(.bin .lss (.t 7) (.t 9)), (some 10), none, [], []⟩, ⟨(.mv (.t 10)), (some 11), none, [], []⟩, ⟨(.mv (.t 5)), (some 12), (some (11, true)), [], []⟩, ⟨(.mv (.t 1)), (some 13), (some (11, true)), [], []⟩, ⟨(.bin .leq (.t 12) (.t 13)), (some 14), (some (11, true)), [], []⟩, ⟨(.pick (.t 11) (.t 14) (.c (.bool false))), (some 15), none, [], []⟩] (σ.kills []) K := rfl
theorem e_rFew_4 (C : FuncId → List AV → AV → Prop) (σ : St) (K : St → Prop) : runReg C r_rFew_4 σ K = runHead C [] [⟨(.bin .add (.t 18) (.t 39)), (some 40), none, [], []⟩, ⟨(.mv (.t 40)), (some 5), none, [], []⟩] [⟨(.mv (.t 5)), (some 18), none, [], []⟩, ⟨(.mv (.t 0)), (some 19), none, [], []⟩, ⟨(.mv (.t 6)), (some 20), none, [], []⟩, ⟨(.iaddr 6 (.t 19) (.t 20)), (some 21), none, [], []⟩, ⟨(.faddr 2 (.t 21)), (some 22), none, [], []⟩, ⟨(.load 1 false (.t 22)), (some 23), none, [], []⟩, ⟨(.len true (.t 23)), (some 24), none, [], []⟩, ⟨(.bin .add (.c (.int .i64 1)) (.t 24)), (some 25), none, [], []⟩, ⟨(.mv (.t 0)), (some 26), none, [], []⟩, ⟨(.mv (.t 6)), (some 27), none, [], []⟩, ⟨(.iaddr 6 (.t 26) (.t 27)), (some 28), none, [], []⟩, ⟨(.faddr 3 (.t 28)), (some 29), none, [], []⟩, ⟨(.load 1 false (.t 29)), (some 30), none, [], []⟩, ⟨(.len true (.t 30)), (some 31), none, [], []⟩, ⟨(.bin .add (.t 25) (.t 31)), (some 32), none, [], []⟩, ⟨(.mv (.t 0)), (some 33), none, [], []⟩, ⟨(.mv (.t 6)), (some 34), none, [], []⟩, ⟨(.iaddr 6 (.t 33) (.t 34)), (some 35), none, [], []⟩, ⟨(.faddr 5 (.t 35)), (some 36), none, [], []⟩, ⟨(.load 1 false (.t 36)), (some 37), none, [], []⟩, ⟨(.len true (.t 37)), (some 38), none, [], []⟩, ⟨(.bin .add (.t 32) (.t 38)), (some 39), none, [], []⟩] (σ.kills []) K := rfl
theorem e_rFew_5 (C : FuncId → List AV → AV → Prop) (σ : St) (K : St → Prop) : runReg C r_rFew_5 σ K = runOps C [⟨(.mv (.t 6)), (some 16), none, [], []⟩, ⟨(.bin .add (.t 16) (.c (.int .i64 1))), (some 17), none, [], []⟩, ⟨(.mv (.t 17)), (some 6), none, [], []⟩] (σ.kills []) K := rfl
theorem e_rFew_7 (C : FuncId → List AV → AV → Prop) (σ : St) (K : St → Prop) : runReg C r_rFew_7 σ K = runOps C [⟨(.mv (.t 5)), (some 41), none, [], []⟩, ⟨(.mv (.t 1)), (some 42), none, [], []⟩, ⟨(.bin .leq (.t 41) (.t 42)), (some 43), none, [], []⟩, ⟨(.mv (.t 43)), (some 4), none, [], []⟩] (σ.kills []) K := rfl
theorem fn_rFew {args : List AV} {r : AV} (ha : args.length.ble Tryd.f50.ntmps = true) (h : run (AFn Tryd.prog) ir_rFew (endQ res_rFew r) (initSt args)) : AFn Tryd.prog 50 args r :=
  AFn.of_code (hint := fun _ => []) (c := Tryd.f50.body.getD .skip) (by kernel_rfl) (by kernel_rfl) Tryd.func50 (by kernel_rfl) (by kernel_rfl) (by kernel_rfl) (of_decide_eq_true (by kernel_rfl)) (Nat.le_of_ble_eq_true ha) (Nat.le_of_ble_eq_true (by kernel_rfl)) (run_ok h)

/-! ### percolate/percolateref01.Long -/
def r_rLong1_0 : Reg := ⟨[], [⟨(.mv (.c (.int .i64 0))), (some 4), none, [], []⟩], [], [], false⟩
def r_rLong1_1 : Reg := ⟨[], [⟨(.mv (.c (.int .i64 0))), (some 5), none, [], []⟩], [], [], false⟩
def r_rLong1_2 : Reg := ⟨[], [⟨(.mv (.c (.int .i64 0))), (some 6), none, [], []⟩], [], [], false⟩
def r_rLong1_3 : Reg := ⟨[], [⟨(.mv (.t 6)), (some 7), none, [], []⟩, ⟨(.mv (.t 0)), (some 8), none, [], []⟩, ⟨(.len false (.t 8)), (some 9), none, [], []⟩, ⟨(.bin .lss (.t 7) (.t 9)), (some 10), none, [], []⟩, ⟨(.mv (.t 10)), (some 11), none, [], []⟩, ⟨(.mv (.t 5)), (some 12), (some (11, true)), [], []⟩, ⟨(.mv (.t 1)), (some 13), (some (11, true)), [], []⟩, ⟨(.bin .leq (.t 12) (.t 13)), (some 14), (some (11, true)), [], []⟩, ⟨(.pick (.t 11) (.t 14) (.c (.bool false))), (some 15), none, [], []⟩], [], [], false⟩
def r_rLong1_4 : Reg := ⟨[], [⟨(.mv (.t 5)), (some 18), none, [], []⟩, ⟨(.mv (.t 0)), (some 19), none, [], []⟩, ⟨(.mv (.t 6)), (some 20), none, [], []⟩, ⟨(.iaddr 1 (.t 19) (.t 20)), (some 21), none, [], []⟩, ⟨(.load 1 false (.t 21)), (some 22), none, [], []⟩, ⟨(.len true (.t 22)), (some 23), none, [], []⟩, ⟨(.bin .add (.t 23) (.c (.int .i64 1))), (some 24), none, [], []⟩, ⟨(.bin .add (.t 18) (.t 24)), (some 25), none, [], []⟩, ⟨(.mv (.t 25)), (some 5), none, [], []⟩], [], [], false⟩
def r_rLong1_5 : Reg := ⟨[], [⟨(.mv (.t 6)), (some 16), none, [], []⟩, ⟨(.bin .add (.t 16) (.c (.int .i64 1))), (some 17), none, [], []⟩, ⟨(.mv (.t 17)), (some 6), none, [], []⟩], [], [], false⟩
def r_rLong1_l6 : IR := (.seq (.seq (.reg r_rLong1_3)
  (.cond (.t 15) .skip
  (.exit 0)))
  (.seq (.block 1 (.reg r_rLong1_4))
  (.reg r_rLong1_5)))
def r_rLong1_7 : Reg := ⟨[], [⟨(.mv (.t 5)), (some 26), none, [], []⟩, ⟨(.mv (.t 26)), (some 4), none, [], []⟩], [], [], false⟩
def ir_rLong1 : IR := (.seq (.reg r_rLong1_0)
  (.seq (.reg r_rLong1_1)
  (.seq (.seq (.reg r_rLong1_2)
  (.block 0 (.loop r_rLong1_l6)))
  (.seq (.reg r_rLong1_7)
  .ret))))
def res_rLong1 : List RDesc := [(.tmp 4)]
theorem e_rLong1_0 (C : FuncId → List AV → AV → Prop) (σ : St) (K : St → Prop) : runReg C r_rLong1_0 σ K = runOps C [⟨(.mv (.c (.int .i64 0))), (some 4), none, [], []⟩] (σ.kills []) K := rfl
theorem e_rLong1_1 (C : FuncId → List AV → AV → Prop) (σ : St) (K : St → Prop) : runReg C r_rLong1_1 σ K = runOps C [⟨(.mv (.c (.int .i64 0))), (some 5), none, [], []⟩] (σ.kills []) K := rfl
theorem e_rLong1_2 (C : FuncId → List AV → AV → Prop) (σ : St) (K : St → Prop) : runReg C r_rLong1_2 σ K = runOps C [⟨(.mv (.c (.int .i64 0))), (some 6), none, [], []⟩] (σ.kills []) K := rfl
theorem e_rLong1_3 (C : FuncId → List AV → AV → Prop) (σ : St) (K : St → Prop) : runReg C r_rLong1_3 σ K = runOps C [⟨(.mv (.t 6)), (some 7), none, [], []⟩, ⟨(.mv (.t 0)), (some 8), none, [], []⟩, ⟨(.len false (.t 8)), (some 9), none, [], []⟩, ⟨(.bin .lss (.t 7) (.t 9)), (some 10), none, [], []⟩, ⟨(.mv (.t 10)), (some 11), none, [], []⟩, ⟨(.mv (.t 5)), (some 12), (some (11, true)), [], []⟩, ⟨(.mv (.t 1)), (some 13), (some (11, true)), [], []⟩, ⟨(.bin .leq (.t 12) (.t 13)), (some 14), (some (11, true)), [], []⟩, ⟨(.pick (.t 11) (.t 14) (.c (.bool false))), (some 15), none, [], []⟩] (σ.kills []) K := rfl
theorem e_rLong1_4 (C : FuncId → List AV → AV → Prop) (σ : St) (K : St → Prop) : runReg C r_rLong1_4 σ K = runOps C [⟨(.mv (.t 5)), (some 18), none, [], []⟩, ⟨(.mv (.t 0)), (some 19), none, [], []⟩, ⟨(.mv (.t 6)), (some 20), none, [], []⟩, ⟨(.iaddr 1 (.t 19) (.t 20)), (some 21), none, [], []⟩, ⟨(.load 1 false (.t 21)), (some 22), none, [], []⟩, ⟨(.len true (.t 22)), (some 23), none, [], []⟩, ⟨(.bin .add (.t 23) (.c (.int .i64 1))), (some 24), none, [], []⟩, ⟨(.bin .add (.t 18) (.t 24)), (some 25), none, [], []⟩, ⟨(.mv (.t 25)), (some 5), none, [], []⟩] (σ.kills []) K := rfl
theorem e_rLong1_5 (C : FuncId → List AV → AV → Prop) (σ : St) (K : St → Prop) : runReg C r_rLong1_5 σ K = runOps C [⟨(.mv (.t 6)), (some 16), none, [], []⟩, ⟨(.bin .add (.t 16) (.c (.int .i64 1))), (some 17), none, [], []⟩, ⟨(.mv (.t 17)), (some 6), none, [], []⟩] (σ.kills []) K := rfl
theorem e_rLong1_7 (C : FuncId → List AV → AV → Prop) (σ : St) (K : St → Prop) : runReg C r_rLong1_7 σ K = runOps C [⟨(.mv (.t 5)), (some 26), none, [], []⟩, ⟨(.mv (.t 26)), (some 4), none, [], []⟩] (σ.kills []) K := rfl
theorem fn_rLong1 {args : List AV} {r : AV} (ha : args.length.ble Tryd.f49.ntmps = true) (h : run (AFn Tryd.prog) ir_rLong1 (endQ res_rLong1 r) (initSt args)) : AFn Tryd.prog 49 args r :=
  AFn.of_code (hint := fun _ => []) (c := Tryd.f49.body.getD .skip) (by kernel_rfl) (by kernel_rfl) Tryd.func49 (by kernel_rfl) (by kernel_rfl) (by kernel_rfl) (of_decide_eq_true (by kernel_rfl)) (Nat.le_of_ble_eq_true ha) (Nat.le_of_ble_eq_true (by kernel_rfl)) (run_ok h)

attribute [local go_sem ↓] ir_rLong9
attribute [local go_sem] res_rLong9 e_rLong9_0 e_rLong9_1 e_rLong9_2 e_rLong9_3 e_rLong9_4 e_rLong9_5 e_rLong9_7
attribute [local go_sem ↓] ir_rFew
attribute [local go_sem] res_rFew e_rFew_0 e_rFew_1 e_rFew_2 e_rFew_3 e_rFew_4 e_rFew_5 e_rFew_7
attribute [local go_sem ↓] ir_rLong1
attribute [local go_sem] res_rLong1 e_rLong1_0 e_rLong1_1 e_rLong1_2 e_rLong1_3 e_rLong1_4 e_rLong1_5 e_rLong1_7

theorem rLong9_ok (l : List Par) (most : Int) (h1 : 0 ≤ most) (h2 : most ≤ 1000000) (hs : ∀ m, m ∈ l → m.key.size ≤ 281474976710656 ∧ m.val.size ≤ 281474976710656) (hl : l.length ≤ 281474976710656) :
    AFn Tryd.prog 48 [.sl (l.map Par.a), .int .i64 most] (.bool (decide ((sumN Par.bulk l : Int) ≤ most))) := by
  refine fn_rLong9 rfl ?_
  simp (maxSteps := 4000000) only [go_sem, ↓reduceIte, reduceCtorEq, Nat.reduceEqDiff, Nat.reduceBEq, Nat.reduceAdd, Nat.reduceSub, Nat.reduceMul, Nat.reduceLT, Nat.reduceLeDiff, Nat.reduceBNe, Int.reduceBEq, Int.reduceBNe, Int.reduceLT, Int.reduceLE, Msg.a, Par.a, Nd.a]
  refine run_loop (longInv (l.map Par.a) most (fun j => sumN Par.bulk (l.drop j)) (decide ((sumN Par.bulk l : Int) ≤ most))) (k := (l.map Par.a).length) ⟨0, 0, by omega, rfl, rfl, rfl, rfl, rfl, by omega, ?_⟩ ?_
  · simp
  rintro k σ ⟨j, n, hj, rfl, t0, t1, t5, t6, hn2, hr⟩
  rw [List.length_map] at hj
  simp only [r_rLong9_l6]
  by_cases hlt : j < l.length
  · have hlt' : (j : Int) < (l.length : Int) := by omega
    by_cases hm : (n : Int) ≤ most
    · obtain ⟨x, hx⟩ := get_lt hlt
      have hgj := at_map (f := Par.a) hx
      simp only [Par.a] at hgj
      have hw := wrapS (j := j) (by omega)
      obtain ⟨s1, s3⟩ := hs x (List.mem_of_getElem? hx)
      have w1 : IntKind.i64.wrap (1 + (x.key.size : Int)) = 1 + (x.key.size : Int) := IntWalk.i64_in _ (by omega)
      have w3 : IntKind.i64.wrap (1 + (x.key.size : Int) + (x.val.size : Int)) = 1 + (x.key.size : Int) + (x.val.size : Int) := IntWalk.i64_in _ (by omega)
      have w4 : IntKind.i64.wrap ((n : Int) + (1 + (x.key.size : Int) + (x.val.size : Int))) = ((n + x.bulk : Nat) : Int) := by
        rw [IntWalk.i64_in _ (by omega)]; unfold Par.bulk; omega
      simp only [sumN_at hx] at hr
      simp (maxSteps := 4000000) only [go_sem, ↓reduceIte, reduceCtorEq, Nat.reduceEqDiff, Nat.reduceBEq, Nat.reduceAdd, Nat.reduceSub, Nat.reduceMul, Nat.reduceLT, Nat.reduceLeDiff, Nat.reduceBNe, Int.reduceBEq, Int.reduceBNe, Int.reduceLT, Int.reduceLE, Msg.a, Par.a, Nd.a, t0, t1, t5, t6, hlt', hm, hgj, List.length_map, Int.toNat_natCast, w1, w3, w4, hw]
      (repeat refine And.intro (by omega) ?_)
      refine ⟨l.length - (j + 1), by omega, j + 1, n + x.bulk, by rw [List.length_map]; omega, by rw [List.length_map], ?_, ?_, ?_, ?_, by unfold Par.bulk; omega, ?_⟩
      · simp (maxSteps := 4000000) only [go_sem, ↓reduceIte, reduceCtorEq, Nat.reduceEqDiff, Nat.reduceBEq, Nat.reduceAdd, Nat.reduceSub, Nat.reduceMul, Nat.reduceLT, Nat.reduceLeDiff, Nat.reduceBNe, Int.reduceBEq, Int.reduceBNe, Int.reduceLT, Int.reduceLE, Msg.a, Par.a, Nd.a, t0, t1, t5, t6]
      · simp (maxSteps := 4000000) only [go_sem, ↓reduceIte, reduceCtorEq, Nat.reduceEqDiff, Nat.reduceBEq, Nat.reduceAdd, Nat.reduceSub, Nat.reduceMul, Nat.reduceLT, Nat.reduceLeDiff, Nat.reduceBNe, Int.reduceBEq, Int.reduceBNe, Int.reduceLT, Int.reduceLE, Msg.a, Par.a, Nd.a, t0, t1, t5, t6]
      · simp (maxSteps := 4000000) only [go_sem, ↓reduceIte, reduceCtorEq, Nat.reduceEqDiff, Nat.reduceBEq, Nat.reduceAdd, Nat.reduceSub, Nat.reduceMul, Nat.reduceLT, Nat.reduceLeDiff, Nat.reduceBNe, Int.reduceBEq, Int.reduceBNe, Int.reduceLT, Int.reduceLE, Msg.a, Par.a, Nd.a, t0, t1, t5, t6]
      · simp (maxSteps := 4000000) only [go_sem, ↓reduceIte, reduceCtorEq, Nat.reduceEqDiff, Nat.reduceBEq, Nat.reduceAdd, Nat.reduceSub, Nat.reduceMul, Nat.reduceLT, Nat.reduceLeDiff, Nat.reduceBNe, Int.reduceBEq, Int.reduceBNe, Int.reduceLT, Int.reduceLE, Msg.a, Par.a, Nd.a, t0, t1, t5, t6]
      · rw [← hr, Nat.add_assoc]
    · simp (maxSteps := 4000000) only [go_sem, ↓reduceIte, reduceCtorEq, Nat.reduceEqDiff, Nat.reduceBEq, Nat.reduceAdd, Nat.reduceSub, Nat.reduceMul, Nat.reduceLT, Nat.reduceLeDiff, Nat.reduceBNe, Int.reduceBEq, Int.reduceBNe, Int.reduceLT, Int.reduceLE, Msg.a, Par.a, Nd.a, t0, t1, t5, t6, hlt', hm, List.length_map]
      have : ¬ ((n + sumN Par.bulk (l.drop j) : Nat) : Int) ≤ most := by omega
      simp only [decide_eq_false this] at hr
      exact of_decide_eq_false hr.symm
  · have hlt' : ¬ (j : Int) < (l.length : Int) := by omega
    simp (maxSteps := 4000000) only [go_sem, ↓reduceIte, reduceCtorEq, Nat.reduceEqDiff, Nat.reduceBEq, Nat.reduceAdd, Nat.reduceSub, Nat.reduceMul, Nat.reduceLT, Nat.reduceLeDiff, Nat.reduceBNe, Int.reduceBEq, Int.reduceBNe, Int.reduceLT, Int.reduceLE, Msg.a, Par.a, Nd.a, t0, t1, t5, t6, hlt', List.length_map]
    rw [← hr]
    show decide (((n + sumN Par.bulk (l.drop j) : Nat) : Int) ≤ most) = _
    rw [List.drop_eq_nil_of_le (by omega)]
    exact decide_eq_decide.2 Iff.rfl
theorem rFew_ok (l : List Msg) (most : Int) (h1 : 0 ≤ most) (h2 : most ≤ 1000000) (hs : ∀ m, m ∈ l → m.key.size ≤ 281474976710656 ∧ m.hi.size ≤ 281474976710656 ∧ m.val.size ≤ 281474976710656) (hl : l.length ≤ 281474976710656) :
    AFn Tryd.prog 50 [.sl (l.map Msg.a), .int .i64 most] (.bool (decide ((sumN Msg.bulk l : Int) ≤ most))) := by
  refine fn_rFew rfl ?_
  simp (maxSteps := 4000000) only [go_sem, ↓reduceIte, reduceCtorEq, Nat.reduceEqDiff, Nat.reduceBEq, Nat.reduceAdd, Nat.reduceSub, Nat.reduceMul, Nat.reduceLT, Nat.reduceLeDiff, Nat.reduceBNe, Int.reduceBEq, Int.reduceBNe, Int.reduceLT, Int.reduceLE, Msg.a, Par.a, Nd.a]
  refine run_loop (longInv (l.map Msg.a) most (fun j => sumN Msg.bulk (l.drop j)) (decide ((sumN Msg.bulk l : Int) ≤ most))) (k := (l.map Msg.a).length) ⟨0, 0, by omega, rfl, rfl, rfl, rfl, rfl, by omega, ?_⟩ ?_
  · simp
  rintro k σ ⟨j, n, hj, rfl, t0, t1, t5, t6, hn2, hr⟩
  rw [List.length_map] at hj
  simp only [r_rFew_l6]
  by_cases hlt : j < l.length
  · have hlt' : (j : Int) < (l.length : Int) := by omega
    by_cases hm : (n : Int) ≤ most
    · obtain ⟨x, hx⟩ := get_lt hlt
      have hgj := at_map (f := Msg.a) hx
      simp only [Msg.a] at hgj
      have hw := wrapS (j := j) (by omega)
      obtain ⟨s1, s2, s3⟩ := hs x (List.mem_of_getElem? hx)
      have w1 : IntKind.i64.wrap (1 + (x.key.size : Int)) = 1 + (x.key.size : Int) := IntWalk.i64_in _ (by omega)
      have w2 : IntKind.i64.wrap (1 + (x.key.size : Int) + (x.hi.size : Int)) = 1 + (x.key.size : Int) + (x.hi.size : Int) := IntWalk.i64_in _ (by omega)
      have w3 : IntKind.i64.wrap (1 + (x.key.size : Int) + (x.hi.size : Int) + (x.val.size : Int)) = 1 + (x.key.size : Int) + (x.hi.size : Int) + (x.val.size : Int) := IntWalk.i64_in _ (by omega)
      have w4 : IntKind.i64.wrap ((n : Int) + (1 + (x.key.size : Int) + (x.hi.size : Int) + (x.val.size : Int))) = ((n + x.bulk : Nat) : Int) := by
        rw [IntWalk.i64_in _ (by omega)]; unfold Msg.bulk; omega
      simp only [sumN_at hx] at hr
      simp (maxSteps := 4000000) only [go_sem, ↓reduceIte, reduceCtorEq, Nat.reduceEqDiff, Nat.reduceBEq, Nat.reduceAdd, Nat.reduceSub, Nat.reduceMul, Nat.reduceLT, Nat.reduceLeDiff, Nat.reduceBNe, Int.reduceBEq, Int.reduceBNe, Int.reduceLT, Int.reduceLE, Msg.a, Par.a, Nd.a, t0, t1, t5, t6, hlt', hm, hgj, List.length_map, Int.toNat_natCast, w1, w2, w3, w4, hw]
      (repeat refine And.intro (by omega) ?_)
      refine ⟨l.length - (j + 1), by omega, j + 1, n + x.bulk, by rw [List.length_map]; omega, by rw [List.length_map], ?_, ?_, ?_, ?_, by unfold Msg.bulk; omega, ?_⟩
      · simp (maxSteps := 4000000) only [go_sem, ↓reduceIte, reduceCtorEq, Nat.reduceEqDiff, Nat.reduceBEq, Nat.reduceAdd, Nat.reduceSub, Nat.reduceMul, Nat.reduceLT, Nat.reduceLeDiff, Nat.reduceBNe, Int.reduceBEq, Int.reduceBNe, Int.reduceLT, Int.reduceLE, Msg.a, Par.a, Nd.a, t0, t1, t5, t6]
      · simp (maxSteps := 4000000) only [go_sem, ↓reduceIte, reduceCtorEq, Nat.reduceEqDiff, Nat.reduceBEq, Nat.reduceAdd, Nat.reduceSub, Nat.reduceMul, Nat.reduceLT, Nat.reduceLeDiff, Nat.reduceBNe, Int.reduceBEq, Int.reduceBNe, Int.reduceLT, Int.reduceLE, Msg.a, Par.a, Nd.a, t0, t1, t5, t6]
      · simp (maxSteps := 4000000) only [go_sem, ↓reduceIte, reduceCtorEq, Nat.reduceEqDiff, Nat.reduceBEq, Nat.reduceAdd, Nat.reduceSub, Nat.reduceMul, Nat.reduceLT, Nat.reduceLeDiff, Nat.reduceBNe, Int.reduceBEq, Int.reduceBNe, Int.reduceLT, Int.reduceLE, Msg.a, Par.a, Nd.a, t0, t1, t5, t6]
      · simp (maxSteps := 4000000) only [go_sem, ↓reduceIte, reduceCtorEq, Nat.reduceEqDiff, Nat.reduceBEq, Nat.reduceAdd, Nat.reduceSub, Nat.reduceMul, Nat.reduceLT, Nat.reduceLeDiff, Nat.reduceBNe, Int.reduceBEq, Int.reduceBNe, Int.reduceLT, Int.reduceLE, Msg.a, Par.a, Nd.a, t0, t1, t5, t6]
      · rw [← hr, Nat.add_assoc]
    · simp (maxSteps := 4000000) only [go_sem, ↓reduceIte, reduceCtorEq, Nat.reduceEqDiff, Nat.reduceBEq, Nat.reduceAdd, Nat.reduceSub, Nat.reduceMul, Nat.reduceLT, Nat.reduceLeDiff, Nat.reduceBNe, Int.reduceBEq, Int.reduceBNe, Int.reduceLT, Int.reduceLE, Msg.a, Par.a, Nd.a, t0, t1, t5, t6, hlt', hm, List.length_map]
      have : ¬ ((n + sumN Msg.bulk (l.drop j) : Nat) : Int) ≤ most := by omega
      simp only [decide_eq_false this] at hr
      exact of_decide_eq_false hr.symm
  · have hlt' : ¬ (j : Int) < (l.length : Int) := by omega
    simp (maxSteps := 4000000) only [go_sem, ↓reduceIte, reduceCtorEq, Nat.reduceEqDiff, Nat.reduceBEq, Nat.reduceAdd, Nat.reduceSub, Nat.reduceMul, Nat.reduceLT, Nat.reduceLeDiff, Nat.reduceBNe, Int.reduceBEq, Int.reduceBNe, Int.reduceLT, Int.reduceLE, Msg.a, Par.a, Nd.a, t0, t1, t5, t6, hlt', List.length_map]
    rw [← hr]
    show decide (((n + sumN Msg.bulk (l.drop j) : Nat) : Int) ≤ most) = _
    rw [List.drop_eq_nil_of_le (by omega)]
    exact decide_eq_decide.2 Iff.rfl
/-- with an early end -/
def sGo (most : Int) : Nat → List ByteArray → Nat
  | n, [] => n
  | n, x :: l => if (n : Int) ≤ most then sGo most (n + strBulk x) l else n
theorem sGo_iff (most : Int) : ∀ (l : List ByteArray) (n : Nat), decide (most < (sGo most n l : Int)) = !decide (((n + sumN strBulk l : Nat) : Int) ≤ most)
  | [], n => by
    show decide (most < (n : Int)) = !decide (((n + 0 : Nat) : Int) ≤ most)
    by_cases h : (n : Int) ≤ most
    · rw [decide_eq_false (by omega), decide_eq_true (by omega)]; rfl
    · rw [decide_eq_true (by omega), decide_eq_false (by omega)]; rfl
  | x :: l, n => by
    rw [sGo]
    by_cases h : (n : Int) ≤ most
    · rw [if_pos h, sGo_iff most l (n + strBulk x), Nat.add_assoc]; rfl
    · rw [if_neg h, decide_eq_true (by omega), decide_eq_false (by omega)]; rfl
def long1Inv (l : List ByteArray) (most : Int) (r : Nat) (k : Nat) (σ : St) : Prop :=
  ∃ (j n : Nat), j ≤ l.length ∧ k = l.length - j ∧ σ.T 0 = .sl (l.map .str) ∧ σ.T 1 = .int .i64 most ∧ σ.T 5 = .int .i64 n ∧ σ.T 6 = .int .i64 j ∧ n ≤ 900000000000000 ∧ sGo most n (l.drop j) = r
theorem rLong1_ok (l : List ByteArray) (most : Int) (h1 : 0 ≤ most) (h2 : most ≤ 1000000) (hs : ∀ m, m ∈ l → m.size ≤ 281474976710656) (hl : l.length ≤ 281474976710656) :
    AFn Tryd.prog 49 [.sl (l.map .str), .int .i64 most] (.int .i64 (sGo most 0 l : Int)) := by
  refine fn_rLong1 rfl ?_
  simp (maxSteps := 4000000) only [go_sem, ↓reduceIte, reduceCtorEq, Nat.reduceEqDiff, Nat.reduceBEq, Nat.reduceAdd, Nat.reduceSub, Nat.reduceMul, Nat.reduceLT, Nat.reduceLeDiff, Nat.reduceBNe, Int.reduceBEq, Int.reduceBNe, Int.reduceLT, Int.reduceLE, Msg.a, Par.a, Nd.a]
  refine run_loop (long1Inv l most (sGo most 0 l)) (k := l.length) ⟨0, 0, by omega, rfl, rfl, rfl, rfl, rfl, by omega, ?_⟩ ?_
  · rfl
  rintro k σ ⟨j, n, hj, rfl, t0, t1, t5, t6, hn2, hr⟩
  simp only [r_rLong1_l6]
  by_cases hlt : j < l.length
  · have hlt' : (j : Int) < (l.length : Int) := by omega
    obtain ⟨x, hx⟩ := get_lt hlt
    rw [drop_at hx, sGo] at hr
    by_cases hm : (n : Int) ≤ most
    · have hgj := at_map (f := AV.str) hx
      have hw := wrapS (j := j) (by omega)
      have s1 := hs x (List.mem_of_getElem? hx)
      have w1 : IntKind.i64.wrap ((x.size : Int) + 1) = (x.size : Int) + 1 := IntWalk.i64_in _ (by omega)
      have w4 : IntKind.i64.wrap ((n : Int) + ((x.size : Int) + 1)) = ((n + strBulk x : Nat) : Int) := by
        rw [IntWalk.i64_in _ (by omega)]; unfold strBulk; omega
      rw [if_pos hm] at hr
      simp (maxSteps := 4000000) only [go_sem, ↓reduceIte, reduceCtorEq, Nat.reduceEqDiff, Nat.reduceBEq, Nat.reduceAdd, Nat.reduceSub, Nat.reduceMul, Nat.reduceLT, Nat.reduceLeDiff, Nat.reduceBNe, Int.reduceBEq, Int.reduceBNe, Int.reduceLT, Int.reduceLE, Msg.a, Par.a, Nd.a, t0, t1, t5, t6, hlt', hm, hgj, List.length_map, Int.toNat_natCast, w1, w4, hw]
      (repeat refine And.intro (by omega) ?_)
      refine ⟨l.length - (j + 1), by omega, j + 1, n + strBulk x, by omega, rfl, ?_, ?_, ?_, ?_, by unfold strBulk; omega, hr⟩ <;> (simp (maxSteps := 4000000) only [go_sem, ↓reduceIte, reduceCtorEq, Nat.reduceEqDiff, Nat.reduceBEq, Nat.reduceAdd, Nat.reduceSub, Nat.reduceMul, Nat.reduceLT, Nat.reduceLeDiff, Nat.reduceBNe, Int.reduceBEq, Int.reduceBNe, Int.reduceLT, Int.reduceLE, Msg.a, Par.a, Nd.a, t0, t1, t5, t6])
    · rw [if_neg hm] at hr
      simp (maxSteps := 4000000) only [go_sem, ↓reduceIte, reduceCtorEq, Nat.reduceEqDiff, Nat.reduceBEq, Nat.reduceAdd, Nat.reduceSub, Nat.reduceMul, Nat.reduceLT, Nat.reduceLeDiff, Nat.reduceBNe, Int.reduceBEq, Int.reduceBNe, Int.reduceLT, Int.reduceLE, Msg.a, Par.a, Nd.a, t0, t1, t5, t6, hlt', hm, List.length_map, ← hr]
  · have hlt' : ¬ (j : Int) < (l.length : Int) := by omega
    rw [List.drop_eq_nil_of_le (by omega), sGo] at hr
    simp (maxSteps := 4000000) only [go_sem, ↓reduceIte, reduceCtorEq, Nat.reduceEqDiff, Nat.reduceBEq, Nat.reduceAdd, Nat.reduceSub, Nat.reduceMul, Nat.reduceLT, Nat.reduceLeDiff, Nat.reduceBNe, Int.reduceBEq, Int.reduceBNe, Int.reduceLT, Int.reduceLE, Msg.a, Par.a, Nd.a, t0, t1, t5, t6, hlt', List.length_map, ← hr]
/-! ### Light -/
def Nd.light (most : Int) (x : Nd) : Bool := decide ((sumN Par.bulk x.rows : Int) ≤ most) && decide ((sumN strBulk x.pivots : Int) ≤ most) && decide ((x.kids.length : Int) ≤ most) && decide ((sumN Msg.bulk x.msgs : Int) ≤ most) && decide ((x.high.size : Int) ≤ most)
def lightB (l : List Nd) (n most : Int) : Bool := decide ((l.length : Int) ≤ n) && l.all (Nd.light most)
/-! ### percolate/percolateref17.Light -/
def r_light_0 : Reg := ⟨[], [⟨(.mv (.c (.bool false))), (some 6), none, [], []⟩], [], [], false⟩
def r_light_1 : Reg := ⟨[], [⟨(.mv (.t 0)), (some 8), none, [], []⟩, ⟨(.len false (.t 8)), (some 9), none, [], []⟩, ⟨(.mv (.t 1)), (some 10), none, [], []⟩, ⟨(.bin .gtr (.t 9) (.t 10)), (some 11), none, [], []⟩], [], [], false⟩
def r_light_2 : Reg := ⟨[], [⟨(.mv (.c (.bool false))), (some 6), none, [], []⟩], [], [], false⟩
def r_light_3 : Reg := ⟨[], [⟨(.mv (.c (.int .i64 0))), (some 7), none, [], []⟩], [], [], false⟩
def r_light_4 : Reg := ⟨[], [⟨(.mv (.t 7)), (some 12), none, [], []⟩, ⟨(.mv (.t 0)), (some 13), none, [], []⟩, ⟨(.len false (.t 13)), (some 14), none, [], []⟩, ⟨(.bin .lss (.t 12) (.t 14)), (some 15), none, [], []⟩], [], [], false⟩
def r_light_5 : Reg := ⟨[], [⟨(.mv (.t 0)), (some 18), none, [24, 33, 54], []⟩, ⟨(.mv (.t 7)), (some 19), none, [24, 33, 54], []⟩, ⟨(.iaddr 10 (.t 18) (.t 19)), (some 20), none, [24, 33, 54], []⟩, ⟨(.faddr 9 (.t 20)), (some 21), none, [24, 33, 54], []⟩, ⟨(.load 1 false (.t 21)), (some 22), none, [24, 33, 54], []⟩, ⟨(.mv (.t 2)), (some 23), none, [24, 33, 54], []⟩, ⟨(.callv (.c (.clo 48 [] [])) [(.t 22), (.t 23)]), (some 24), none, [33, 54], []⟩, ⟨(.un .not (.t 24)), (some 25), none, [33, 54], []⟩, ⟨(.mv (.t 25)), (some 26), none, [33, 54], []⟩, ⟨(.mv (.t 0)), (some 27), (some (26, false)), [33, 54], []⟩, ⟨(.mv (.t 7)), (some 28), (some (26, false)), [33, 54], []⟩, ⟨(.iaddr 10 (.t 27) (.t 28)), (some 29), (some (26, false)), [33, 54], []⟩, ⟨(.faddr 2 (.t 29)), (some 30), (some (26, false)), [33, 54], []⟩, ⟨(.load 1 false (.t 30)), (some 31), (some (26, false)), [33, 54], []⟩, ⟨(.mv (.t 2)), (some 32), (some (26, false)), [33, 54], []⟩, ⟨(.callv (.c (.clo 49 [] [])) [(.t 31), (.t 32)]), (some 33), (some (26, false)), [54], []⟩, ⟨(.mv (.t 2)), (some 34), (some (26, false)), [54], []⟩, ⟨(.bin .gtr (.t 33) (.t 34)), (some 35), (some (26, false)), [54], []⟩, ⟨(.pick (.t 26) (.c (.bool true)) (.t 35)), (some 36), none, [54], []⟩, ⟨(.mv (.t 36)), (some 37), none, [54], []⟩, ⟨(.mv (.t 0)), (some 38), (some (37, false)), [54], []⟩, ⟨(.mv (.t 7)), (some 39), (some (37, false)), [54], []⟩, ⟨(.iaddr 10 (.t 38) (.t 39)), (some 40), (some (37, false)), [54], []⟩, ⟨(.faddr 3 (.t 40)), (some 41), (some (37, false)), [54], []⟩, ⟨(.load 1 false (.t 41)), (some 42), (some (37, false)), [54], []⟩, ⟨(.len false (.t 42)), (some 43), (some (37, false)), [54], []⟩, ⟨(.mv (.t 2)), (some 44), (some (37, false)), [54], []⟩, ⟨(.bin .gtr (.t 43) (.t 44)), (some 45), (some (37, false)), [54], []⟩, ⟨(.pick (.t 37) (.c (.bool true)) (.t 45)), (some 46), none, [54], []⟩, ⟨(.mv (.t 46)), (some 47), none, [54], []⟩, ⟨(.mv (.t 0)), (some 48), (some (47, false)), [54], []⟩, ⟨(.mv (.t 7)), (some 49), (some (47, false)), [54], []⟩, ⟨(.iaddr 10 (.t 48) (.t 49)), (some 50), (some (47, false)), [54], []⟩, ⟨(.faddr 8 (.t 50)), (some 51), (some (47, false)), [54], []⟩, ⟨(.load 1 false (.t 51)), (some 52), (some (47, false)), [54], []⟩, ⟨(.mv (.t 2)), (some 53), (some (47, false)), [54], []⟩, ⟨(.callv (.c (.clo 50 [] [])) [(.t 52), (.t 53)]), (some 54), (some (47, false)), [], []⟩, ⟨(.un .not (.t 54)), (some 55), (some (47, false)), [], []⟩, ⟨(.pick (.t 47) (.c (.bool true)) (.t 55)), (some 56), none, [], []⟩, ⟨(.mv (.t 56)), (some 57), none, [], []⟩, ⟨(.mv (.t 0)), (some 58), (some (57, false)), [], []⟩, ⟨(.mv (.t 7)), (some 59), (some (57, false)), [], []⟩, ⟨(.iaddr 10 (.t 58) (.t 59)), (some 60), (some (57, false)), [], []⟩, ⟨(.faddr 4 (.t 60)), (some 61), (some (57, false)), [], []⟩, ⟨(.load 1 false (.t 61)), (some 62), (some (57, false)), [], []⟩, ⟨(.len true (.t 62)), (some 63), (some (57, false)), [], []⟩, ⟨(.mv (.t 2)), (some 64), (some (57, false)), [], []⟩, ⟨(.bin .gtr (.t 63) (.t 64)), (some 65), (some (57, false)), [], []⟩, ⟨(.pick (.t 57) (.c (.bool true)) (.t 65)), (some 66), none, [], []⟩], [24, 33, 54], [], false⟩
def r_light_6 : Reg := ⟨[], [⟨(.mv (.c (.bool false))), (some 6), none, [], []⟩], [], [], false⟩
def r_light_7 : Reg := ⟨[], [⟨(.mv (.t 7)), (some 16), none, [], []⟩, ⟨(.bin .add (.t 16) (.c (.int .i64 1))), (some 17), none, [], []⟩, ⟨(.mv (.t 17)), (some 7), none, [], []⟩], [], [], false⟩
def r_light_l8 : IR := (.seq (.seq (.reg r_light_4)
  (.cond (.t 15) .skip
  (.exit 0)))
  (.seq (.block 1 (.seq (.reg r_light_5)
  (.cond (.t 66) (.seq (.reg r_light_6)
  .ret)
  .skip)))
  (.reg r_light_7)))
def r_light_9 : Reg := ⟨[], [⟨(.mv (.c (.bool true))), (some 6), none, [], []⟩], [], [], false⟩
def ir_light : IR := (.seq (.reg r_light_0)
  (.seq (.seq (.reg r_light_1)
  (.cond (.t 11) (.seq (.reg r_light_2)
  .ret)
  .skip))
  (.seq (.seq (.reg r_light_3)
  (.block 0 (.loop r_light_l8)))
  (.seq (.reg r_light_9)
  .ret))))
def res_light : List RDesc := [(.tmp 6)]
theorem e_light_0 (C : FuncId → List AV → AV → Prop) (σ : St) (K : St → Prop) : runReg C r_light_0 σ K = runOps C [⟨(.mv (.c (.bool false))), (some 6), none, [], []⟩] (σ.kills []) K := rfl
theorem e_light_1 (C : FuncId → List AV → AV → Prop) (σ : St) (K : St → Prop) : runReg C r_light_1 σ K = runOps C [⟨(.mv (.t 0)), (some 8), none, [], []⟩, ⟨(.len false (.t 8)), (some 9), none, [], []⟩, ⟨(.mv (.t 1)), (some 10), none, [], []⟩, ⟨(.bin .gtr (.t 9) (.t 10)), (some 11), none, [], []⟩] (σ.kills []) K := rfl
theorem e_light_2 (C : FuncId → List AV → AV → Prop) (σ : St) (K : St → Prop) : runReg C r_light_2 σ K = runOps C [⟨(.mv (.c (.bool false))), (some 6), none, [], []⟩] (σ.kills []) K := rfl
theorem e_light_3 (C : FuncId → List AV → AV → Prop) (σ : St) (K : St → Prop) : runReg C r_light_3 σ K = runOps C [⟨(.mv (.c (.int .i64 0))), (some 7), none, [], []⟩] (σ.kills []) K := rfl
theorem e_light_4 (C : FuncId → List AV → AV → Prop) (σ : St) (K : St → Prop) : runReg C r_light_4 σ K = runOps C [⟨(.mv (.t 7)), (some 12), none, [], []⟩, ⟨(.mv (.t 0)), (some 13), none, [], []⟩, ⟨(.len false (.t 13)), (some 14), none, [], []⟩, ⟨(.bin .lss (.t 12) (.t 14)), (some 15), none, [], []⟩] (σ.kills []) K := rfl
theorem e_light_5 (C : FuncId → List AV → AV → Prop) (σ : St) (K : St → Prop) : runReg C r_light_5 σ K = runOps C [⟨(.mv (.t 0)), (some 18), none, [24, 33, 54], []⟩, ⟨(.mv (.t 7)), (some 19), none, [24, 33, 54], []⟩, ⟨(.iaddr 10 (.t 18) (.t 19)), (some 20), none, [24, 33, 54], []⟩, ⟨(.faddr 9 (.t 20)), (some 21), none, [24, 33, 54], []⟩, ⟨(.load 1 false (.t 21)), (some 22), none, [24, 33, 54], []⟩, ⟨(.mv (.t 2)), (some 23), none, [24, 33, 54], []⟩, ⟨(.callv (.c (.clo 48 [] [])) [(.t 22), (.t 23)]), (some 24), none, [33, 54], []⟩, ⟨(.un .not (.t 24)), (some 25), none, [33, 54], []⟩, ⟨(.mv (.t 25)), (some 26), none, [33, 54], []⟩, ⟨(.mv (.t 0)), (some 27), (some (26, false)), [33, 54], []⟩, ⟨(.mv (.t 7)), (some 28), (some (26, false)), [33, 54], []⟩, ⟨(.iaddr 10 (.t 27) (.t 28)), (some 29), (some (26, false)), [33, 54], []⟩, ⟨(.faddr 2 (.t 29)), (some 30), (some (26, false)), [33, 54], []⟩, ⟨(.load 1 false (.t 30)), (some 31), (some (26, false)), [33, 54], []⟩, ⟨(.mv (.t 2)), (some 32), (some (26, false)), [33, 54], []⟩, ⟨(.callv (.c (.clo 49 [] [])) [(.t 31), (.t 32)]), (some 33), (some (26, false)), [54], []⟩, ⟨(.mv (.t 2)), (some 34), (some (26, false)), [54], []⟩, ⟨(.bin .gtr (.t 33) (.t 34)), (some 35), (some (26, false)), [54], []⟩, ⟨(.pick (.t 26) (.c (.bool true)) (.t 35)), (some 36), none, [54], []⟩, ⟨(.mv (.t 36)), (some 37), none, [54], []⟩, ⟨(.mv (.t 0)), (some 38), (some (37, false)), [54], []⟩, ⟨(.mv (.t 7)), (some 39), (some (37, false)), [54], []⟩, ⟨(.iaddr 10 (.t 38) (.t 39)), (some 40), (some (37, false)), [54], []⟩, ⟨(.faddr 3 (.t 40)), (some 41), (some (37, false)), [54], []⟩, ⟨(.load 1 false (.t 41)), (some 42), (some (37, false)), [54], []⟩, ⟨(.len false (.t 42)), (some 43), (some (37, false)), [54], []⟩, ⟨(.mv (.t 2)), (some 44), (some (37, false)), [54], []⟩, ⟨(.bin .gtr (.t 43) (.t 44)), (some 45), (some (37, false)), [54], []⟩, ⟨(.pick (.t 37) (.c (.bool true)) (.t 45)), (some 46), none, [54], []⟩, ⟨(.mv (.t 46)), (some 47), none, [54], []⟩, ⟨(.mv (.t 0)), (some 48), (some (47, false)), [54], []⟩, ⟨(.mv (.t 7)), (some 49), (some (47, false)), [54], []⟩, ⟨(.iaddr 10 (.t 48) (.t 49)), (some 50), (some (47, false)), [54], []⟩, ⟨(.faddr 8 (.t 50)), (some 51), (some (47, false)), [54], []⟩, ⟨(.load 1 false (.t 51)), (some 52), (some (47, false)), [54], []⟩, ⟨(.mv (.t 2)), (some 53), (some (47, false)), [54], []⟩, ⟨(.callv (.c (.clo 50 [] [])) [(.t 52), (.t 53)]), (some 54), (some (47, false)), [], []⟩, ⟨(.un .not (.t 54)), (some 55), (some (47, false)), [], []⟩, ⟨(.pick (.t 47) (.c (.bool true)) (.t 55)), (some 56), none, [], []⟩, ⟨(.mv (.t 56)), (some 57), none, [], []⟩, ⟨(.mv (.t 0)), (some 58), (some (57, false)), [], []⟩, ⟨(.mv (.t 7)), (some 59), (some (57, false)), [], []⟩, ⟨(.iaddr 10 (.t 58) (.t 59)), (some 60), (some (57, false)), [], []⟩, ⟨(.faddr 4 (.t 60)), (some 61), (some (57, false)), [], []⟩, ⟨(.load 1 false (.t 61)), (some 62), (some (57, false)), [], []⟩, ⟨(.len true (.t 62)), (some 63), (some (57, false)), [], []⟩, ⟨(.mv (.t 2)), (some 64), (some (57, false)), [], []⟩, ⟨(.bin .gtr (.t 63) (.t 64)), (some 65), (some (57, false)), [], []⟩, ⟨(.pick (.t 57) (.c (.bool true)) (.t 65)), (some 66), none, [], []⟩] (σ.kills [24, 33, 54]) K := rfl
theorem e_light_6 (C : FuncId → List AV → AV → Prop) (σ : St) (K : St → Prop) : runReg C r_light_6 σ K = runOps C [⟨(.mv (.c (.bool false))), (some 6), none, [], []⟩] (σ.kills []) K := rfl
theorem e_light_7 (C : FuncId → List AV → AV → Prop) (σ : St) (K : St → Prop) : runReg C r_light_7 σ K = runOps C [⟨(.mv (.t 7)), (some 16), none, [], []⟩, ⟨(.bin .add (.t 16) (.c (.int .i64 1))), (some 17), none, [], []⟩, ⟨(.mv (.t 17)), (some 7), none, [], []⟩] (σ.kills []) K := rfl
theorem e_light_9 (C : FuncId → List AV → AV → Prop) (σ : St) (K : St → Prop) : runReg C r_light_9 σ K = runOps C [⟨(.mv (.c (.bool true))), (some 6), none, [], []⟩] (σ.kills []) K := rfl
theorem fn_light {args : List AV} {r : AV} (ha : args.length.ble Tryd.f10.ntmps = true) (h : run (AFn Tryd.prog) ir_light (endQ res_light r) (initSt args)) : AFn Tryd.prog 10 args r :=
  AFn.of_code (hint := fun _ => []) (c := Tryd.f10.body.getD .skip) (by kernel_rfl) (by kernel_rfl) Tryd.func10 (by kernel_rfl) (by kernel_rfl) (by kernel_rfl) (of_decide_eq_true (by kernel_rfl)) (Nat.le_of_ble_eq_true ha) (Nat.le_of_ble_eq_true (by kernel_rfl)) (run_ok h)

attribute [local go_sem ↓] ir_light
attribute [local go_sem] res_light e_light_0 e_light_1 e_light_2 e_light_3 e_light_4 e_light_5 e_light_6 e_light_7 e_light_9

def lightInv (l : List Nd) (n most : Int) (r : Bool) (k : Nat) (σ : St) : Prop :=
  ∃ j : Nat, j ≤ l.length ∧ k = l.length - j ∧ σ.T 0 = .sl (l.map Nd.a) ∧ σ.T 2 = .int .i64 most ∧ σ.T 7 = .int .i64 j ∧ (l.drop j).all (Nd.light most) = r
theorem light_ok (l : List Nd) (n most : Int) (h1 : 0 ≤ most) (h2 : most ≤ 1000000) (hs : ∀ x, x ∈ l → x.ok) (hl : l.length ≤ 281474976710656) :
    AFn Tryd.prog 10 [.sl (l.map Nd.a), .int .i64 n, .int .i64 most] (.bool (lightB l n most)) := by
  refine fn_light rfl ?_
  unfold lightB
  by_cases hn : (l.length : Int) ≤ n
  case neg =>
    have hn' : n < (l.length : Int) := by omega
    rw [decide_eq_false hn]
    simp (maxSteps := 4000000) only [go_sem, ↓reduceIte, reduceCtorEq, Nat.reduceEqDiff, Nat.reduceBEq, Nat.reduceAdd, Nat.reduceSub, Nat.reduceMul, Nat.reduceLT, Nat.reduceLeDiff, Nat.reduceBNe, Int.reduceBEq, Int.reduceBNe, Int.reduceLT, Int.reduceLE, Msg.a, Par.a, Nd.a, hn', List.length_map, Bool.false_and]
  have hn' : ¬ n < (l.length : Int) := by omega
  rw [decide_eq_true hn]
  obtain ⟨R, hR⟩ : ∃ R, l.all (Nd.light most) = R := ⟨_, rfl⟩
  rw [hR]
  simp (maxSteps := 4000000) only [go_sem, ↓reduceIte, reduceCtorEq, Nat.reduceEqDiff, Nat.reduceBEq, Nat.reduceAdd, Nat.reduceSub, Nat.reduceMul, Nat.reduceLT, Nat.reduceLeDiff, Nat.reduceBNe, Int.reduceBEq, Int.reduceBNe, Int.reduceLT, Int.reduceLE, Msg.a, Par.a, Nd.a, hn', List.length_map, Bool.true_and]
  refine run_loop (lightInv l n most R) (k := l.length) ⟨0, by omega, rfl, rfl, rfl, rfl, hR⟩ ?_
  clear hR
  rintro k σ ⟨j, hj, rfl, t0, t2, t7, hr⟩
  simp only [r_light_l8]
  by_cases hlt : j < l.length
  · have hlt' : (j : Int) < (l.length : Int) := by omega
    obtain ⟨x, hx⟩ := get_lt hlt
    have hgj := at_map (f := Nd.a) hx
    simp only [Nd.a] at hgj
    have hw := wrapS (j := j) (by omega)
    have ok := hs x (List.mem_of_getElem? hx)
    have c1 := rLong9_ok x.rows most h1 h2 (fun m hm => ⟨(ok.rows.2 m hm).key, (ok.rows.2 m hm).val⟩) ok.rows.1
    have c2 := rLong1_ok x.pivots most h1 h2 ok.pivots.2 ok.pivots.1
    have c3 := rFew_ok x.msgs most h1 h2 (fun m hm => ⟨(ok.msgs.2 m hm).key, (ok.msgs.2 m hm).hi, (ok.msgs.2 m hm).val⟩) ok.msgs.1
    have e2 := sGo_iff most x.pivots 0
    rw [drop_at hx, List.all_cons] at hr
    unfold Nd.light at hr
    rw [Nat.zero_add] at e2
    have z0 : IntKind.i64.wrap (j : Int) = (j : Int) := IntWalk.i64_in _ (by omega)
    cases q1 : decide ((sumN Par.bulk x.rows : Int) ≤ most) with
    | false =>
      rw [q1] at c1 hr
      simp only [Bool.false_and] at hr
      (repeat (first | simp (maxSteps := 4000000) only [go_sem, ↓reduceIte, reduceCtorEq, Nat.reduceEqDiff, Nat.reduceBEq, Nat.reduceAdd, Nat.reduceSub, Nat.reduceMul, Nat.reduceLT, Nat.reduceLeDiff, Nat.reduceBNe, Int.reduceBEq, Int.reduceBNe, Int.reduceLT, Int.reduceLE, Msg.a, Par.a, Nd.a, t0, t2, t7, hlt', hgj, List.length_map, Int.toNat_natCast, ← hr] | refine calling (c1) ?_ | refine callingH (c1) ?_ | refine And.intro (by omega) ?_ | refine And.intro (fun d hd => by (repeat (rcases hd with rfl | hd; · exact ⟨rfl, rfl⟩)); cases hd) ?_))
    | true =>
      rw [q1] at c1 hr
      cases q2 : decide ((sumN strBulk x.pivots : Int) ≤ most) with
      | false =>
        rw [q2] at e2 hr
        have e3 := of_decide_eq_true e2
        simp only [Bool.false_and, Bool.and_false] at hr
        (repeat (first | simp (maxSteps := 4000000) only [go_sem, ↓reduceIte, reduceCtorEq, Nat.reduceEqDiff, Nat.reduceBEq, Nat.reduceAdd, Nat.reduceSub, Nat.reduceMul, Nat.reduceLT, Nat.reduceLeDiff, Nat.reduceBNe, Int.reduceBEq, Int.reduceBNe, Int.reduceLT, Int.reduceLE, Msg.a, Par.a, Nd.a, t0, t2, t7, hlt', hgj, List.length_map, Int.toNat_natCast, e3, ← hr] | refine calling (c1) ?_ | refine callingH (c1) ?_ | refine calling (c2) ?_ | refine callingH (c2) ?_ | refine And.intro (by omega) ?_ | refine And.intro (fun d hd => by (repeat (rcases hd with rfl | hd; · exact ⟨rfl, rfl⟩)); cases hd) ?_))
      | true =>
        rw [q2] at e2 hr
        have e3 := of_decide_eq_false e2
        by_cases q3 : (x.kids.length : Int) ≤ most
        case neg =>
          rw [decide_eq_false q3] at hr
          have q3' : most < (x.kids.length : Int) := by omega
          simp only [Bool.false_and, Bool.and_false] at hr
          (repeat (first | simp (maxSteps := 4000000) only [go_sem, ↓reduceIte, reduceCtorEq, Nat.reduceEqDiff, Nat.reduceBEq, Nat.reduceAdd, Nat.reduceSub, Nat.reduceMul, Nat.reduceLT, Nat.reduceLeDiff, Nat.reduceBNe, Int.reduceBEq, Int.reduceBNe, Int.reduceLT, Int.reduceLE, Msg.a, Par.a, Nd.a, t0, t2, t7, hlt', hgj, List.length_map, Int.toNat_natCast, e3, q3', ← hr] | refine calling (c1) ?_ | refine callingH (c1) ?_ | refine calling (c2) ?_ | refine callingH (c2) ?_ | refine And.intro (by omega) ?_ | refine And.intro (fun d hd => by (repeat (rcases hd with rfl | hd; · exact ⟨rfl, rfl⟩)); cases hd) ?_))
          all_goals omega
        rw [decide_eq_true q3] at hr
        have q3' : ¬ most < (x.kids.length : Int) := by omega
        cases q4 : decide ((sumN Msg.bulk x.msgs : Int) ≤ most) with
        | false =>
          rw [q4] at c3 hr
          simp only [Bool.false_and, Bool.and_false] at hr
          (repeat (first | simp (maxSteps := 4000000) only [go_sem, ↓reduceIte, reduceCtorEq, Nat.reduceEqDiff, Nat.reduceBEq, Nat.reduceAdd, Nat.reduceSub, Nat.reduceMul, Nat.reduceLT, Nat.reduceLeDiff, Nat.reduceBNe, Int.reduceBEq, Int.reduceBNe, Int.reduceLT, Int.reduceLE, Msg.a, Par.a, Nd.a, t0, t2, t7, hlt', hgj, List.length_map, Int.toNat_natCast, e3, q3', ← hr] | refine calling (c1) ?_ | refine callingH (c1) ?_ | refine calling (c2) ?_ | refine callingH (c2) ?_ | refine calling (c3) ?_ | refine callingH (c3) ?_ | refine And.intro (by omega) ?_ | refine And.intro (fun d hd => by (repeat (rcases hd with rfl | hd; · exact ⟨rfl, rfl⟩)); cases hd) ?_))
        | true =>
          rw [q4] at c3 hr
          by_cases q5 : (x.high.size : Int) ≤ most
          case neg =>
            rw [decide_eq_false q5] at hr
            have q5' : most < (x.high.size : Int) := by omega
            simp only [Bool.false_and, Bool.and_false] at hr
            (repeat (first | simp (maxSteps := 4000000) only [go_sem, ↓reduceIte, reduceCtorEq, Nat.reduceEqDiff, Nat.reduceBEq, Nat.reduceAdd, Nat.reduceSub, Nat.reduceMul, Nat.reduceLT, Nat.reduceLeDiff, Nat.reduceBNe, Int.reduceBEq, Int.reduceBNe, Int.reduceLT, Int.reduceLE, Msg.a, Par.a, Nd.a, t0, t2, t7, hlt', hgj, List.length_map, Int.toNat_natCast, e3, q3', q5', ← hr] | refine calling (c1) ?_ | refine callingH (c1) ?_ | refine calling (c2) ?_ | refine callingH (c2) ?_ | refine calling (c3) ?_ | refine callingH (c3) ?_ | refine And.intro (by omega) ?_ | refine And.intro (fun d hd => by (repeat (rcases hd with rfl | hd; · exact ⟨rfl, rfl⟩)); cases hd) ?_))
            all_goals omega
          rw [decide_eq_true q5] at hr
          have q5' : ¬ most < (x.high.size : Int) := by omega
          simp only [Bool.true_and, Bool.and_true] at hr
          (repeat (first | simp (maxSteps := 4000000) only [go_sem, ↓reduceIte, reduceCtorEq, Nat.reduceEqDiff, Nat.reduceBEq, Nat.reduceAdd, Nat.reduceSub, Nat.reduceMul, Nat.reduceLT, Nat.reduceLeDiff, Nat.reduceBNe, Int.reduceBEq, Int.reduceBNe, Int.reduceLT, Int.reduceLE, Msg.a, Par.a, Nd.a, t0, t2, t7, hlt', hgj, List.length_map, Int.toNat_natCast, e3, q3', q5', hw] | refine calling (c1) ?_ | refine callingH (c1) ?_ | refine calling (c2) ?_ | refine callingH (c2) ?_ | refine calling (c3) ?_ | refine callingH (c3) ?_ | refine And.intro (by omega) ?_ | refine And.intro (fun d hd => by (repeat (rcases hd with rfl | hd; · exact ⟨rfl, rfl⟩)); cases hd) ?_))
          refine ⟨l.length - (j + 1), by omega, j + 1, by omega, rfl, ?_, ?_, ?_, hr⟩ <;> (simp (maxSteps := 4000000) only [go_sem, ↓reduceIte, reduceCtorEq, Nat.reduceEqDiff, Nat.reduceBEq, Nat.reduceAdd, Nat.reduceSub, Nat.reduceMul, Nat.reduceLT, Nat.reduceLeDiff, Nat.reduceBNe, Int.reduceBEq, Int.reduceBNe, Int.reduceLT, Int.reduceLE, Msg.a, Par.a, Nd.a, t0, t2, t7, hw])
  · have hlt' : ¬ (j : Int) < (l.length : Int) := by omega
    rw [List.drop_eq_nil_of_le (by omega)] at hr
    simp (maxSteps := 4000000) only [go_sem, ↓reduceIte, reduceCtorEq, Nat.reduceEqDiff, Nat.reduceBEq, Nat.reduceAdd, Nat.reduceSub, Nat.reduceMul, Nat.reduceLT, Nat.reduceLeDiff, Nat.reduceBNe, Int.reduceBEq, Int.reduceBNe, Int.reduceLT, Int.reduceLE, Msg.a, Par.a, Nd.a, t0, t2, t7, hlt', List.length_map, ← hr, List.all_nil]
end Go.Proofs.YtkdbphhekpdmhaaDoor
