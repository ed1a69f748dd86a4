/-
  Part 12 of a proof: NdB, SqG, SqH, SqJ, SqK.
-/
import Derived.Test.YtelmejaiapdgnaaDoorGF11
namespace Go.Proofs.YtelmejaiapdgnaaDoor
attribute [local go_sem] ev0 ev1 ev2 ev3 ev4 evA stHOk.eq_1 stHOk.eq_2 stHSt.eq_1 stHSt.eq_2 okV valV fzV okF valF okBld valBld mxOk.eq_1 mxOk.eq_2 mxVal.eq_1 mxVal.eq_2 cellFit.eq_1 cellFit.eq_2 cellFit.eq_3 cellEq.eq_1 cellEq.eq_2 cellEq.eq_3 upd_at AV.flatB AV.flatBs binIok binIV binSok binSV cellsOk.eq_1 cellsOk.eq_2 cellsVal.eq_1 cellsVal.eq_2 objCells.eq_1 objCells.eq_2 objZ.eq_1 objZ.eq_2 objProt.eq_1 objProt.eq_2 oneObj ptrOk.eq_1 ptrOk.eq_2 ptrOk.eq_3 ptrCells.eq_1 ptrCells.eq_2 ptrCells.eq_3 lenOk.eq_1 lenOk.eq_2 lenOk.eq_3 lenOk.eq_4 lenVal.eq_1 lenVal.eq_2 lenVal.eq_3 lenVal.eq_4 faOk.eq_1 faOk.eq_2 faOk.eq_3 faVal.eq_1 faVal.eq_2 faVal.eq_3 iaOk.eq_1 iaOk.eq_2 iaOk.eq_3 iaVal.eq_1 iaVal.eq_2 iaVal.eq_3 slcLen.eq_1 slcLen.eq_2 slcLen.eq_3 slcLen.eq_4 bdOk.eq_1 bdOk.eq_2 bdVal.eq_1 bdVal.eq_2 slcOk.eq_1 slcOk.eq_2 slcOk.eq_3 slcOk.eq_4 slcVal.eq_1 slcVal.eq_2 slcVal.eq_3 slcVal.eq_4 slcFz.eq_1 slcFz.eq_2 loK.eq_1 loK.eq_2 loK.eq_3 rsVal.eq_1 rsVal.eq_2 rsVal.eq_3 byOk.eq_1 byOk.eq_2 byOk.eq_3 byOk.eq_4 byOk.eq_5 byOk.eq_6 byOk.eq_7 byOk.eq_8 byVal.eq_1 byVal.eq_2 byVal.eq_3 byFz.eq_1 byFz.eq_2 byFz.eq_3 byOks byVals byFzs allOne resSt.eq_1 resSt.eq_2 resName.eq_1 resName.eq_2 stOk.eq_1 stOk.eq_2 stArr.eq_1 stArr.eq_2 stSt.eq_1 stSt.eq_2 AV.patch nameOk_none gB.eq_1 gB.eq_2 gB.eq_3 gIs.eq_1 gIs.eq_2 gIs.eq_3 retV resV resVs evalV cellsV St.byval List.getD_cons_zero List.getD_cons_succ List.getD_nil List.map_cons List.map_nil List.length_cons List.length_nil List.take_succ_cons List.take_zero List.drop_succ_cons List.drop_zero List.headD_cons List.set_cons_zero List.append_nil List.nil_append List.cons_append List.contains_cons List.contains_nil List.elem_cons List.elem_nil List.all_cons List.all_nil List.getElem?_cons_zero List.getElem?_cons_succ List.filterMap_cons List.filterMap_nil Option.isSome_some Option.isSome_none Option.map_some Option.map_none Option.some.injEq AV.int.injEq AV.bool.injEq AV.str.injEq AV.tup.injEq AV.agg.injEq AV.sl.injEq List.cons.injEq Bool.false_eq_true Bool.true_eq_false Bool.not_true Bool.not_false Bool.and_true Bool.true_and Bool.or_false Bool.or_true Bool.false_or Bool.true_or Bool.or_self Bool.and_self Bool.not_eq_true' Bool.not_eq_false' Bool.not_not beq_self_eq_true true_and and_true false_and and_false and_self not_true_eq_false not_false_eq_true forall_const true_implies false_implies implies_true imp_self Nat.lt_add_one Nat.le_refl Nat.zero_le Nat.add_zero Nat.zero_add decide_true decide_false decide_eq_true_eq decide_eq_false_iff_not exists_eq_left exists_eq_left' ge_iff_le gt_iff_lt ite_branch ite_branch' nilOk.eq_1 nilOk.eq_2 nilMay.eq_1 nilMay.eq_2 AV.isSl.eq_1 objTy'.eq_1 objTy'.eq_2 apSt.eq_1 apArr.eq_1 apArr.eq_2 apTwo.eq_1 apTwo.eq_2 apSt2.eq_1 apArr2.eq_1 apArr2.eq_2 slOf.eq_1 fitsV List.mem_cons List.not_mem_nil Bool.false_and Bool.and_false primOk.eq_1 primOk.eq_2 primOk.eq_3 primOk.eq_4 primOk.eq_5 primVal.eq_1 primVal.eq_2 primVal.eq_3 primVal.eq_4 primVal.eq_5 mOk.eq_1 mOk.eq_2 mVal.eq_1 mVal.eq_2 mFz.eq_1 mFz.eq_2 mOks mVals mFzs mCalOk.eq_1 mCalOk.eq_2 mFn.eq_1 mFn.eq_2 mArgs.eq_1 mArgs.eq_2 ckOk.eq_1 ckOk.eq_2 cloOk.eq_1 ptrAt.eq_1 sh.eq_1 sh.eq_2 sh.eq_3 sh.eq_4 sh.eq_5 sh.eq_6 retM shH_small evM entOk.eq_1 entOk.eq_2 ents.eq_1 ents.eq_2 kI.eq_1 mpOk.eq_1 mpR.eq_1 lkV.eq_1 lkV.eq_2 remp.eq_2 evP pvOk.eq_1 pvOk.eq_2 pvVal.eq_1 pvVal.eq_2 plOk.eq_1 plOk.eq_2 plOk.eq_3 plV.eq_1 plV.eq_2 plF.eq_1 plF.eq_2 plVal.eq_1 plVal.eq_2 plFz.eq_1 plFz.eq_2 lpOk.eq_1 lpOk.eq_2 lpVal.eq_1 lpVal.eq_2 lpFz.eq_1 lpFz.eq_2 stpOk.eq_1 stpOk.eq_2 stpSt.eq_1 stpSt.eq_2 stpArr.eq_1 keepS.eq_1 keepS.eq_2
section
/-
  Are nodes few, with few things? The document's Light, walked.
-/
open Go.RowKit
set_option linter.unusedVariables false
set_option linter.unusedSimpArgs false
set_option maxRecDepth 100000
attribute [local go_sem ↓] runOp headOp
def sumN {α : Type} (f : α → Nat) : List α → Nat
  | [] => 0
  | x :: l => f x + sumN f l
theorem sumN_at {α : Type} {f : α → Nat} {l : List α} {j : Nat} {x : α} (h : l[j]? = some x) : sumN f (l.drop j) = f x + sumN f (l.drop (j + 1)) := by
  rw [drop_at h]; rfl
theorem sumN_mem {α : Type} {f : α → Nat} : ∀ {l : List α} {x : α}, x ∈ l → f x ≤ sumN f l
  | y :: l, x, h => by
    show _ ≤ f y + sumN f l
    rcases List.mem_cons.1 h with rfl | h
    · omega
    · have := sumN_mem (f := f) h; omega
theorem sumN_len {α : Type} {f : α → Nat} (hf : ∀ x, 1 ≤ f x) : ∀ l : List α, l.length ≤ sumN f l
  | [] => Nat.le_refl _
  | x :: l => by
    have := sumN_len hf l
    have := hf x
    show l.length + 1 ≤ f x + sumN f l
    omega
def Par.bulk (p : Par) : Nat := 1 + p.key.size + p.val.size
def Msg.bulkN (m : Msg) : Nat := 1 + m.key.size + m.hi.size + m.val.size
def strBulk (s : ByteArray) : Nat := s.size + 1
def longInv (l : List AV) (most : Int) (rest : Nat → Nat) (r : Bool) (k : Nat) (σ : St) : Prop :=
  ∃ (j n : Nat), j ≤ l.length ∧ k = l.length - j ∧ σ.T 0 = .sl l ∧ σ.T 1 = .int .i64 most ∧ σ.T 5 = .int .i64 n ∧ σ.T 6 = .int .i64 j ∧ n ≤ 900000000000000 ∧ decide (((n + rest j : Nat) : Int) ≤ most) = r
/-! ### percolate/percolateref09.Long -/
def r_rLong9_0 : Reg := ⟨[], [⟨(.mv (.c (.bool false))), (some 4), none, [], []⟩], [], [], false⟩
def r_rLong9_1 : Reg := ⟨[], [⟨(.mv (.c (.int .i64 0))), (some 5), none, [], []⟩], [], [], false⟩
def r_rLong9_2 : Reg := ⟨[], [⟨(.mv (.c (.int .i64 0))), (some 6), none, [], []⟩], [], [], false⟩
def t_rLong9_3 : List ROp := [⟨(.mv (.t 6)), (some 7), none, [], []⟩, ⟨(.mv (.t 0)), (some 8), none, [], []⟩, ⟨(.len false (.t 8)), (some 9), none, [], []⟩, ⟨(.bin .lss (.t 7) (.t 9)), (some 10), none, [], []⟩, ⟨(.mv (.t 10)), (some 11), none, [], []⟩, ⟨(.mv (.t 5)), (some 12), (some (11, true)), [], []⟩, ⟨(.mv (.t 1)), (some 13), (some (11, true)), [], []⟩, ⟨(.bin .leq (.t 12) (.t 13)), (some 14), (some (11, true)), [], []⟩, ⟨(.pick (.t 11) (.t 14) (.c (.bool false))), (some 15), none, [], []⟩]
def r_rLong9_3 : Reg := ⟨[], t_rLong9_3, [], [], false⟩
def h_rLong9_4 : List ROp := [⟨(.mv (.t 5)), (some 18), none, [], []⟩, ⟨(.mv (.t 0)), (some 19), none, [], []⟩, ⟨(.mv (.t 6)), (some 20), none, [], []⟩, ⟨(.iaddr 2 (.t 19) (.t 20)), (some 21), none, [], []⟩, ⟨(.faddr 0 (.t 21)), (some 22), none, [], []⟩, ⟨(.load 1 false (.t 22)), (some 23), none, [], []⟩, ⟨(.len true (.t 23)), (some 24), none, [], []⟩, ⟨(.bin .add (.c (.int .i64 1)) (.t 24)), (some 25), none, [], []⟩, ⟨(.mv (.t 0)), (some 26), none, [], []⟩, ⟨(.mv (.t 6)), (some 27), none, [], []⟩, ⟨(.iaddr 2 (.t 26) (.t 27)), (some 28), none, [], []⟩, ⟨(.faddr 1 (.t 28)), (some 29), none, [], []⟩, ⟨(.load 1 false (.t 29)), (some 30), none, [], []⟩, ⟨(.len true (.t 30)), (some 31), none, [], []⟩, ⟨(.bin .add (.t 25) (.t 31)), (some 32), none, [], []⟩]
def r_rLong9_4 : Reg := ⟨h_rLong9_4, [⟨(.bin .add (.t 18) (.t 32)), (some 33), none, [], []⟩, ⟨(.mv (.t 33)), (some 5), none, [], []⟩], [], [], true⟩
def t_rLong9_5 : List ROp := [⟨(.mv (.t 6)), (some 16), none, [], []⟩, ⟨(.bin .add (.t 16) (.c (.int .i64 1))), (some 17), none, [], []⟩, ⟨(.mv (.t 17)), (some 6), none, [], []⟩]
def r_rLong9_5 : Reg := ⟨[], t_rLong9_5, [], [], false⟩
def r_rLong9_l6 : IR := (.seq (.seq (.reg r_rLong9_3)
  (.cond (.t 15) .skip
  (.exit 0)))
  (.seq (.block 1 (.reg r_rLong9_4))
  (.reg r_rLong9_5)))
def t_rLong9_7 : List ROp := [⟨(.mv (.t 5)), (some 34), none, [], []⟩, ⟨(.mv (.t 1)), (some 35), none, [], []⟩, ⟨(.bin .leq (.t 34) (.t 35)), (some 36), none, [], []⟩, ⟨(.mv (.t 36)), (some 4), none, [], []⟩]
def r_rLong9_7 : Reg := ⟨[], t_rLong9_7, [], [], false⟩
def ir_rLong9 : IR := (.seq (.reg r_rLong9_0)
  (.seq (.reg r_rLong9_1)
  (.seq (.seq (.reg r_rLong9_2)
  (.block 0 (.loop r_rLong9_l6)))
  (.seq (.reg r_rLong9_7)
  .ret))))
def res_rLong9 : List RDesc := [(.tmp 4)]
theorem e_rLong9_0 (C : FuncId → List AV → AV → Prop) (σ : St) (K : St → Prop) : runReg C r_rLong9_0 σ K = runOps C [⟨(.mv (.c (.bool false))), (some 4), none, [], []⟩] (σ.kills []) K := rfl
theorem e_rLong9_1 (C : FuncId → List AV → AV → Prop) (σ : St) (K : St → Prop) : runReg C r_rLong9_1 σ K = runOps C [⟨(.mv (.c (.int .i64 0))), (some 5), none, [], []⟩] (σ.kills []) K := rfl
theorem e_rLong9_2 (C : FuncId → List AV → AV → Prop) (σ : St) (K : St → Prop) : runReg C r_rLong9_2 σ K = runOps C [⟨(.mv (.c (.int .i64 0))), (some 6), none, [], []⟩] (σ.kills []) K := rfl
theorem e_rLong9_3 (C : FuncId → List AV → AV → Prop) (σ : St) (K : St → Prop) : runReg C r_rLong9_3 σ K = runOps C t_rLong9_3 (σ.kills []) K := rfl
theorem e_rLong9_4 (C : FuncId → List AV → AV → Prop) (σ : St) (K : St → Prop) : runReg C r_rLong9_4 σ K = runHead C [] [⟨(.bin .add (.t 18) (.t 32)), (some 33), none, [], []⟩, ⟨(.mv (.t 33)), (some 5), none, [], []⟩] h_rLong9_4 (σ.kills []) K := rfl
theorem e_rLong9_5 (C : FuncId → List AV → AV → Prop) (σ : St) (K : St → Prop) : runReg C r_rLong9_5 σ K = runOps C t_rLong9_5 (σ.kills []) K := rfl
theorem e_rLong9_7 (C : FuncId → List AV → AV → Prop) (σ : St) (K : St → Prop) : runReg C r_rLong9_7 σ K = runOps C t_rLong9_7 (σ.kills []) K := rfl
theorem fn_rLong9 {args : List AV} {r : AV} (ha : args.length.ble Tryd.f16.ntmps = true) (h : run (AFn Tryd.prog) ir_rLong9 (endQ res_rLong9 r) (initSt args)) : AFn Tryd.prog 16 args r :=
  AFn.of_code (pv := false) (hint := fun _ => []) (c := Tryd.f16.body.getD .skip) (by kernel_rfl) (by kernel_rfl) Tryd.func16 (by kernel_rfl) (by kernel_rfl) (by kernel_rfl) (of_decide_eq_true (by kernel_rfl)) (Nat.le_of_ble_eq_true ha) (Nat.le_of_ble_eq_true (by kernel_rfl)) (run_ok h)
/-! ### percolate/percolateref05.Few -/
def r_rFewN_0 : Reg := ⟨[], [⟨(.mv (.c (.bool false))), (some 4), none, [], []⟩], [], [], false⟩
def r_rFewN_1 : Reg := ⟨[], [⟨(.mv (.c (.int .i64 0))), (some 5), none, [], []⟩], [], [], false⟩
def r_rFewN_2 : Reg := ⟨[], [⟨(.mv (.c (.int .i64 0))), (some 6), none, [], []⟩], [], [], false⟩
def t_rFewN_3 : List ROp := [⟨(.mv (.t 6)), (some 7), none, [], []⟩, ⟨(.mv (.t 0)), (some 8), none, [], []⟩, ⟨(.len false (.t 8)), (some 9), none, [], []⟩, ⟨(.bin .lss (.t 7) (.t 9)), (some 10), none, [], []⟩, ⟨(.mv (.t 10)), (some 11), none, [], []⟩, ⟨(.mv (.t 5)), (some 12), (some (11, true)), [], []⟩, ⟨(.mv (.t 1)), (some 13), (some (11, true)), [], []⟩, ⟨(.bin .leq (.t 12) (.t 13)), (some 14), (some (11, true)), [], []⟩, ⟨(.pick (.t 11) (.t 14) (.c (.bool false))), (some 15), none, [], []⟩]
def r_rFewN_3 : Reg := ⟨[], t_rFewN_3, [], [], false⟩
def h_rFewN_4 : List ROp := [⟨(.mv (.t 5)), (some 18), none, [], []⟩, ⟨(.mv (.t 0)), (some 19), none, [], []⟩, ⟨(.mv (.t 6)), (some 20), none, [], []⟩, ⟨(.iaddr 6 (.t 19) (.t 20)), (some 21), none, [], []⟩, ⟨(.faddr 2 (.t 21)), (some 22), none, [], []⟩, ⟨(.load 1 false (.t 22)), (some 23), none, [], []⟩, ⟨(.len true (.t 23)), (some 24), none, [], []⟩, ⟨(.bin .add (.c (.int .i64 1)) (.t 24)), (some 25), none, [], []⟩, ⟨(.mv (.t 0)), (some 26), none, [], []⟩, ⟨(.mv (.t 6)), (some 27), none, [], []⟩, ⟨(.iaddr 6 (.t 26) (.t 27)), (some 28), none, [], []⟩, ⟨(.faddr 3 (.t 28)), (some 29), none, [], []⟩, ⟨(.load 1 false (.t 29)), (some 30), none, [], []⟩, ⟨(.len true (.t 30)), (some 31), none, [], []⟩, ⟨(.bin .add (.t 25) (.t 31)), (some 32), none, [], []⟩, ⟨(.mv (.t 0)), (some 33), none, [], []⟩, ⟨(.mv (.t 6)), (some 34), none, [], []⟩, ⟨(.iaddr 6 (.t 33) (.t 34)), (some 35), none, [], []⟩, ⟨(.faddr 5 (.t 35)), (some 36), none, [], []⟩, ⟨(.load 1 false (.t 36)), (some 37), none, [], []⟩, ⟨(.len true (.t 37)), (some 38), none, [], []⟩, ⟨(.bin .add (.t 32) (.t 38)), (some 39), none, [], []⟩]
def r_rFewN_4 : Reg := ⟨h_rFewN_4, [⟨(.bin .add (.t 18) (.t 39)), (some 40), none, [], []⟩, ⟨(.mv (.t 40)), (some 5), none, [], []⟩], [], [], true⟩
def t_rFewN_5 : List ROp := [⟨(.mv (.t 6)), (some 16), none, [], []⟩, ⟨(.bin .add (.t 16) (.c (.int .i64 1))), (some 17), none, [], []⟩, ⟨(.mv (.t 17)), (some 6), none, [], []⟩]
def r_rFewN_5 : Reg := ⟨[], t_rFewN_5, [], [], false⟩
def r_rFewN_l6 : IR := (.seq (.seq (.reg r_rFewN_3)
  (.cond (.t 15) .skip
  (.exit 0)))
  (.seq (.block 1 (.reg r_rFewN_4))
  (.reg r_rFewN_5)))
def t_rFewN_7 : List ROp := [⟨(.mv (.t 5)), (some 41), none, [], []⟩, ⟨(.mv (.t 1)), (some 42), none, [], []⟩, ⟨(.bin .leq (.t 41) (.t 42)), (some 43), none, [], []⟩, ⟨(.mv (.t 43)), (some 4), none, [], []⟩]
def r_rFewN_7 : Reg := ⟨[], t_rFewN_7, [], [], false⟩
def ir_rFewN : IR := (.seq (.reg r_rFewN_0)
  (.seq (.reg r_rFewN_1)
  (.seq (.seq (.reg r_rFewN_2)
  (.block 0 (.loop r_rFewN_l6)))
  (.seq (.reg r_rFewN_7)
  .ret))))
def res_rFewN : List RDesc := [(.tmp 4)]
theorem e_rFewN_0 (C : FuncId → List AV → AV → Prop) (σ : St) (K : St → Prop) : runReg C r_rFewN_0 σ K = runOps C [⟨(.mv (.c (.bool false))), (some 4), none, [], []⟩] (σ.kills []) K := rfl
theorem e_rFewN_1 (C : FuncId → List AV → AV → Prop) (σ : St) (K : St → Prop) : runReg C r_rFewN_1 σ K = runOps C [⟨(.mv (.c (.int .i64 0))), (some 5), none, [], []⟩] (σ.kills []) K := rfl
theorem e_rFewN_2 (C : FuncId → List AV → AV → Prop) (σ : St) (K : St → Prop) : runReg C r_rFewN_2 σ K = runOps C [⟨(.mv (.c (.int .i64 0))), (some 6), none, [], []⟩] (σ.kills []) K := rfl
theorem e_rFewN_3 (C : FuncId → List AV → AV → Prop) (σ : St) (K : St → Prop) : runReg C r_rFewN_3 σ K = runOps C t_rFewN_3 (σ.kills []) K := rfl
theorem e_rFewN_4 (C : FuncId → List AV → AV → Prop) (σ : St) (K : St → Prop) : runReg C r_rFewN_4 σ K = runHead C [] [⟨(.bin .add (.t 18) (.t 39)), (some 40), none, [], []⟩, ⟨(.mv (.t 40)), (some 5), none, [], []⟩] h_rFewN_4 (σ.kills []) K := rfl
theorem e_rFewN_5 (C : FuncId → List AV → AV → Prop) (σ : St) (K : St → Prop) : runReg C r_rFewN_5 σ K = runOps C t_rFewN_5 (σ.kills []) K := rfl
theorem e_rFewN_7 (C : FuncId → List AV → AV → Prop) (σ : St) (K : St → Prop) : runReg C r_rFewN_7 σ K = runOps C t_rFewN_7 (σ.kills []) K := rfl
theorem fn_rFewN {args : List AV} {r : AV} (ha : args.length.ble Tryd.f18.ntmps = true) (h : run (AFn Tryd.prog) ir_rFewN (endQ res_rFewN r) (initSt args)) : AFn Tryd.prog 18 args r :=
  AFn.of_code (pv := false) (hint := fun _ => []) (c := Tryd.f18.body.getD .skip) (by kernel_rfl) (by kernel_rfl) Tryd.func18 (by kernel_rfl) (by kernel_rfl) (by kernel_rfl) (of_decide_eq_true (by kernel_rfl)) (Nat.le_of_ble_eq_true ha) (Nat.le_of_ble_eq_true (by kernel_rfl)) (run_ok h)
/-! ### percolate/percolateref01.Long -/
def r_rLong1_0 : Reg := ⟨[], [⟨(.mv (.c (.int .i64 0))), (some 4), none, [], []⟩], [], [], false⟩
def r_rLong1_1 : Reg := ⟨[], [⟨(.mv (.c (.int .i64 0))), (some 5), none, [], []⟩], [], [], false⟩
def r_rLong1_2 : Reg := ⟨[], [⟨(.mv (.c (.int .i64 0))), (some 6), none, [], []⟩], [], [], false⟩
def t_rLong1_3 : List ROp := [⟨(.mv (.t 6)), (some 7), none, [], []⟩, ⟨(.mv (.t 0)), (some 8), none, [], []⟩, ⟨(.len false (.t 8)), (some 9), none, [], []⟩, ⟨(.bin .lss (.t 7) (.t 9)), (some 10), none, [], []⟩, ⟨(.mv (.t 10)), (some 11), none, [], []⟩, ⟨(.mv (.t 5)), (some 12), (some (11, true)), [], []⟩, ⟨(.mv (.t 1)), (some 13), (some (11, true)), [], []⟩, ⟨(.bin .leq (.t 12) (.t 13)), (some 14), (some (11, true)), [], []⟩, ⟨(.pick (.t 11) (.t 14) (.c (.bool false))), (some 15), none, [], []⟩]
def r_rLong1_3 : Reg := ⟨[], t_rLong1_3, [], [], false⟩
def t_rLong1_4 : List ROp := [⟨(.mv (.t 5)), (some 18), none, [], []⟩, ⟨(.mv (.t 0)), (some 19), none, [], []⟩, ⟨(.mv (.t 6)), (some 20), none, [], []⟩, ⟨(.iaddr 1 (.t 19) (.t 20)), (some 21), none, [], []⟩, ⟨(.load 1 false (.t 21)), (some 22), none, [], []⟩, ⟨(.len true (.t 22)), (some 23), none, [], []⟩, ⟨(.bin .add (.t 23) (.c (.int .i64 1))), (some 24), none, [], []⟩, ⟨(.bin .add (.t 18) (.t 24)), (some 25), none, [], []⟩, ⟨(.mv (.t 25)), (some 5), none, [], []⟩]
def r_rLong1_4 : Reg := ⟨[], t_rLong1_4, [], [], false⟩
def t_rLong1_5 : List ROp := [⟨(.mv (.t 6)), (some 16), none, [], []⟩, ⟨(.bin .add (.t 16) (.c (.int .i64 1))), (some 17), none, [], []⟩, ⟨(.mv (.t 17)), (some 6), none, [], []⟩]
def r_rLong1_5 : Reg := ⟨[], t_rLong1_5, [], [], false⟩
def r_rLong1_l6 : IR := (.seq (.seq (.reg r_rLong1_3)
  (.cond (.t 15) .skip
  (.exit 0)))
  (.seq (.block 1 (.reg r_rLong1_4))
  (.reg r_rLong1_5)))
def r_rLong1_7 : Reg := ⟨[], [⟨(.mv (.t 5)), (some 26), none, [], []⟩, ⟨(.mv (.t 26)), (some 4), none, [], []⟩], [], [], false⟩
def ir_rLong1 : IR := (.seq (.reg r_rLong1_0)
  (.seq (.reg r_rLong1_1)
  (.seq (.seq (.reg r_rLong1_2)
  (.block 0 (.loop r_rLong1_l6)))
  (.seq (.reg r_rLong1_7)
  .ret))))
def res_rLong1 : List RDesc := [(.tmp 4)]
theorem e_rLong1_0 (C : FuncId → List AV → AV → Prop) (σ : St) (K : St → Prop) : runReg C r_rLong1_0 σ K = runOps C [⟨(.mv (.c (.int .i64 0))), (some 4), none, [], []⟩] (σ.kills []) K := rfl
theorem e_rLong1_1 (C : FuncId → List AV → AV → Prop) (σ : St) (K : St → Prop) : runReg C r_rLong1_1 σ K = runOps C [⟨(.mv (.c (.int .i64 0))), (some 5), none, [], []⟩] (σ.kills []) K := rfl
theorem e_rLong1_2 (C : FuncId → List AV → AV → Prop) (σ : St) (K : St → Prop) : runReg C r_rLong1_2 σ K = runOps C [⟨(.mv (.c (.int .i64 0))), (some 6), none, [], []⟩] (σ.kills []) K := rfl
theorem e_rLong1_3 (C : FuncId → List AV → AV → Prop) (σ : St) (K : St → Prop) : runReg C r_rLong1_3 σ K = runOps C t_rLong1_3 (σ.kills []) K := rfl
theorem e_rLong1_4 (C : FuncId → List AV → AV → Prop) (σ : St) (K : St → Prop) : runReg C r_rLong1_4 σ K = runOps C t_rLong1_4 (σ.kills []) K := rfl
theorem e_rLong1_5 (C : FuncId → List AV → AV → Prop) (σ : St) (K : St → Prop) : runReg C r_rLong1_5 σ K = runOps C t_rLong1_5 (σ.kills []) K := rfl
theorem e_rLong1_7 (C : FuncId → List AV → AV → Prop) (σ : St) (K : St → Prop) : runReg C r_rLong1_7 σ K = runOps C [⟨(.mv (.t 5)), (some 26), none, [], []⟩, ⟨(.mv (.t 26)), (some 4), none, [], []⟩] (σ.kills []) K := rfl
theorem fn_rLong1 {args : List AV} {r : AV} (ha : args.length.ble Tryd.f17.ntmps = true) (h : run (AFn Tryd.prog) ir_rLong1 (endQ res_rLong1 r) (initSt args)) : AFn Tryd.prog 17 args r :=
  AFn.of_code (pv := false) (hint := fun _ => []) (c := Tryd.f17.body.getD .skip) (by kernel_rfl) (by kernel_rfl) Tryd.func17 (by kernel_rfl) (by kernel_rfl) (by kernel_rfl) (of_decide_eq_true (by kernel_rfl)) (Nat.le_of_ble_eq_true ha) (Nat.le_of_ble_eq_true (by kernel_rfl)) (run_ok h)
attribute [local go_sem ↓] ir_rLong9
attribute [local go_sem] res_rLong9 e_rLong9_0 e_rLong9_1 e_rLong9_2 e_rLong9_3 t_rLong9_3 e_rLong9_4 h_rLong9_4 e_rLong9_5 t_rLong9_5 e_rLong9_7 t_rLong9_7
attribute [local go_sem ↓] ir_rFewN
attribute [local go_sem] res_rFewN e_rFewN_0 e_rFewN_1 e_rFewN_2 e_rFewN_3 t_rFewN_3 e_rFewN_4 h_rFewN_4 e_rFewN_5 t_rFewN_5 e_rFewN_7 t_rFewN_7
attribute [local go_sem ↓] ir_rLong1
attribute [local go_sem] res_rLong1 e_rLong1_0 e_rLong1_1 e_rLong1_2 e_rLong1_3 t_rLong1_3 e_rLong1_4 t_rLong1_4 e_rLong1_5 t_rLong1_5 e_rLong1_7
theorem rLong9_ok (l : List Par) (most : Int) (h1 : 0 ≤ most) (h2 : most ≤ 1000000) (hs : ∀ m, m ∈ l → m.key.size ≤ 281474976710656 ∧ m.val.size ≤ 281474976710656) (hl : l.length ≤ 281474976710656) :
    AFn Tryd.prog 16 [.sl (l.map Par.a), .int .i64 most] (.bool (decide ((sumN Par.bulk l : Int) ≤ most))) := by
  refine fn_rLong9 rfl ?_
  simp (maxSteps := 4000000) only [go_sem, ↓reduceIte, reduceCtorEq, Nat.reduceEqDiff, Nat.reduceBEq, Nat.reduceAdd, Nat.reduceSub, Nat.reduceMul, Nat.reduceLT, Nat.reduceLeDiff, Nat.reduceBNe, Int.reduceBEq, Int.reduceBNe, Int.reduceLT, Int.reduceLE, Msg.a, Par.a, Nd.a]
  refine run_loop (longInv (l.map Par.a) most (fun j => sumN Par.bulk (l.drop j)) (decide ((sumN Par.bulk l : Int) ≤ most))) (k := (l.map Par.a).length) ⟨0, 0, by omega, rfl, rfl, rfl, rfl, rfl, by omega, ?_⟩ ?_
  · simp
  rintro k σ ⟨j, n, hj, rfl, t0, t1, t5, t6, hn2, hr⟩
  rw [List.length_map] at hj
  simp only [r_rLong9_l6]
  by_cases hlt : j < l.length
  · have hlt' : (j : Int) < (l.length : Int) := by omega
    by_cases hm : (n : Int) ≤ most
    · obtain ⟨x, hx⟩ := get_lt hlt
      have hgj := at_map (f := Par.a) hx
      simp only [Par.a] at hgj
      have hw := wrapS (j := j) (by omega)
      obtain ⟨s1, s3⟩ := hs x (List.mem_of_getElem? hx)
      have w1 : IntKind.i64.wrap (1 + (x.key.size : Int)) = 1 + (x.key.size : Int) := IntWalk.i64_in _ (by omega)
      have w3 : IntKind.i64.wrap (1 + (x.key.size : Int) + (x.val.size : Int)) = 1 + (x.key.size : Int) + (x.val.size : Int) := IntWalk.i64_in _ (by omega)
      have w4 : IntKind.i64.wrap ((n : Int) + (1 + (x.key.size : Int) + (x.val.size : Int))) = ((n + x.bulk : Nat) : Int) := by
        rw [IntWalk.i64_in _ (by omega)]; unfold Par.bulk; omega
      simp only [sumN_at hx] at hr
      simp (maxSteps := 4000000) only [go_sem, ↓reduceIte, reduceCtorEq, Nat.reduceEqDiff, Nat.reduceBEq, Nat.reduceAdd, Nat.reduceSub, Nat.reduceMul, Nat.reduceLT, Nat.reduceLeDiff, Nat.reduceBNe, Int.reduceBEq, Int.reduceBNe, Int.reduceLT, Int.reduceLE, Msg.a, Par.a, Nd.a, t0, t1, t5, t6, hlt', hm, hgj, List.length_map, Int.toNat_natCast, w1, w3, w4, hw]
      (repeat refine And.intro (by omega) ?_)
      refine ⟨l.length - (j + 1), by omega, j + 1, n + x.bulk, by rw [List.length_map]; omega, by rw [List.length_map], ?_, ?_, ?_, ?_, by unfold Par.bulk; omega, ?_⟩
      · simp (maxSteps := 4000000) only [go_sem, ↓reduceIte, reduceCtorEq, Nat.reduceEqDiff, Nat.reduceBEq, Nat.reduceAdd, Nat.reduceSub, Nat.reduceMul, Nat.reduceLT, Nat.reduceLeDiff, Nat.reduceBNe, Int.reduceBEq, Int.reduceBNe, Int.reduceLT, Int.reduceLE, Msg.a, Par.a, Nd.a, t0, t1, t5, t6]
      · simp (maxSteps := 4000000) only [go_sem, ↓reduceIte, reduceCtorEq, Nat.reduceEqDiff, Nat.reduceBEq, Nat.reduceAdd, Nat.reduceSub, Nat.reduceMul, Nat.reduceLT, Nat.reduceLeDiff, Nat.reduceBNe, Int.reduceBEq, Int.reduceBNe, Int.reduceLT, Int.reduceLE, Msg.a, Par.a, Nd.a, t0, t1, t5, t6]
      · simp (maxSteps := 4000000) only [go_sem, ↓reduceIte, reduceCtorEq, Nat.reduceEqDiff, Nat.reduceBEq, Nat.reduceAdd, Nat.reduceSub, Nat.reduceMul, Nat.reduceLT, Nat.reduceLeDiff, Nat.reduceBNe, Int.reduceBEq, Int.reduceBNe, Int.reduceLT, Int.reduceLE, Msg.a, Par.a, Nd.a, t0, t1, t5, t6]
      · simp (maxSteps := 4000000) only [go_sem, ↓reduceIte, reduceCtorEq, Nat.reduceEqDiff, Nat.reduceBEq, Nat.reduceAdd, Nat.reduceSub, Nat.reduceMul, Nat.reduceLT, Nat.reduceLeDiff, Nat.reduceBNe, Int.reduceBEq, Int.reduceBNe, Int.reduceLT, Int.reduceLE, Msg.a, Par.a, Nd.a, t0, t1, t5, t6]
      · rw [← hr, Nat.add_assoc]
    · simp (maxSteps := 4000000) only [go_sem, ↓reduceIte, reduceCtorEq, Nat.reduceEqDiff, Nat.reduceBEq, Nat.reduceAdd, Nat.reduceSub, Nat.reduceMul, Nat.reduceLT, Nat.reduceLeDiff, Nat.reduceBNe, Int.reduceBEq, Int.reduceBNe, Int.reduceLT, Int.reduceLE, Msg.a, Par.a, Nd.a, t0, t1, t5, t6, hlt', hm, List.length_map]
      have : ¬ ((n + sumN Par.bulk (l.drop j) : Nat) : Int) ≤ most := by omega
      simp only [decide_eq_false this] at hr
      exact of_decide_eq_false hr.symm
  · have hlt' : ¬ (j : Int) < (l.length : Int) := by omega
    simp (maxSteps := 4000000) only [go_sem, ↓reduceIte, reduceCtorEq, Nat.reduceEqDiff, Nat.reduceBEq, Nat.reduceAdd, Nat.reduceSub, Nat.reduceMul, Nat.reduceLT, Nat.reduceLeDiff, Nat.reduceBNe, Int.reduceBEq, Int.reduceBNe, Int.reduceLT, Int.reduceLE, Msg.a, Par.a, Nd.a, t0, t1, t5, t6, hlt', List.length_map]
    rw [← hr]
    show decide (((n + sumN Par.bulk (l.drop j) : Nat) : Int) ≤ most) = _
    rw [List.drop_eq_nil_of_le (by omega)]
    exact decide_eq_decide.2 Iff.rfl
theorem rFewN_ok (l : List Msg) (most : Int) (h1 : 0 ≤ most) (h2 : most ≤ 1000000) (hs : ∀ m, m ∈ l → m.key.size ≤ 281474976710656 ∧ m.hi.size ≤ 281474976710656 ∧ m.val.size ≤ 281474976710656) (hl : l.length ≤ 281474976710656) :
    AFn Tryd.prog 18 [.sl (l.map Msg.a), .int .i64 most] (.bool (decide ((sumN Msg.bulkN l : Int) ≤ most))) := by
  refine fn_rFewN rfl ?_
  simp (maxSteps := 4000000) only [go_sem, ↓reduceIte, reduceCtorEq, Nat.reduceEqDiff, Nat.reduceBEq, Nat.reduceAdd, Nat.reduceSub, Nat.reduceMul, Nat.reduceLT, Nat.reduceLeDiff, Nat.reduceBNe, Int.reduceBEq, Int.reduceBNe, Int.reduceLT, Int.reduceLE, Msg.a, Par.a, Nd.a]
  refine run_loop (longInv (l.map Msg.a) most (fun j => sumN Msg.bulkN (l.drop j)) (decide ((sumN Msg.bulkN l : Int) ≤ most))) (k := (l.map Msg.a).length) ⟨0, 0, by omega, rfl, rfl, rfl, rfl, rfl, by omega, ?_⟩ ?_
  · simp
  rintro k σ ⟨j, n, hj, rfl, t0, t1, t5, t6, hn2, hr⟩
  rw [List.length_map] at hj
  simp only [r_rFewN_l6]
  by_cases hlt : j < l.length
  · have hlt' : (j : Int) < (l.length : Int) := by omega
    by_cases hm : (n : Int) ≤ most
    · obtain ⟨x, hx⟩ := get_lt hlt
      have hgj := at_map (f := Msg.a) hx
      simp only [Msg.a] at hgj
      have hw := wrapS (j := j) (by omega)
      obtain ⟨s1, s2, s3⟩ := hs x (List.mem_of_getElem? hx)
      have w1 : IntKind.i64.wrap (1 + (x.key.size : Int)) = 1 + (x.key.size : Int) := IntWalk.i64_in _ (by omega)
      have w2 : IntKind.i64.wrap (1 + (x.key.size : Int) + (x.hi.size : Int)) = 1 + (x.key.size : Int) + (x.hi.size : Int) := IntWalk.i64_in _ (by omega)
      have w3 : IntKind.i64.wrap (1 + (x.key.size : Int) + (x.hi.size : Int) + (x.val.size : Int)) = 1 + (x.key.size : Int) + (x.hi.size : Int) + (x.val.size : Int) := IntWalk.i64_in _ (by omega)
      have w4 : IntKind.i64.wrap ((n : Int) + (1 + (x.key.size : Int) + (x.hi.size : Int) + (x.val.size : Int))) = ((n + x.bulkN : Nat) : Int) := by
        rw [IntWalk.i64_in _ (by omega)]; unfold Msg.bulkN; omega
      simp only [sumN_at hx] at hr
      simp (maxSteps := 4000000) only [go_sem, ↓reduceIte, reduceCtorEq, Nat.reduceEqDiff, Nat.reduceBEq, Nat.reduceAdd, Nat.reduceSub, Nat.reduceMul, Nat.reduceLT, Nat.reduceLeDiff, Nat.reduceBNe, Int.reduceBEq, Int.reduceBNe, Int.reduceLT, Int.reduceLE, Msg.a, Par.a, Nd.a, t0, t1, t5, t6, hlt', hm, hgj, List.length_map, Int.toNat_natCast, w1, w2, w3, w4, hw]
      (repeat refine And.intro (by omega) ?_)
      refine ⟨l.length - (j + 1), by omega, j + 1, n + x.bulkN, by rw [List.length_map]; omega, by rw [List.length_map], ?_, ?_, ?_, ?_, by unfold Msg.bulkN; omega, ?_⟩
      · simp (maxSteps := 4000000) only [go_sem, ↓reduceIte, reduceCtorEq, Nat.reduceEqDiff, Nat.reduceBEq, Nat.reduceAdd, Nat.reduceSub, Nat.reduceMul, Nat.reduceLT, Nat.reduceLeDiff, Nat.reduceBNe, Int.reduceBEq, Int.reduceBNe, Int.reduceLT, Int.reduceLE, Msg.a, Par.a, Nd.a, t0, t1, t5, t6]
      · simp (maxSteps := 4000000) only [go_sem, ↓reduceIte, reduceCtorEq, Nat.reduceEqDiff, Nat.reduceBEq, Nat.reduceAdd, Nat.reduceSub, Nat.reduceMul, Nat.reduceLT, Nat.reduceLeDiff, Nat.reduceBNe, Int.reduceBEq, Int.reduceBNe, Int.reduceLT, Int.reduceLE, Msg.a, Par.a, Nd.a, t0, t1, t5, t6]
      · simp (maxSteps := 4000000) only [go_sem, ↓reduceIte, reduceCtorEq, Nat.reduceEqDiff, Nat.reduceBEq, Nat.reduceAdd, Nat.reduceSub, Nat.reduceMul, Nat.reduceLT, Nat.reduceLeDiff, Nat.reduceBNe, Int.reduceBEq, Int.reduceBNe, Int.reduceLT, Int.reduceLE, Msg.a, Par.a, Nd.a, t0, t1, t5, t6]
      · simp (maxSteps := 4000000) only [go_sem, ↓reduceIte, reduceCtorEq, Nat.reduceEqDiff, Nat.reduceBEq, Nat.reduceAdd, Nat.reduceSub, Nat.reduceMul, Nat.reduceLT, Nat.reduceLeDiff, Nat.reduceBNe, Int.reduceBEq, Int.reduceBNe, Int.reduceLT, Int.reduceLE, Msg.a, Par.a, Nd.a, t0, t1, t5, t6]
      · rw [← hr, Nat.add_assoc]
    · simp (maxSteps := 4000000) only [go_sem, ↓reduceIte, reduceCtorEq, Nat.reduceEqDiff, Nat.reduceBEq, Nat.reduceAdd, Nat.reduceSub, Nat.reduceMul, Nat.reduceLT, Nat.reduceLeDiff, Nat.reduceBNe, Int.reduceBEq, Int.reduceBNe, Int.reduceLT, Int.reduceLE, Msg.a, Par.a, Nd.a, t0, t1, t5, t6, hlt', hm, List.length_map]
      have : ¬ ((n + sumN Msg.bulkN (l.drop j) : Nat) : Int) ≤ most := by omega
      simp only [decide_eq_false this] at hr
      exact of_decide_eq_false hr.symm
  · have hlt' : ¬ (j : Int) < (l.length : Int) := by omega
    simp (maxSteps := 4000000) only [go_sem, ↓reduceIte, reduceCtorEq, Nat.reduceEqDiff, Nat.reduceBEq, Nat.reduceAdd, Nat.reduceSub, Nat.reduceMul, Nat.reduceLT, Nat.reduceLeDiff, Nat.reduceBNe, Int.reduceBEq, Int.reduceBNe, Int.reduceLT, Int.reduceLE, Msg.a, Par.a, Nd.a, t0, t1, t5, t6, hlt', List.length_map]
    rw [← hr]
    show decide (((n + sumN Msg.bulkN (l.drop j) : Nat) : Int) ≤ most) = _
    rw [List.drop_eq_nil_of_le (by omega)]
    exact decide_eq_decide.2 Iff.rfl
/-- with an early end -/
def sGo (most : Int) : Nat → List ByteArray → Nat
  | n, [] => n
  | n, x :: l => if (n : Int) ≤ most then sGo most (n + strBulk x) l else n
theorem sGo_iff (most : Int) : ∀ (l : List ByteArray) (n : Nat), decide (most < (sGo most n l : Int)) = !decide (((n + sumN strBulk l : Nat) : Int) ≤ most)
  | [], n => by
    show decide (most < (n : Int)) = !decide (((n + 0 : Nat) : Int) ≤ most)
    by_cases h : (n : Int) ≤ most
    · rw [decide_eq_false (by omega), decide_eq_true (by omega)]; rfl
    · rw [decide_eq_true (by omega), decide_eq_false (by omega)]; rfl
  | x :: l, n => by
    rw [sGo]
    by_cases h : (n : Int) ≤ most
    · rw [if_pos h, sGo_iff most l (n + strBulk x), Nat.add_assoc]; rfl
    · rw [if_neg h, decide_eq_true (by omega), decide_eq_false (by omega)]; rfl
def long1Inv (l : List ByteArray) (most : Int) (r : Nat) (k : Nat) (σ : St) : Prop :=
  ∃ (j n : Nat), j ≤ l.length ∧ k = l.length - j ∧ σ.T 0 = .sl (l.map .str) ∧ σ.T 1 = .int .i64 most ∧ σ.T 5 = .int .i64 n ∧ σ.T 6 = .int .i64 j ∧ n ≤ 900000000000000 ∧ sGo most n (l.drop j) = r
theorem rLong1_ok (l : List ByteArray) (most : Int) (h1 : 0 ≤ most) (h2 : most ≤ 1000000) (hs : ∀ m, m ∈ l → m.size ≤ 281474976710656) (hl : l.length ≤ 281474976710656) :
    AFn Tryd.prog 17 [.sl (l.map .str), .int .i64 most] (.int .i64 (sGo most 0 l : Int)) := by
  refine fn_rLong1 rfl ?_
  simp (maxSteps := 4000000) only [go_sem, ↓reduceIte, reduceCtorEq, Nat.reduceEqDiff, Nat.reduceBEq, Nat.reduceAdd, Nat.reduceSub, Nat.reduceMul, Nat.reduceLT, Nat.reduceLeDiff, Nat.reduceBNe, Int.reduceBEq, Int.reduceBNe, Int.reduceLT, Int.reduceLE, Msg.a, Par.a, Nd.a]
  refine run_loop (long1Inv l most (sGo most 0 l)) (k := l.length) ⟨0, 0, by omega, rfl, rfl, rfl, rfl, rfl, by omega, ?_⟩ ?_
  · rfl
  rintro k σ ⟨j, n, hj, rfl, t0, t1, t5, t6, hn2, hr⟩
  simp only [r_rLong1_l6]
  by_cases hlt : j < l.length
  · have hlt' : (j : Int) < (l.length : Int) := by omega
    obtain ⟨x, hx⟩ := get_lt hlt
    rw [drop_at hx, sGo] at hr
    by_cases hm : (n : Int) ≤ most
    · have hgj := at_map (f := AV.str) hx
      have hw := wrapS (j := j) (by omega)
      have s1 := hs x (List.mem_of_getElem? hx)
      have w1 : IntKind.i64.wrap ((x.size : Int) + 1) = (x.size : Int) + 1 := IntWalk.i64_in _ (by omega)
      have w4 : IntKind.i64.wrap ((n : Int) + ((x.size : Int) + 1)) = ((n + strBulk x : Nat) : Int) := by
        rw [IntWalk.i64_in _ (by omega)]; unfold strBulk; omega
      rw [if_pos hm] at hr
      simp (maxSteps := 4000000) only [go_sem, ↓reduceIte, reduceCtorEq, Nat.reduceEqDiff, Nat.reduceBEq, Nat.reduceAdd, Nat.reduceSub, Nat.reduceMul, Nat.reduceLT, Nat.reduceLeDiff, Nat.reduceBNe, Int.reduceBEq, Int.reduceBNe, Int.reduceLT, Int.reduceLE, Msg.a, Par.a, Nd.a, t0, t1, t5, t6, hlt', hm, hgj, List.length_map, Int.toNat_natCast, w1, w4, hw]
      (repeat refine And.intro (by omega) ?_)
      refine ⟨l.length - (j + 1), by omega, j + 1, n + strBulk x, by omega, rfl, ?_, ?_, ?_, ?_, by unfold strBulk; omega, hr⟩ <;> (simp (maxSteps := 4000000) only [go_sem, ↓reduceIte, reduceCtorEq, Nat.reduceEqDiff, Nat.reduceBEq, Nat.reduceAdd, Nat.reduceSub, Nat.reduceMul, Nat.reduceLT, Nat.reduceLeDiff, Nat.reduceBNe, Int.reduceBEq, Int.reduceBNe, Int.reduceLT, Int.reduceLE, Msg.a, Par.a, Nd.a, t0, t1, t5, t6])
    · rw [if_neg hm] at hr
      simp (maxSteps := 4000000) only [go_sem, ↓reduceIte, reduceCtorEq, Nat.reduceEqDiff, Nat.reduceBEq, Nat.reduceAdd, Nat.reduceSub, Nat.reduceMul, Nat.reduceLT, Nat.reduceLeDiff, Nat.reduceBNe, Int.reduceBEq, Int.reduceBNe, Int.reduceLT, Int.reduceLE, Msg.a, Par.a, Nd.a, t0, t1, t5, t6, hlt', hm, List.length_map, ← hr]
  · have hlt' : ¬ (j : Int) < (l.length : Int) := by omega
    rw [List.drop_eq_nil_of_le (by omega), sGo] at hr
    simp (maxSteps := 4000000) only [go_sem, ↓reduceIte, reduceCtorEq, Nat.reduceEqDiff, Nat.reduceBEq, Nat.reduceAdd, Nat.reduceSub, Nat.reduceMul, Nat.reduceLT, Nat.reduceLeDiff, Nat.reduceBNe, Int.reduceBEq, Int.reduceBNe, Int.reduceLT, Int.reduceLE, Msg.a, Par.a, Nd.a, t0, t1, t5, t6, hlt', List.length_map, ← hr]
/-! ### Light -/
def Nd.light (most : Int) (x : Nd) : Bool := decide ((sumN Par.bulk x.rows : Int) ≤ most) && decide ((sumN strBulk x.pivots : Int) ≤ most) && decide ((x.kids.length : Int) ≤ most) && decide ((sumN Msg.bulkN x.msgs : Int) ≤ most) && decide ((x.high.size : Int) ≤ most)
def lightB (l : List Nd) (n most : Int) : Bool := decide ((l.length : Int) ≤ n) && l.all (Nd.light most)
/-! ### percolate/percolateref17.Light -/
def r_light_0 : Reg := ⟨[], [⟨(.mv (.c (.bool false))), (some 6), none, [], []⟩], [], [], false⟩
def t_light_1 : List ROp := [⟨(.mv (.t 0)), (some 8), none, [], []⟩, ⟨(.len false (.t 8)), (some 9), none, [], []⟩, ⟨(.mv (.t 1)), (some 10), none, [], []⟩, ⟨(.bin .gtr (.t 9) (.t 10)), (some 11), none, [], []⟩]
def r_light_1 : Reg := ⟨[], t_light_1, [], [], false⟩
def r_light_2 : Reg := ⟨[], [⟨(.mv (.c (.bool false))), (some 6), none, [], []⟩], [], [], false⟩
def r_light_3 : Reg := ⟨[], [⟨(.mv (.c (.int .i64 0))), (some 7), none, [], []⟩], [], [], false⟩
def t_light_4 : List ROp := [⟨(.mv (.t 7)), (some 12), none, [], []⟩, ⟨(.mv (.t 0)), (some 13), none, [], []⟩, ⟨(.len false (.t 13)), (some 14), none, [], []⟩, ⟨(.bin .lss (.t 12) (.t 14)), (some 15), none, [], []⟩]
def r_light_4 : Reg := ⟨[], t_light_4, [], [], false⟩
def t_light_5 : List ROp := [⟨(.mv (.t 0)), (some 18), none, [24, 33, 54], []⟩, ⟨(.mv (.t 7)), (some 19), none, [24, 33, 54], []⟩, ⟨(.iaddr 10 (.t 18) (.t 19)), (some 20), none, [24, 33, 54], []⟩, ⟨(.faddr 9 (.t 20)), (some 21), none, [24, 33, 54], []⟩, ⟨(.load 1 false (.t 21)), (some 22), none, [24, 33, 54], []⟩, ⟨(.mv (.t 2)), (some 23), none, [24, 33, 54], []⟩, ⟨(.callv (.c (.clo 16 [] [])) [(.t 22), (.t 23)]), (some 24), none, [33, 54], []⟩, ⟨(.un .not (.t 24)), (some 25), none, [33, 54], []⟩, ⟨(.mv (.t 25)), (some 26), none, [33, 54], []⟩, ⟨(.mv (.t 0)), (some 27), (some (26, false)), [33, 54], []⟩, ⟨(.mv (.t 7)), (some 28), (some (26, false)), [33, 54], []⟩, ⟨(.iaddr 10 (.t 27) (.t 28)), (some 29), (some (26, false)), [33, 54], []⟩, ⟨(.faddr 2 (.t 29)), (some 30), (some (26, false)), [33, 54], []⟩, ⟨(.load 1 false (.t 30)), (some 31), (some (26, false)), [33, 54], []⟩, ⟨(.mv (.t 2)), (some 32), (some (26, false)), [33, 54], []⟩, ⟨(.callv (.c (.clo 17 [] [])) [(.t 31), (.t 32)]), (some 33), (some (26, false)), [54], []⟩, ⟨(.mv (.t 2)), (some 34), (some (26, false)), [54], []⟩, ⟨(.bin .gtr (.t 33) (.t 34)), (some 35), (some (26, false)), [54], []⟩, ⟨(.pick (.t 26) (.c (.bool true)) (.t 35)), (some 36), none, [54], []⟩, ⟨(.mv (.t 36)), (some 37), none, [54], []⟩, ⟨(.mv (.t 0)), (some 38), (some (37, false)), [54], []⟩, ⟨(.mv (.t 7)), (some 39), (some (37, false)), [54], []⟩, ⟨(.iaddr 10 (.t 38) (.t 39)), (some 40), (some (37, false)), [54], []⟩, ⟨(.faddr 3 (.t 40)), (some 41), (some (37, false)), [54], []⟩, ⟨(.load 1 false (.t 41)), (some 42), (some (37, false)), [54], []⟩, ⟨(.len false (.t 42)), (some 43), (some (37, false)), [54], []⟩, ⟨(.mv (.t 2)), (some 44), (some (37, false)), [54], []⟩, ⟨(.bin .gtr (.t 43) (.t 44)), (some 45), (some (37, false)), [54], []⟩, ⟨(.pick (.t 37) (.c (.bool true)) (.t 45)), (some 46), none, [54], []⟩, ⟨(.mv (.t 46)), (some 47), none, [54], []⟩, ⟨(.mv (.t 0)), (some 48), (some (47, false)), [54], []⟩, ⟨(.mv (.t 7)), (some 49), (some (47, false)), [54], []⟩, ⟨(.iaddr 10 (.t 48) (.t 49)), (some 50), (some (47, false)), [54], []⟩, ⟨(.faddr 8 (.t 50)), (some 51), (some (47, false)), [54], []⟩, ⟨(.load 1 false (.t 51)), (some 52), (some (47, false)), [54], []⟩, ⟨(.mv (.t 2)), (some 53), (some (47, false)), [54], []⟩, ⟨(.callv (.c (.clo 18 [] [])) [(.t 52), (.t 53)]), (some 54), (some (47, false)), [], []⟩, ⟨(.un .not (.t 54)), (some 55), (some (47, false)), [], []⟩, ⟨(.pick (.t 47) (.c (.bool true)) (.t 55)), (some 56), none, [], []⟩, ⟨(.mv (.t 56)), (some 57), none, [], []⟩, ⟨(.mv (.t 0)), (some 58), (some (57, false)), [], []⟩, ⟨(.mv (.t 7)), (some 59), (some (57, false)), [], []⟩, ⟨(.iaddr 10 (.t 58) (.t 59)), (some 60), (some (57, false)), [], []⟩, ⟨(.faddr 4 (.t 60)), (some 61), (some (57, false)), [], []⟩, ⟨(.load 1 false (.t 61)), (some 62), (some (57, false)), [], []⟩, ⟨(.len true (.t 62)), (some 63), (some (57, false)), [], []⟩, ⟨(.mv (.t 2)), (some 64), (some (57, false)), [], []⟩, ⟨(.bin .gtr (.t 63) (.t 64)), (some 65), (some (57, false)), [], []⟩, ⟨(.pick (.t 57) (.c (.bool true)) (.t 65)), (some 66), none, [], []⟩]
def r_light_5 : Reg := ⟨[], t_light_5, [24, 33, 54], [], false⟩
def r_light_6 : Reg := ⟨[], [⟨(.mv (.c (.bool false))), (some 6), none, [], []⟩], [], [], false⟩
def t_light_7 : List ROp := [⟨(.mv (.t 7)), (some 16), none, [], []⟩, ⟨(.bin .add (.t 16) (.c (.int .i64 1))), (some 17), none, [], []⟩, ⟨(.mv (.t 17)), (some 7), none, [], []⟩]
def r_light_7 : Reg := ⟨[], t_light_7, [], [], false⟩
def r_light_l8 : IR := (.seq (.seq (.reg r_light_4)
  (.cond (.t 15) .skip
  (.exit 0)))
  (.seq (.block 1 (.seq (.reg r_light_5)
  (.cond (.t 66) (.seq (.reg r_light_6)
  .ret)
  .skip)))
  (.reg r_light_7)))
def r_light_9 : Reg := ⟨[], [⟨(.mv (.c (.bool true))), (some 6), none, [], []⟩], [], [], false⟩
def ir_light : IR := (.seq (.reg r_light_0)
  (.seq (.seq (.reg r_light_1)
  (.cond (.t 11) (.seq (.reg r_light_2)
  .ret)
  .skip))
  (.seq (.seq (.reg r_light_3)
  (.block 0 (.loop r_light_l8)))
  (.seq (.reg r_light_9)
  .ret))))
def res_light : List RDesc := [(.tmp 6)]
theorem e_light_0 (C : FuncId → List AV → AV → Prop) (σ : St) (K : St → Prop) : runReg C r_light_0 σ K = runOps C [⟨(.mv (.c (.bool false))), (some 6), none, [], []⟩] (σ.kills []) K := rfl
theorem e_light_1 (C : FuncId → List AV → AV → Prop) (σ : St) (K : St → Prop) : runReg C r_light_1 σ K = runOps C t_light_1 (σ.kills []) K := rfl
theorem e_light_2 (C : FuncId → List AV → AV → Prop) (σ : St) (K : St → Prop) : runReg C r_light_2 σ K = runOps C [⟨(.mv (.c (.bool false))), (some 6), none, [], []⟩] (σ.kills []) K := rfl
theorem e_light_3 (C : FuncId → List AV → AV → Prop) (σ : St) (K : St → Prop) : runReg C r_light_3 σ K = runOps C [⟨(.mv (.c (.int .i64 0))), (some 7), none, [], []⟩] (σ.kills []) K := rfl
theorem e_light_4 (C : FuncId → List AV → AV → Prop) (σ : St) (K : St → Prop) : runReg C r_light_4 σ K = runOps C t_light_4 (σ.kills []) K := rfl
theorem e_light_5 (C : FuncId → List AV → AV → Prop) (σ : St) (K : St → Prop) : runReg C r_light_5 σ K = runOps C t_light_5 (σ.kills [24, 33, 54]) K := rfl
theorem e_light_6 (C : FuncId → List AV → AV → Prop) (σ : St) (K : St → Prop) : runReg C r_light_6 σ K = runOps C [⟨(.mv (.c (.bool false))), (some 6), none, [], []⟩] (σ.kills []) K := rfl
theorem e_light_7 (C : FuncId → List AV → AV → Prop) (σ : St) (K : St → Prop) : runReg C r_light_7 σ K = runOps C t_light_7 (σ.kills []) K := rfl
theorem e_light_9 (C : FuncId → List AV → AV → Prop) (σ : St) (K : St → Prop) : runReg C r_light_9 σ K = runOps C [⟨(.mv (.c (.bool true))), (some 6), none, [], []⟩] (σ.kills []) K := rfl
theorem fn_light {args : List AV} {r : AV} (ha : args.length.ble Tryd.f6.ntmps = true) (h : run (AFn Tryd.prog) ir_light (endQ res_light r) (initSt args)) : AFn Tryd.prog 6 args r :=
  AFn.of_code (pv := false) (hint := fun _ => []) (c := Tryd.f6.body.getD .skip) (by kernel_rfl) (by kernel_rfl) Tryd.func6 (by kernel_rfl) (by kernel_rfl) (by kernel_rfl) (of_decide_eq_true (by kernel_rfl)) (Nat.le_of_ble_eq_true ha) (Nat.le_of_ble_eq_true (by kernel_rfl)) (run_ok h)
attribute [local go_sem ↓] ir_light
attribute [local go_sem] res_light e_light_0 e_light_1 t_light_1 e_light_2 e_light_3 e_light_4 t_light_4 e_light_5 t_light_5 e_light_6 e_light_7 t_light_7 e_light_9
def lightInv (l : List Nd) (n most : Int) (r : Bool) (k : Nat) (σ : St) : Prop :=
  ∃ j : Nat, j ≤ l.length ∧ k = l.length - j ∧ σ.T 0 = .sl (l.map Nd.a) ∧ σ.T 2 = .int .i64 most ∧ σ.T 7 = .int .i64 j ∧ (l.drop j).all (Nd.light most) = r
theorem light_ok (l : List Nd) (n most : Int) (h1 : 0 ≤ most) (h2 : most ≤ 1000000) (hs : ∀ x, x ∈ l → x.ok) (hl : l.length ≤ 281474976710656) :
    AFn Tryd.prog 6 [.sl (l.map Nd.a), .int .i64 n, .int .i64 most] (.bool (lightB l n most)) := by
  refine fn_light rfl ?_
  unfold lightB
  by_cases hn : (l.length : Int) ≤ n
  case neg =>
    have hn' : n < (l.length : Int) := by omega
    rw [decide_eq_false hn]
    simp (maxSteps := 4000000) only [go_sem, ↓reduceIte, reduceCtorEq, Nat.reduceEqDiff, Nat.reduceBEq, Nat.reduceAdd, Nat.reduceSub, Nat.reduceMul, Nat.reduceLT, Nat.reduceLeDiff, Nat.reduceBNe, Int.reduceBEq, Int.reduceBNe, Int.reduceLT, Int.reduceLE, Msg.a, Par.a, Nd.a, hn', List.length_map, Bool.false_and]
  have hn' : ¬ n < (l.length : Int) := by omega
  rw [decide_eq_true hn]
  obtain ⟨R, hR⟩ : ∃ R, l.all (Nd.light most) = R := ⟨_, rfl⟩
  rw [hR]
  simp (maxSteps := 4000000) only [go_sem, ↓reduceIte, reduceCtorEq, Nat.reduceEqDiff, Nat.reduceBEq, Nat.reduceAdd, Nat.reduceSub, Nat.reduceMul, Nat.reduceLT, Nat.reduceLeDiff, Nat.reduceBNe, Int.reduceBEq, Int.reduceBNe, Int.reduceLT, Int.reduceLE, Msg.a, Par.a, Nd.a, hn', List.length_map, Bool.true_and]
  refine run_loop (lightInv l n most R) (k := l.length) ⟨0, by omega, rfl, rfl, rfl, rfl, hR⟩ ?_
  clear hR
  rintro k σ ⟨j, hj, rfl, t0, t2, t7, hr⟩
  simp only [r_light_l8]
  by_cases hlt : j < l.length
  · have hlt' : (j : Int) < (l.length : Int) := by omega
    obtain ⟨x, hx⟩ := get_lt hlt
    have hgj := at_map (f := Nd.a) hx
    simp only [Nd.a] at hgj
    have hw := wrapS (j := j) (by omega)
    have ok := hs x (List.mem_of_getElem? hx)
    have c1 := rLong9_ok x.rows most h1 h2 (fun m hm => ⟨(ok.rows.2 m hm).key, (ok.rows.2 m hm).val⟩) ok.rows.1
    have c2 := rLong1_ok x.pivots most h1 h2 ok.pivots.2 ok.pivots.1
    have c3 := rFewN_ok x.msgs most h1 h2 (fun m hm => ⟨(ok.msgs.2 m hm).key, (ok.msgs.2 m hm).hi, (ok.msgs.2 m hm).val⟩) ok.msgs.1
    have e2 := sGo_iff most x.pivots 0
    rw [drop_at hx, List.all_cons] at hr
    unfold Nd.light at hr
    rw [Nat.zero_add] at e2
    have z0 : IntKind.i64.wrap (j : Int) = (j : Int) := IntWalk.i64_in _ (by omega)
    cases q1 : decide ((sumN Par.bulk x.rows : Int) ≤ most) with
    | false =>
      rw [q1] at c1 hr
      simp only [Bool.false_and] at hr
      (repeat (first | simp (maxSteps := 4000000) only [go_sem, ↓reduceIte, reduceCtorEq, Nat.reduceEqDiff, Nat.reduceBEq, Nat.reduceAdd, Nat.reduceSub, Nat.reduceMul, Nat.reduceLT, Nat.reduceLeDiff, Nat.reduceBNe, Int.reduceBEq, Int.reduceBNe, Int.reduceLT, Int.reduceLE, Msg.a, Par.a, Nd.a, t0, t2, t7, hlt', hgj, List.length_map, Int.toNat_natCast, ← hr] | refine calling (c1) ?_ | refine callingH (c1) ?_ | refine And.intro (by omega) ?_ | refine And.intro (fun d hd => by (repeat (rcases hd with rfl | hd; · exact ⟨rfl, rfl⟩)); cases hd) ?_))
    | true =>
      rw [q1] at c1 hr
      cases q2 : decide ((sumN strBulk x.pivots : Int) ≤ most) with
      | false =>
        rw [q2] at e2 hr
        have e3 := of_decide_eq_true e2
        simp only [Bool.false_and, Bool.and_false] at hr
        (repeat (first | simp (maxSteps := 4000000) only [go_sem, ↓reduceIte, reduceCtorEq, Nat.reduceEqDiff, Nat.reduceBEq, Nat.reduceAdd, Nat.reduceSub, Nat.reduceMul, Nat.reduceLT, Nat.reduceLeDiff, Nat.reduceBNe, Int.reduceBEq, Int.reduceBNe, Int.reduceLT, Int.reduceLE, Msg.a, Par.a, Nd.a, t0, t2, t7, hlt', hgj, List.length_map, Int.toNat_natCast, e3, ← hr] | refine calling (c1) ?_ | refine callingH (c1) ?_ | refine calling (c2) ?_ | refine callingH (c2) ?_ | refine And.intro (by omega) ?_ | refine And.intro (fun d hd => by (repeat (rcases hd with rfl | hd; · exact ⟨rfl, rfl⟩)); cases hd) ?_))
      | true =>
        rw [q2] at e2 hr
        have e3 := of_decide_eq_false e2
        by_cases q3 : (x.kids.length : Int) ≤ most
        case neg =>
          rw [decide_eq_false q3] at hr
          have q3' : most < (x.kids.length : Int) := by omega
          simp only [Bool.false_and, Bool.and_false] at hr
          (repeat (first | simp (maxSteps := 4000000) only [go_sem, ↓reduceIte, reduceCtorEq, Nat.reduceEqDiff, Nat.reduceBEq, Nat.reduceAdd, Nat.reduceSub, Nat.reduceMul, Nat.reduceLT, Nat.reduceLeDiff, Nat.reduceBNe, Int.reduceBEq, Int.reduceBNe, Int.reduceLT, Int.reduceLE, Msg.a, Par.a, Nd.a, t0, t2, t7, hlt', hgj, List.length_map, Int.toNat_natCast, e3, q3', ← hr] | refine calling (c1) ?_ | refine callingH (c1) ?_ | refine calling (c2) ?_ | refine callingH (c2) ?_ | refine And.intro (by omega) ?_ | refine And.intro (fun d hd => by (repeat (rcases hd with rfl | hd; · exact ⟨rfl, rfl⟩)); cases hd) ?_))
          all_goals omega
        rw [decide_eq_true q3] at hr
        have q3' : ¬ most < (x.kids.length : Int) := by omega
        cases q4 : decide ((sumN Msg.bulkN x.msgs : Int) ≤ most) with
        | false =>
          rw [q4] at c3 hr
          simp only [Bool.false_and, Bool.and_false] at hr
          (repeat (first | simp (maxSteps := 4000000) only [go_sem, ↓reduceIte, reduceCtorEq, Nat.reduceEqDiff, Nat.reduceBEq, Nat.reduceAdd, Nat.reduceSub, Nat.reduceMul, Nat.reduceLT, Nat.reduceLeDiff, Nat.reduceBNe, Int.reduceBEq, Int.reduceBNe, Int.reduceLT, Int.reduceLE, Msg.a, Par.a, Nd.a, t0, t2, t7, hlt', hgj, List.length_map, Int.toNat_natCast, e3, q3', ← hr] | refine calling (c1) ?_ | refine callingH (c1) ?_ | refine calling (c2) ?_ | refine callingH (c2) ?_ | refine calling (c3) ?_ | refine callingH (c3) ?_ | refine And.intro (by omega) ?_ | refine And.intro (fun d hd => by (repeat (rcases hd with rfl | hd; · exact ⟨rfl, rfl⟩)); cases hd) ?_))
        | true =>
          rw [q4] at c3 hr
          by_cases q5 : (x.high.size : Int) ≤ most
          case neg =>
            rw [decide_eq_false q5] at hr
            have q5' : most < (x.high.size : Int) := by omega
            simp only [Bool.false_and, Bool.and_false] at hr
            (repeat (first | simp (maxSteps := 4000000) only [go_sem, ↓reduceIte, reduceCtorEq, Nat.reduceEqDiff, Nat.reduceBEq, Nat.reduceAdd, Nat.reduceSub, Nat.reduceMul, Nat.reduceLT, Nat.reduceLeDiff, Nat.reduceBNe, Int.reduceBEq, Int.reduceBNe, Int.reduceLT, Int.reduceLE, Msg.a, Par.a, Nd.a, t0, t2, t7, hlt', hgj, List.length_map, Int.toNat_natCast, e3, q3', q5', ← hr] | refine calling (c1) ?_ | refine callingH (c1) ?_ | refine calling (c2) ?_ | refine callingH (c2) ?_ | refine calling (c3) ?_ | refine callingH (c3) ?_ | refine And.intro (by omega) ?_ | refine And.intro (fun d hd => by (repeat (rcases hd with rfl | hd; · exact ⟨rfl, rfl⟩)); cases hd) ?_))
            all_goals omega
          rw [decide_eq_true q5] at hr
          have q5' : ¬ most < (x.high.size : Int) := by omega
          simp only [Bool.true_and, Bool.and_true] at hr
          (repeat (first | simp (maxSteps := 4000000) only [go_sem, ↓reduceIte, reduceCtorEq, Nat.reduceEqDiff, Nat.reduceBEq, Nat.reduceAdd, Nat.reduceSub, Nat.reduceMul, Nat.reduceLT, Nat.reduceLeDiff, Nat.reduceBNe, Int.reduceBEq, Int.reduceBNe, Int.reduceLT, Int.reduceLE, Msg.a, Par.a, Nd.a, t0, t2, t7, hlt', hgj, List.length_map, Int.toNat_natCast, e3, q3', q5', hw] | refine calling (c1) ?_ | refine callingH (c1) ?_ | refine calling (c2) ?_ | refine callingH (c2) ?_ | refine calling (c3) ?_ | refine callingH (c3) ?_ | refine And.intro (by omega) ?_ | refine And.intro (fun d hd => by (repeat (rcases hd with rfl | hd; · exact ⟨rfl, rfl⟩)); cases hd) ?_))
          refine ⟨l.length - (j + 1), by omega, j + 1, by omega, rfl, ?_, ?_, ?_, hr⟩ <;> (simp (maxSteps := 4000000) only [go_sem, ↓reduceIte, reduceCtorEq, Nat.reduceEqDiff, Nat.reduceBEq, Nat.reduceAdd, Nat.reduceSub, Nat.reduceMul, Nat.reduceLT, Nat.reduceLeDiff, Nat.reduceBNe, Int.reduceBEq, Int.reduceBNe, Int.reduceLT, Int.reduceLE, Msg.a, Par.a, Nd.a, t0, t2, t7, hw])
  · have hlt' : ¬ (j : Int) < (l.length : Int) := by omega
    rw [List.drop_eq_nil_of_le (by omega)] at hr
    simp (maxSteps := 4000000) only [go_sem, ↓reduceIte, reduceCtorEq, Nat.reduceEqDiff, Nat.reduceBEq, Nat.reduceAdd, Nat.reduceSub, Nat.reduceMul, Nat.reduceLT, Nat.reduceLeDiff, Nat.reduceBNe, Int.reduceBEq, Int.reduceBNe, Int.reduceLT, Int.reduceLE, Msg.a, Par.a, Nd.a, t0, t2, t7, hlt', List.length_map, ← hr, List.all_nil]
end
section
/-
  The law SqueezeOnce on the plain machine.
-/
open Go.RowKit
set_option linter.unusedVariables false
set_option linter.unusedSimpArgs false
set_option maxRecDepth 100000
def onceP (l : List Msg) : Prop := ∀ (i j : Nat) (m x : Msg), i < j → l[i]? = some m → l[j]? = some x → m.kind ≠ 4 → (m.span.meet x.span).empty = true
end
section
/-
  What Squeeze leaves: of each key at most one behind the last Wipe that has it. No program.
-/
open Go.RowKit
set_option linter.unusedVariables false
set_option linter.unusedSimpArgs false
theorem maxS_comm (a b : ByteArray) : maxS a b = maxS b a := by
  unfold maxS
  cases h : lt a b <;> cases h2 : lt b a
  · have := kp.less_total _ _ h h2
    rw [ByteArray.toList_eq, ByteArray.toList_eq] at this
    simp only [Bool.false_eq_true, if_false]
    cases a; cases b; congr 1; exact Array.ext' this
  · simp
  · simp
  · rw [show lt b a = false from kp.less_asymm _ _ h] at h2; cases h2
theorem minS_comm (a b : ByteArray) : minS a b = minS b a := by
  unfold minS
  cases h : lt a b <;> cases h2 : lt b a
  · have := kp.less_total _ _ h h2
    rw [ByteArray.toList_eq, ByteArray.toList_eq] at this
    simp only [Bool.false_eq_true, if_false]
    cases a; cases b; congr 1; exact Array.ext' this
  · simp
  · simp
  · rw [show lt b a = false from kp.less_asymm _ _ h] at h2; cases h2
theorem meet_comm (a b : Spn) : a.meet b = b.meet a := by
  unfold Spn.meet Spn.cut
  rw [maxS_comm a.lo b.lo, minS_comm a.hi b.hi, Bool.and_comm a.op b.op]
  cases a.op <;> cases b.op <;> rfl
theorem no_between : ∀ a b : List UInt8, Op.bytesLess a b = true → Op.bytesLess b (a ++ [0]) = false
  | _, [], h => by rw [kp.less_nil] at h; cases h
  | [], y :: ys, _ => by
    simp only [List.nil_append, kp.less_cons, kp.less_nil, Bool.and_false, Bool.or_false, decide_eq_false_iff_not]
    simp [UInt8.lt_iff_toNat_lt]
  | x :: xs, y :: ys, h => by
    simp only [kp.less_cons, Bool.or_eq_true, decide_eq_true_eq, Bool.and_eq_true, beq_iff_eq] at h
    simp only [List.cons_append, kp.less_cons, Bool.or_eq_false_iff, decide_eq_false_iff_not, Bool.and_eq_false_iff, beq_eq_false_iff_ne]
    rcases h with h | ⟨rfl, h⟩
    · exact ⟨fun h' => kp.u8_lt_irrefl _ (kp.u8_lt_trans h h'), .inl (fun e => by subst e; exact kp.u8_lt_irrefl _ h)⟩
    · exact ⟨kp.u8_lt_irrefl _, .inr (no_between xs ys h)⟩
theorem point_next (a : ByteArray) : (a ++ (⟨#[0]⟩ : ByteArray)).toList = a.toList ++ [0] := by
  rw [ByteArray.toList_eq, ByteArray.toList_eq, ByteArray.data_append, Array.toList_append]
theorem none_empty : Spn.none.empty = true := by decide +kernel
theorem point_touch {a b : ByteArray} (h : (pointS a).touch (pointS b) = true) : a = b := by
  have key : ∀ x y : ByteArray, lt x y = true → (pointS x).meet (pointS y) = Spn.none := by
    intro x y hxy
    have h1 : lt y (x ++ ⟨#[0]⟩) = false := by
      unfold lt; rw [point_next]; exact no_between _ _ hxy
    have h2 : maxS x y = y := by unfold maxS; rw [if_pos hxy]
    unfold Spn.meet Spn.norm
    have : ((pointS x).cut (pointS y)).empty = true := by
      unfold Spn.cut Spn.empty pointS
      simp only [h2, Bool.and_false, Bool.not_false, Bool.true_and, Bool.false_eq_true, if_false, Bool.not_eq_true']
      unfold minS
      split
      · rename_i h3
        cases h4 : lt y (y ++ ⟨#[0]⟩) with
        | false => rfl
        | true =>
          have := kp.less_trans _ _ _ h4 h3
          rw [show Op.bytesLess y.toList (x ++ ⟨#[0]⟩).toList = false from h1] at this; cases this
      · exact h1
    rw [if_pos this]
  cases h1 : lt a b with
  | true => unfold Spn.touch at h; rw [key a b h1, none_empty] at h; cases h
  | false =>
    cases h2 : lt b a with
    | true => unfold Spn.touch at h; rw [meet_comm, key b a h2, none_empty] at h; cases h
    | false =>
      have := kp.less_total _ _ h1 h2
      rw [ByteArray.toList_eq, ByteArray.toList_eq] at this
      cases a; cases b; congr 1; exact Array.ext' this
theorem firstFrom_none {p : Nat → Bool} : ∀ {f j : Nat}, firstFrom p f j = none → ∀ k, j ≤ k → k < j + f → p k = false
  | 0, j, _, k, h1, h2 => by omega
  | f + 1, j, h, k, h1, h2 => by
    simp only [firstFrom] at h
    by_cases hp : p j = true
    · rw [if_pos hp] at h; cases h
    · rw [if_neg hp] at h
      by_cases e : k = j
      · subst e; simpa using hp
      · exact firstFrom_none h k (by omega) (by omega)
theorem nextOf_none {l : List Msg} {i : Nat} {m : Msg} (hm : l[i]? = some m) (h : nextOf l i = none) {k : Nat} {x : Msg} (hk : i + 1 ≤ k) (hx : l[k]? = some x) : x.span.touch m.span = false := by
  unfold nextOf at h
  rw [hm] at h
  have hl := (List.getElem?_eq_some_iff.1 hx).1
  have := firstFrom_none h k hk (by omega)
  simpa [hx] using this
theorem nextOf_touch {l : List Msg} {i j : Nat} {m x : Msg} (hm : l[i]? = some m) (h : nextOf l i = some j) (hx : l[j]? = some x) : x.span.touch m.span = true := by
  unfold nextOf at h
  rw [hm] at h
  have := (firstFrom_some h).2.2
  simpa [hx] using this
theorem on_kind (m : Msg) (k : ByteArray) : (m.on k).kind ≠ 4 := by
  unfold Msg.on Eff.none
  split
  · split
    · rename_i h; simp only; omega
    · split <;> simp
  · simp
theorem thenC_kind {a b : Eff} (ha : a.kind ≠ 4) (hb : b.kind ≠ 4) : (a.thenC b).kind ≠ 4 := by
  unfold Eff.thenC
  split
  · exact ha
  · split
    · exact hb
    · simp only; split <;> omega
/-- a message and the next one that has to do with it, which adds -/
theorem join_next {m x : Msg} (h1 : m.kind ≠ 4) (h2 : x.kind = 2) (ht : x.span.touch m.span = true) : (joinF m x).2 = true ∧ (joinF m x).1.span = x.span ∧ (joinF m x).1.kind ≠ 4 ∧ (joinF m x).1.hi = x.hi := by
  have hx : x.span = pointS x.key := by unfold Msg.span; rw [if_neg (by omega)]
  have hm : m.span = pointS m.key := by unfold Msg.span; rw [if_neg h1]
  rw [hx, hm] at ht
  have hk := point_touch ht
  have hj : joinF m x = ({ x with kind := ((m.on m.key).thenC (x.on x.key)).kind, val := ((m.on m.key).thenC (x.on x.key)).val }, true) := by
    unfold joinF
    rw [if_neg (by omega), if_neg (by intro h; rcases h with h | h | h; exact h1 h; omega; exact h hk.symm)]
  rw [hj]
  have hne := thenC_kind (on_kind m m.key) (on_kind x x.key)
  refine ⟨rfl, ?_, hne, rfl⟩
  show Msg.span _ = _
  unfold Msg.span
  simp only
  rw [if_neg hne, if_neg (by omega)]
def Bd (m : Msg) : Prop := m.key.size ≤ 281474976710656 ∧ m.hi.size ≤ 281474976710656 ∧ m.val.size ≤ 4611686018427387903
structure SQ (i : Nat) (rest out : List Msg) : Prop where
  pair : onceP out
  ahead : ∀ m, m ∈ out → m.kind ≠ 4 → ∀ k x, i ≤ k → rest[k]? = some x → x.span.touch m.span = false
  bdR : ∀ m, m ∈ rest → Bd m
  bdO : ∀ m, m ∈ out → Bd m
  len : out.length ≤ i
theorem SQ.skip {i : Nat} {rest out : List Msg} (h : SQ i rest out) : SQ (i + 1) rest out := ⟨h.pair, fun m hm h4 k x hk hx => h.ahead m hm h4 k x (by omega) hx, h.bdR, h.bdO, by have := h.len; omega⟩
theorem SQ.add {i : Nat} {rest out : List Msg} (h : SQ i rest out) {m : Msg} (hm : rest[i]? = some m) (hn : m.kind ≠ 4 → nextOf rest i = none) : SQ (i + 1) rest (out ++ [m]) := by
  refine ⟨fun p q a x hpq hp hq h4 => ?_, fun a ha h4 k x hk hx => ?_, h.bdR, fun a ha => ?_, by rw [List.length_append]; have := h.len; simp; omega⟩
  · have hql := (List.getElem?_eq_some_iff.1 hq).1
    rw [List.length_append] at hql
    simp at hql
    have hpl : p < out.length := by omega
    rw [List.getElem?_append_left hpl] at hp
    rcases Nat.lt_or_ge q out.length with h1 | h1
    · rw [List.getElem?_append_left h1] at hq
      exact h.pair p q a x hpq hp hq h4
    · rw [List.getElem?_append_right h1] at hq
      have : q = out.length := by omega
      subst this
      simp at hq
      subst hq
      have := h.ahead a (List.mem_of_getElem? hp) h4 i m (Nat.le_refl _) hm
      unfold Spn.touch at this
      rw [meet_comm] at this
      simpa using this
  · rcases List.mem_append.1 ha with ha | ha
    · exact h.ahead a ha h4 k x (by omega) hx
    · simp at ha; subst ha
      exact nextOf_none hm (hn h4) hk hx
  · rcases List.mem_append.1 ha with ha | ha
    · exact h.bdO a ha
    · simp at ha; subst ha
      exact h.bdR a (List.mem_of_getElem? hm)
end
section
/-
  What Squeeze keeps: to each text it does what it did, it takes no more, and a squeezed list stays so. No program.
-/
open Go.RowKit
set_option linter.unusedVariables false
set_option linter.unusedSimpArgs false
theorem lt_eq {a b : ByteArray} (h1 : lt a b = false) (h2 : lt b a = false) : a = b := by
  have := kp.less_total _ _ h1 h2
  rw [ByteArray.toList_eq, ByteArray.toList_eq] at this
  cases a; cases b; congr 1; exact Array.ext' this
theorem lt_tr {a b c : ByteArray} (h1 : lt a b = true) (h2 : lt b c = true) : lt a c = true := kp.less_trans _ _ _ h1 h2
theorem lt_ir (a : ByteArray) : lt a a = false := kp.less_irrefl _
/-- not behind, and not behind -/
theorem le_lt {a b c : ByteArray} (h1 : lt b a = false) (h2 : lt b c = true) : lt a c = true := by
  cases h : lt a b with
  | true => exact lt_tr h h2
  | false => rw [lt_eq h h1]; exact h2
theorem lt_le {a b c : ByteArray} (h1 : lt a b = true) (h2 : lt c b = false) : lt a c = true := by
  cases h : lt b c with
  | true => exact lt_tr h1 h
  | false => rw [lt_eq h2 h]; exact h1
theorem lt_max (x a b : ByteArray) : lt x (maxS a b) = (lt x a || lt x b) := by
  unfold maxS
  split
  · rename_i h
    cases h1 : lt x a with
    | false => simp
    | true => rw [lt_tr h1 h]; rfl
  · rename_i h
    cases h1 : lt x b with
    | false => simp
    | true => rw [lt_le h1 (by simpa using h)]; rfl
theorem lt_min (x a b : ByteArray) : lt x (minS a b) = (lt x a && lt x b) := by
  unfold minS
  split
  · rename_i h
    cases h1 : lt x b with
    | false => simp
    | true => rw [lt_tr h1 h]; rfl
  · rename_i h
    cases h1 : lt x a with
    | false => simp
    | true => rw [lt_le h1 (by simpa using h)]; rfl
theorem less_snoc : ∀ a : List UInt8, Op.bytesLess a (a ++ [0]) = true
  | [] => kp.nil_less _ _
  | x :: xs => by
    simp only [List.cons_append, kp.less_cons, less_snoc xs]
    simp
theorem lt_next (k : ByteArray) : lt k (k ++ ⟨#[0]⟩) = true := by
  unfold lt; rw [point_next]; exact less_snoc _
theorem has_point (k x : ByteArray) : (pointS k).has x = decide (x = k) := by
  unfold Spn.has pointS
  simp only [Bool.false_or]
  by_cases h : x = k
  · subst h; simp [lt_ir, lt_next]
  · rw [decide_eq_false h]
    cases h1 : lt x k with
    | true => rfl
    | false =>
      cases h2 : lt k x with
      | false => exact absurd (lt_eq h1 h2) h
      | true =>
        have : lt x (k ++ ⟨#[0]⟩) = false := by unfold lt; rw [point_next]; exact no_between _ _ h2
        simp [this]
theorem has_nonempty {s : Spn} {x : ByteArray} (h : s.has x = true) : s.empty = false := by
  unfold Spn.has at h
  unfold Spn.empty
  simp only [Bool.and_eq_true, Bool.not_eq_true', Bool.or_eq_true] at h
  rcases h with ⟨h1, h2 | h2⟩
  · rw [h2]; rfl
  · rw [le_lt h1 h2]; simp
theorem none_has (x : ByteArray) : Spn.none.has x = false := by
  cases h : Spn.none.has x with
  | false => rfl
  | true => have := has_nonempty h; rw [none_empty] at this; cases this
theorem norm_has (s : Spn) (x : ByteArray) : s.norm.has x = s.has x := by
  unfold Spn.norm
  split
  · rename_i h
    rw [none_has]
    cases h2 : s.has x with
    | false => rfl
    | true => rw [has_nonempty h2] at h; cases h
  · split
    · rename_i h h2
      simp [Spn.has, h2]
    · rfl
theorem cut_has (a b : Spn) (x : ByteArray) : (a.cut b).has x = (a.has x && b.has x) := by
  unfold Spn.has Spn.cut
  simp only [lt_max]
  cases ha : a.op <;> cases hb : b.op <;> simp [lt_min] <;> cases lt x a.lo <;> cases lt x b.lo <;> simp
theorem meet_has (a b : Spn) (x : ByteArray) : (a.meet b).has x = (a.has x && b.has x) := by
  unfold Spn.meet
  rw [norm_has, cut_has]
theorem norm_norm (s : Spn) : s.norm.norm = s.norm := by
  unfold Spn.norm
  by_cases h : s.empty = true
  · rw [if_pos h, if_pos none_empty]
  · rw [if_neg h]
    by_cases h2 : s.op = true
    · rw [if_pos h2]
      simp [Spn.empty]
    · rw [if_neg h2, if_neg h, if_neg h2]
theorem meet_norm (a b : Spn) : (a.meet b).norm = a.meet b := norm_norm _
theorem within_eq (a b : Spn) : a.within b = decide (a.meet b = a.norm) := by unfold Spn.within; rw [meet_norm]
theorem within_has {a b : Spn} {x : ByteArray} (h : a.within b = true) (hx : a.has x = true) : b.has x = true := by
  rw [within_eq, decide_eq_true_eq] at h
  have := meet_has a b x
  rw [h, norm_has, hx] at this
  simpa using this.symm
theorem touch_has {s : Spn} {k : ByteArray} : s.touch (pointS k) = s.has k := by
  unfold Spn.touch
  cases h : s.has k with
  | true =>
    have : (s.meet (pointS k)).has k = true := by rw [meet_has, h, has_point]; simp
    rw [has_nonempty this]; rfl
  | false =>
    rw [← has_lo, Bool.not_not, meet_has, has_point]
    cases h2 : s.has (s.meet (pointS k)).lo with
    | false => rfl
    | true =>
      have : (s.meet (pointS k)).lo ≠ k := fun e => by rw [e, h] at h2; cases h2
      simp [this]
/-! ### effects -/
theorem bext {a b : ByteArray} (h : a.data.toList = b.data.toList) : a = b := by
  cases a; cases b; congr 1; exact Array.ext' h
theorem tail16_list (s : ByteArray) : (tail16 s).data.toList = s.data.toList.drop (s.data.toList.length - 16) := by
  unfold tail16
  have e : s.size = s.data.toList.length := by rw [Array.length_toList]; rfl
  rw [ByteArray.data_extract, Array.toList_extract, e, List.extract_eq_take_drop, List.take_of_length_le (by rw [List.length_drop]; omega)]
theorem tail16_l (s t : ByteArray) : tail16 (tail16 s ++ t) = tail16 (s ++ t) := by
  apply bext
  rw [tail16_list, tail16_list, ByteArray.data_append, Array.toList_append, tail16_list, ByteArray.data_append, Array.toList_append]
  generalize s.data.toList = a
  generalize t.data.toList = b
  simp only [List.length_append, List.length_drop, List.drop_append, List.drop_drop]
  congr 2 <;> omega
theorem tail16_r (s t : ByteArray) : tail16 (s ++ tail16 t) = tail16 (s ++ t) := by
  apply bext
  rw [tail16_list, tail16_list, ByteArray.data_append, Array.toList_append, tail16_list, ByteArray.data_append, Array.toList_append]
  generalize s.data.toList = a
  generalize t.data.toList = b
  simp only [List.length_append, List.length_drop, List.drop_append, List.drop_drop]
  by_cases h : b.length ≤ 16
  · rw [show b.length - 16 = 0 by omega]; simp
  · rw [List.drop_eq_nil_of_le (by omega : a.length ≤ _), List.drop_eq_nil_of_le (by omega : a.length ≤ _)]
    congr 2; omega
theorem then_none (e : Eff) : e.thenR Eff.none = e := by simp [Eff.thenR, Eff.none]
theorem then_reset (e b : Eff) (h0 : b.kind ≠ 0) (h2 : b.kind ≠ 2) : e.thenR b = b := by simp [Eff.thenR, h0, h2]
theorem then_assoc (e a b : Eff) (hb : b.kind = 2) : (e.thenR a).thenR b = e.thenR (a.thenR b) := by
  by_cases ha : a.kind = 0
  · rw [show e.thenR a = e by simp [Eff.thenR, ha], show a.thenR b = b by simp [Eff.thenR, ha, hb]]
  · have h1 : a.thenR b = ⟨if a.kind = 2 then 2 else 1, tail16 (a.val ++ b.val)⟩ := by simp [Eff.thenR, ha, hb]
    by_cases ha2 : a.kind = 2
    · by_cases he : e.kind = 0
      · rw [show e.thenR a = a by simp [Eff.thenR, he, ha2], h1]
        simp [Eff.thenR, he, ha2]
      · rw [h1]
        simp only [Eff.thenR, ha2, he, hb]
        by_cases he2 : e.kind = 2 <;> simp [he2, tail16_l, tail16_r, ByteArray.append_assoc]
    · rw [show e.thenR a = a by simp [Eff.thenR, ha, ha2], h1]
      simp [Eff.thenR, ha2]
theorem on_del (m : Msg) (k : ByteArray) : (m.on k).kind = 3 → (m.on k).val = ⟨#[]⟩ := by
  unfold Msg.on Eff.none
  split
  · split
    · rename_i h; intro h3; simp only at h3; omega
    · split <;> simp
  · simp
theorem on_thenC (m : Msg) (k : ByteArray) (b : Eff) : (m.on k).thenC b = (m.on k).thenR b := then_same b (on_del m k)
theorem on_out {m : Msg} {x : ByteArray} (h : m.span.has x = false) : m.on x = Eff.none := by simp [Msg.on, h]
theorem span_point {m : Msg} (h : m.kind ≠ 4) : m.span = pointS m.key := by simp [Msg.span, h]
def foldOn (x : ByteArray) (e : Eff) (l : List Msg) : Eff := l.foldl (fun e m => e.thenR (m.on x)) e
theorem fold_cons (x : ByteArray) (e : Eff) (m : Msg) (l : List Msg) : foldOn x e (m :: l) = foldOn x (e.thenR (m.on x)) l := rfl
theorem fold_app (x : ByteArray) (e : Eff) (a b : List Msg) : foldOn x e (a ++ b) = foldOn x (foldOn x e a) b := by simp [foldOn]
theorem fold_reset {x : ByteArray} : ∀ {l : List Msg} {b : Msg}, b ∈ l → (b.on x).kind ≠ 0 → (b.on x).kind ≠ 2 → ∀ e e', foldOn x e l = foldOn x e' l
  | [], b, h, _, _, _, _ => by cases h
  | m :: l, b, h, h0, h2, e, e' => by
    rw [fold_cons, fold_cons]
    rcases List.mem_cons.1 h with rfl | h
    · rw [then_reset _ _ h0 h2, then_reset _ _ h0 h2]
    · exact fold_reset h h0 h2 _ _
theorem fold_same {x : ByteArray} {b : Msg} : ∀ {l : List Msg} {q : Nat} {a : Msg}, l[q]? = some a → b.on x = a.on x → ∀ e, foldOn x e (l.set q b) = foldOn x e l
  | [], q, a, h, _, _ => by simp at h
  | m :: l, 0, a, h, hb, e => by
    simp at h; subst h
    rw [List.set_cons_zero, fold_cons, fold_cons, hb]
  | m :: l, q + 1, a, h, hb, e => by
    rw [List.set_cons_succ, fold_cons, fold_cons]
    exact fold_same (by simpa using h) hb _
theorem fold_mid {x : ByteArray} {b : Msg} {M : Eff} : ∀ {l : List Msg} {q : Nat} {a : Msg}, l[q]? = some a → (∀ p z, p < q → l[p]? = some z → z.on x = Eff.none) → b.on x = M.thenR (a.on x) → (a.on x).kind = 2 → ∀ e, foldOn x (e.thenR M) l = foldOn x e (l.set q b)
  | [], q, a, h, _, _, _, _ => by simp at h
  | m :: l, 0, a, h, _, hb, h2, e => by
    simp at h; subst h
    rw [List.set_cons_zero, fold_cons, fold_cons, hb, then_assoc _ _ _ h2]
  | m :: l, q + 1, a, h, hp, hb, h2, e => by
    rw [List.set_cons_succ, fold_cons, fold_cons, hp 0 m (by omega) rfl, then_none, then_none]
    exact fold_mid (by simpa using h) (fun p z hpq hz => hp (p + 1) z (by omega) (by simpa using hz)) hb h2 _
def Msg.size (m : Msg) : Nat := if m.kind = 4 then 36 else 4 + m.key.size + m.val.size
def sizes (l : List Msg) : Nat := (l.map Msg.size).sum
theorem sizes_cons (m : Msg) (l : List Msg) : sizes (m :: l) = m.size + sizes l := by simp [sizes]
theorem sizes_app (a b : List Msg) : sizes (a ++ b) = sizes a + sizes b := by simp [sizes]
theorem sizes_set {b : Msg} : ∀ {l : List Msg} {q : Nat} {a : Msg}, l[q]? = some a → sizes (l.set q b) + a.size = sizes l + b.size
  | [], q, a, h => by simp at h
  | m :: l, 0, a, h => by
    simp at h; subst h
    rw [List.set_cons_zero, sizes_cons, sizes_cons]; omega
  | m :: l, q + 1, a, h => by
    rw [List.set_cons_succ, sizes_cons, sizes_cons]
    have := sizes_set (b := b) (l := l) (q := q) (a := a) (by simpa using h)
    omega
/-! ### what a step does -/
theorem firstFrom_first {p : Nat → Bool} : ∀ {f j k : Nat}, firstFrom p f j = some k → ∀ i, j ≤ i → i < k → p i = false
  | 0, j, k, h, i, _, _ => by simp [firstFrom] at h
  | f + 1, j, k, h, i, h1, h2 => by
    simp only [firstFrom] at h
    by_cases hp : p j = true
    · rw [if_pos hp] at h; cases h; omega
    · rw [if_neg hp] at h
      by_cases e : i = j
      · subst e; simpa using hp
      · exact firstFrom_first h i (by omega) h2
theorem nextOf_mid {l : List Msg} {i j : Nat} {m : Msg} (hm : l[i]? = some m) (h : nextOf l i = some j) {k : Nat} {x : Msg} (h1 : i < k) (h2 : k < j) (hx : l[k]? = some x) : x.span.touch m.span = false := by
  unfold nextOf at h
  rw [hm] at h
  have := firstFrom_first h k (by omega) h2
  simpa [hx] using this
theorem join_form {m x : Msg} (h1 : m.kind ≠ 4) (h2 : x.kind = 2) (ht : x.span.touch m.span = true) : m.key = x.key ∧ joinF m x = ({ x with kind := ((m.on m.key).thenR (x.on x.key)).kind, val := ((m.on m.key).thenR (x.on x.key)).val }, true) := by
  rw [span_point h1, span_point (by omega : x.kind ≠ 4)] at ht
  have hk := point_touch ht
  refine ⟨hk.symm, ?_⟩
  unfold joinF
  rw [if_neg (by omega), if_neg (by intro h; rcases h with h | h | h; exact h1 h; omega; exact h hk.symm), on_thenC]
theorem on_self {x : Msg} (h2 : x.kind = 2) : x.on x.key = ⟨2, x.val⟩ := by
  have : x.span.has x.key = true := by rw [span_point (by omega : x.kind ≠ 4), has_point]; simp
  simp [Msg.on, this, h2]
theorem then_add_kind (a : Eff) (v : ByteArray) : (a.thenR ⟨2, v⟩).kind = 1 ∨ (a.thenR ⟨2, v⟩).kind = 2 := by
  unfold Eff.thenR
  by_cases h : a.kind = 0
  · simp [h]
  · by_cases h2 : a.kind = 2 <;> simp [h, h2]
theorem join_on {m x : Msg} (h1 : m.kind ≠ 4) (h2 : x.kind = 2) (ht : x.span.touch m.span = true) : (joinF m x).1.on x.key = (m.on x.key).thenR (x.on x.key) ∧ ∀ y, y ≠ x.key → (joinF m x).1.on y = x.on y := by
  obtain ⟨hk, hj⟩ := join_form h1 h2 ht
  obtain ⟨_, hs, _, _⟩ := join_next h1 h2 ht
  have hxs := span_point (m := x) (by omega)
  refine ⟨?_, fun y hy => ?_⟩
  · have hh : (joinF m x).1.span.has x.key = true := by rw [hs, hxs, has_point]; simp
    unfold Msg.on
    rw [if_pos hh]
    change (if (joinF m x).1.kind = 1 ∨ (joinF m x).1.kind = 2 then (⟨(joinF m x).1.kind, (joinF m x).1.val⟩ : Eff) else _) = _
    rw [hj]
    rw [if_pos (by rw [on_self h2]; exact then_add_kind _ _), hk]
    rfl
  · have hh : x.span.has y = false := by rw [hxs, has_point]; simp [hy]
    rw [on_out hh, on_out (by rw [hs]; exact hh)]
/-- what holds while it goes -/
structure SK (f : ByteArray → Eff) (st : List Int) (n : Nat) (i : Nat) (rest out : List Msg) : Prop where
  on : ∀ y, foldOn y Eff.none (out ++ rest.drop i) = f y
  wip : ∀ a, a ∈ out → a.kind = 4 → ∀ k x, i ≤ k → rest[k]? = some x → x.kind = 4 → a.span.within x.span = false
  pair : ∀ (p q : Nat) (a x : Msg), p < q → out[p]? = some a → out[q]? = some x → a.kind = 4 → x.kind = 4 → a.span.within x.span = false
  size : sizes (out ++ rest.drop i) ≤ n
  stamps : ((out ++ rest.drop i).map Msg.stamp).Sublist st
  right : ∀ m, m ∈ out ++ rest.drop i → m.right = true
theorem right_kind {m : Msg} (h : m.right = true) : m.kind = 1 ∨ m.kind = 2 ∨ m.kind = 3 ∨ m.kind = 4 := by
  unfold Msg.right at h
  by_cases h4 : m.kind = 4
  · omega
  · rw [if_neg h4] at h
    simp only [Bool.and_eq_true, Bool.or_eq_true, beq_iff_eq] at h
    omega
theorem dead_fold {rest : List Msg} {i : Nat} {m : Msg} (hm : rest[i]? = some m) (hr : ∀ x, x ∈ rest.drop i → x.right = true) (hd : dead rest i = true) (y : ByteArray) (e : Eff) :
    foldOn y (e.thenR (m.on y)) (rest.drop (i + 1)) = foldOn y e (rest.drop (i + 1)) := by
  unfold dead at hd
  rw [hm] at hd
  simp only at hd
  by_cases h4 : m.kind = 4
  · rw [if_pos h4] at hd
    unfold cov at hd
    rw [hm] at hd
    simp only [List.any_eq_true, Bool.and_eq_true, beq_iff_eq] at hd
    obtain ⟨b, hb, hb4, hw⟩ := hd
    cases hy : m.span.has y with
    | false => rw [on_out hy, then_none]
    | true =>
      have hby := within_has hw hy
      have : b.on y = ⟨3, ⟨#[]⟩⟩ := by simp [Msg.on, hby, hb4]
      exact fold_reset hb (by rw [this]; simp) (by rw [this]; simp) _ _
  · rw [if_neg h4] at hd
    cases hn : nextOf rest i with
    | none => rw [hn] at hd; cases hd
    | some j =>
      obtain ⟨hij, x, hx⟩ := nextOf_lt hn
      rw [hn] at hd
      simp only [hx, Option.any_some, bne_iff_ne, ne_eq] at hd
      have ht := nextOf_touch hm hn hx
      rw [span_point h4, touch_has] at ht
      have hxm : x ∈ rest.drop (i + 1) := List.mem_of_getElem? (by rw [List.getElem?_drop, show i + 1 + (j - (i + 1)) = j by omega]; exact hx)
      have hxr := hr x (by rw [List.drop_eq_getElem_cons (List.getElem?_eq_some_iff.1 hm).1]; exact List.mem_cons_of_mem _ hxm)
      by_cases hy : y = m.key
      · subst hy
        have hk := right_kind hxr
        have : x.on m.key = if x.kind = 1 then ⟨1, x.val⟩ else ⟨3, ⟨#[]⟩⟩ := by
          unfold Msg.on
          rw [if_pos ht]
          rcases hk with h | h | h | h
          · simp [h]
          · exact absurd h hd
          · simp [h]
          · simp [h]
        exact fold_reset hxm (by rw [this]; split <;> simp) (by rw [this]; split <;> simp) _ _
      · rw [on_out (by rw [span_point h4, has_point]; simp [hy]), then_none]
theorem drop_cons {α : Type} {l : List α} {i : Nat} {m : α} (h : l[i]? = some m) : l.drop i = m :: l.drop (i + 1) := by
  rw [List.drop_eq_getElem_cons (List.getElem?_eq_some_iff.1 h).1]
  congr 1
  exact (List.getElem?_eq_some_iff.1 h).2
theorem SK.skip {f : ByteArray → Eff} {st : List Int} {n i : Nat} {rest out : List Msg} (h : SK f st n i rest out) {m : Msg} (hm : rest[i]? = some m) (hd : dead rest i = true) : SK f st n (i + 1) rest out := by
  have hc := drop_cons hm
  refine ⟨fun y => ?_, fun a ha h4 k x hk hx => h.wip a ha h4 k x (by omega) hx, h.pair, ?_, ?_, ?_⟩
  · rw [← h.on y, fold_app, fold_app, hc, fold_cons]
    exact (dead_fold hm (fun x hx => h.right x (List.mem_append_right _ hx)) hd y _).symm
  · refine Nat.le_trans ?_ h.size
    rw [sizes_app, sizes_app, hc, sizes_cons]; omega
  · refine List.Sublist.trans (List.Sublist.map _ ?_) h.stamps
    rw [hc]
    exact List.Sublist.append_left (List.sublist_cons_self _ _) _
  · intro x hx
    refine h.right x ?_
    rw [hc]
    rcases List.mem_append.1 hx with hx | hx
    · exact List.mem_append_left _ hx
    · exact List.mem_append_right _ (List.mem_cons_of_mem _ hx)
theorem SK.add {f : ByteArray → Eff} {st : List Int} {n i : Nat} {rest out : List Msg} (h : SK f st n i rest out) {m : Msg} (hm : rest[i]? = some m) (hd : ¬ dead rest i = true) : SK f st n (i + 1) rest (out ++ [m]) := by
  have hc := drop_cons hm
  have he : out ++ [m] ++ rest.drop (i + 1) = out ++ rest.drop i := by rw [List.append_assoc, hc]; rfl
  have hw : m.kind = 4 → ∀ k x, i + 1 ≤ k → rest[k]? = some x → x.kind = 4 → m.span.within x.span = false := by
    intro h4 k x hk hx hx4
    unfold dead cov at hd
    rw [hm] at hd
    simp only [if_pos h4, List.any_eq_true, Bool.and_eq_true, beq_iff_eq] at hd
    cases hwi : m.span.within x.span with
    | false => rfl
    | true =>
      exact absurd ⟨x, List.mem_of_getElem? (by rw [List.getElem?_drop, show i + 1 + (k - (i + 1)) = k by omega]; exact hx), hx4, hwi⟩ hd
  refine ⟨fun y => by rw [he]; exact h.on y, fun a ha h4 k x hk hx hx4 => ?_, fun p q a x hpq hp hq h4 hx4 => ?_, by rw [he]; exact h.size, by rw [he]; exact h.stamps, by rw [he]; exact h.right⟩
  · rcases List.mem_append.1 ha with ha | ha
    · exact h.wip a ha h4 k x (by omega) hx hx4
    · simp at ha; subst ha
      exact hw h4 k x hk hx hx4
  · have hql := (List.getElem?_eq_some_iff.1 hq).1
    rw [List.length_append] at hql
    simp at hql
    have hpl : p < out.length := by omega
    rw [List.getElem?_append_left hpl] at hp
    rcases Nat.lt_or_ge q out.length with h1 | h1
    · rw [List.getElem?_append_left h1] at hq
      exact h.pair p q a x hpq hp hq h4 hx4
    · rw [List.getElem?_append_right h1] at hq
      have : q = out.length := by omega
      subst this
      simp at hq
      subst hq
      exact h.wip a (List.mem_of_getElem? hp) h4 i m (Nat.le_refl _) hm hx4
theorem map_set_same {b : Msg} : ∀ {l : List Msg} {q : Nat} {a : Msg}, l[q]? = some a → b.stamp = a.stamp → (l.set q b).map Msg.stamp = l.map Msg.stamp
  | [], q, a, h, _ => by simp at h
  | m :: l, 0, a, h, hb => by simp at h; subst h; simp [hb]
  | m :: l, q + 1, a, h, hb => by
    rw [List.set_cons_succ, List.map_cons, List.map_cons, map_set_same (by simpa using h) hb]
theorem then_add_size (a : Eff) (v : ByteArray) : (a.thenR ⟨2, v⟩).val.size ≤ a.val.size + v.size := by
  unfold Eff.thenR
  by_cases h : a.kind = 0
  · simp [h]
  · simp only [h, ne_eq, not_true_eq_false, or_self, if_false, show ¬ ((2 : Int) = 0) by omega]
    have : (tail16 (a.val ++ v)).size ≤ (a.val ++ v).size := by unfold tail16; rw [ByteArray.size_extract]; omega
    rw [ByteArray.size_append] at this
    exact this
theorem then_add_size16 (a : Eff) (v : ByteArray) (hv : v.size ≤ 16) : (a.thenR ⟨2, v⟩).val.size ≤ 16 := by
  unfold Eff.thenR
  by_cases h : a.kind = 0
  · simp [h, hv]
  · simp only [h, ne_eq, not_true_eq_false, or_self, if_false, show ¬ ((2 : Int) = 0) by omega]
    exact tail16_size _
theorem join_more {m x : Msg} (h1 : m.kind ≠ 4) (h2 : x.kind = 2) (ht : x.span.touch m.span = true) : (joinF m x).1.stamp = x.stamp ∧ (joinF m x).1.size ≤ m.size + x.size ∧ (x.right = true → (joinF m x).1.right = true) := by
  obtain ⟨hk, hj⟩ := join_form h1 h2 ht
  rw [hj, hk, on_self h2]
  have e1 := then_add_kind (m.on x.key) x.val
  have e2 := then_add_size (m.on x.key) x.val
  have e3 := on_size m x.key
  refine ⟨rfl, ?_, fun hr => ?_⟩
  · unfold Msg.size
    simp only
    rw [if_neg (by omega), if_neg h1, if_neg (by omega)]
    omega
  · have e4 := then_add_size16 (m.on x.key) x.val
    unfold Msg.right at hr ⊢
    simp only at hr ⊢
    rw [if_neg (by omega)] at hr
    rw [if_neg (by omega)]
    simp only [Bool.and_eq_true, decide_eq_true_eq] at hr
    simp only [Bool.and_eq_true, decide_eq_true_eq]
    refine ⟨⟨⟨⟨hr.1.1.1.1, hr.1.1.1.2⟩, e4 hr.1.1.2⟩, hr.1.2⟩, hr.2.1, ?_⟩
    rcases e1 with e | e <;> rw [e] <;> rfl
theorem SK.join {f : ByteArray → Eff} {st : List Int} {n i : Nat} {rest out : List Msg} (h : SK f st n i rest out) {m x : Msg} {j : Nat} (hm : rest[i]? = some m) (hn : nextOf rest i = some j) (hx : rest[j]? = some x) (h4 : m.kind ≠ 4) (h2 : x.kind = 2) : SK f st n (i + 1) (rest.set j (joinF m x).1) out := by
  have hc := drop_cons hm
  have hij := (nextOf_lt hn).1
  have ht := nextOf_touch hm hn hx
  obtain ⟨j1, j2, j3, j4⟩ := join_next h4 h2 ht
  obtain ⟨k1, k2, k3⟩ := join_more h4 h2 ht
  obtain ⟨o1, o2⟩ := join_on h4 h2 ht
  obtain ⟨hk, _⟩ := join_form h4 h2 ht
  have hq : (rest.drop (i + 1))[j - (i + 1)]? = some x := by rw [List.getElem?_drop, show i + 1 + (j - (i + 1)) = j by omega]; exact hx
  have hs : (rest.set j (joinF m x).1).drop (i + 1) = (rest.drop (i + 1)).set (j - (i + 1)) (joinF m x).1 := by
    rw [List.drop_set, if_neg (by omega)]
  have hxr := h.right x (by rw [hc]; exact List.mem_append_right _ (List.mem_cons_of_mem _ (List.mem_of_getElem? hq)))
  refine ⟨fun y => ?_, fun a ha ha4 k z hk' hz hz4 => ?_, h.pair, ?_, ?_, ?_⟩
  · rw [← h.on y, fold_app, fold_app, hc, fold_cons, hs]
    by_cases hy : y = x.key
    · subst hy
      refine (fold_mid hq (fun p z hp hz => ?_) o1 (by rw [on_self h2]) _).symm
      rw [List.getElem?_drop] at hz
      have := nextOf_mid hm hn (by omega) (by omega) hz
      rw [span_point h4, hk, touch_has] at this
      exact on_out this
    · rw [on_out (m := m) (by rw [span_point h4, has_point, hk]; simp [hy]), then_none]
      exact fold_same hq (o2 y hy) _
  · rw [List.getElem?_set] at hz
    split at hz
    · split at hz
      · cases hz; exact absurd hz4 j3
      · cases hz
    · exact h.wip a ha ha4 k z (by omega) hz hz4
  · refine Nat.le_trans ?_ h.size
    rw [sizes_app, sizes_app, hc, sizes_cons, hs]
    have := sizes_set (b := (joinF m x).1) hq
    omega
  · refine List.Sublist.trans ?_ h.stamps
    rw [hs, List.map_append, List.map_append, map_set_same hq k1, hc]
    exact List.Sublist.append_left (List.Sublist.map _ (List.sublist_cons_self _ _)) _
  · intro z hz
    rw [hs] at hz
    rcases List.mem_append.1 hz with hz | hz
    · exact h.right z (List.mem_append_left _ hz)
    · rcases List.mem_or_eq_of_mem_set hz with hz | hz
      · exact h.right z (by rw [hc]; exact List.mem_append_right _ (List.mem_cons_of_mem _ hz))
      · subst hz; exact k3 hxr
theorem sqGo_keeps {f : ByteArray → Eff} {st : List Int} {n : Nat} : ∀ (g i : Nat) (rest out : List Msg), SK f st n i rest out → i + g = rest.length → ∃ rest', rest'.length = rest.length ∧ SK f st n rest.length rest' (sqGo g i rest out)
  | 0, i, rest, out, h, hf => ⟨rest, rfl, by rw [← hf]; exact h⟩
  | g + 1, i, rest, out, h, hf => by
    obtain ⟨m, hm⟩ : ∃ m, rest[i]? = some m := ⟨_, List.getElem?_eq_getElem (by omega)⟩
    simp only [sqGo, hm]
    by_cases hd : dead rest i = true
    · rw [if_pos hd]
      exact sqGo_keeps g (i + 1) rest out (h.skip hm hd) (by omega)
    · rw [if_neg hd]
      cases hx : nextOf rest i with
      | none =>
        simp only
        exact sqGo_keeps g (i + 1) rest _ (h.add hm hd) (by omega)
      | some j =>
        obtain ⟨hij, x, hxj⟩ := nextOf_lt hx
        simp only [hxj]
        by_cases h4 : m.kind = 4
        · rw [if_pos h4]
          exact sqGo_keeps g (i + 1) rest _ (h.add hm hd) (by omega)
        · rw [if_neg h4]
          have hk : x.kind = 2 := by
            unfold dead at hd
            simp only [hm, hx, hxj, if_neg h4] at hd
            simpa using hd
          rw [if_pos (join_next h4 hk (nextOf_touch hm hx hxj)).1]
          have := sqGo_keeps g (i + 1) (rest.set j (joinF m x).1) out (h.join hm hx hxj h4 hk) (by rw [List.length_set]; omega)
          rw [List.length_set] at this
          exact this
theorem allProp_iff : ∀ l : List Msg, AllProp l = true ↔ (∀ m, m ∈ l → m.right = true) ∧ (l.map Msg.stamp).Pairwise (· < ·)
  | [] => by simp [AllProp]
  | [m] => by simp [AllProp]
  | m :: x :: l => by
    have ih := allProp_iff (x :: l)
    rw [AllProp]
    simp only [Bool.and_eq_true, decide_eq_true_eq, ih, List.map_cons, List.pairwise_cons, List.mem_cons, forall_eq_or_imp]
    refine ⟨fun ⟨⟨h1, h2⟩, ⟨h3, h4⟩, h5, h6⟩ => ⟨⟨h1, h3, h4⟩, ⟨h2, fun a ha => Int.lt_trans h2 (h5 a ha)⟩, h5, h6⟩, fun ⟨⟨h1, h3, h4⟩, ⟨h2, _⟩, h5, h6⟩ => ⟨⟨h1, h2⟩, ⟨h3, h4⟩, h5, h6⟩⟩
theorem keeps (l : List Msg) (h : AllProp l = true) : (∀ y, foldOn y Eff.none (squeezeF l) = foldOn y Eff.none l) ∧ sizes (squeezeF l) ≤ sizes l ∧ AllProp (squeezeF l) = true ∧
    ∀ (p q : Nat) (a x : Msg), p < q → (squeezeF l)[p]? = some a → (squeezeF l)[q]? = some x → a.kind = 4 → x.kind = 4 → a.span.within x.span = false := by
  obtain ⟨h1, h2⟩ := (allProp_iff l).1 h
  obtain ⟨rest', hl, hk⟩ := sqGo_keeps (f := fun y => foldOn y Eff.none l) (st := l.map Msg.stamp) (n := sizes l) l.length 0 l [] ⟨fun y => rfl, (fun a ha => by cases ha), (fun p q a x _ hp => by simp at hp), Nat.le_refl _, List.Sublist.refl _, h1⟩ (by omega)
  have hd : rest'.drop l.length = [] := List.drop_eq_nil_of_le (by omega)
  obtain ⟨k1, _, k3, k4, k5, k6⟩ := hk
  rw [hd, List.append_nil] at k4 k5 k6
  refine ⟨fun y => by have := k1 y; rw [hd, List.append_nil] at this; exact this, k4, (allProp_iff _).2 ⟨k6, h2.sublist k5⟩, k3⟩
/-! ### a squeezed list stays so -/
end
section
/-
  The document's effects and messages, sizes, and lists that are one, on the plain machine.
-/
open Go.RowKit
set_option linter.unusedVariables false
set_option linter.unusedSimpArgs false
set_option maxRecDepth 100000
attribute [local go_sem ↓] runOp headOp
theorem gM {l : List Msg} {j : Nat} {x : Msg} (hx : l[j]? = some x) : (l.map Msg.a).getD j .und = .agg [.int .i64 x.stamp, .int .i64 x.kind, .str x.key, .str x.hi, .bool x.op, .str x.val] := by
  rw [List.getD_eq_getElem?_getD, List.getElem?_map, hx]; rfl
theorem wS {j : Nat} (h : j ≤ 1000000000000) : IntKind.i64.wrap ((j : Int) + 1) = ((j + 1 : Nat) : Int) := by rw [IntWalk.i64_in _ (by omega)]; rfl
theorem getM {l : List Msg} {j : Nat} (h : j < l.length) : ∃ x, l[j]? = some x := ⟨_, List.getElem?_eq_getElem h⟩
/-! ### percolate/percolateref05.Size -/
/-! ### percolate/percolateref18.Size -/
/-! ### percolate/message.Size -/
def r_mSize_0 : Reg := ⟨[], [⟨(.box 6 54 (.t 0)), (some 1), none, [], []⟩, ⟨(.mv (.c (.int .i64 0))), (some 2), none, [], []⟩], [1], [], false⟩
def t_mSize_1 : List ROp := [⟨(.faddr 1 (.t 1)), (some 3), none, [], []⟩, ⟨(.load 1 false (.t 3)), (some 4), none, [], []⟩, ⟨(.bin .eql (.t 4) (.c (.int .i64 4))), (some 5), none, [], []⟩]
def r_mSize_1 : Reg := ⟨[], t_mSize_1, [], [], false⟩
def r_mSize_2 : Reg := ⟨[], [⟨(.mv (.c (.int .i64 36))), (some 2), none, [], []⟩], [], [], false⟩
def t_mSize_3 : List ROp := [⟨(.faddr 2 (.t 1)), (some 6), none, [], []⟩, ⟨(.load 1 false (.t 6)), (some 7), none, [], []⟩, ⟨(.len true (.t 7)), (some 8), none, [], []⟩, ⟨(.bin .add (.c (.int .i64 4)) (.t 8)), (some 9), none, [], []⟩, ⟨(.faddr 5 (.t 1)), (some 10), none, [], []⟩, ⟨(.load 1 false (.t 10)), (some 11), none, [], []⟩, ⟨(.len true (.t 11)), (some 12), none, [], []⟩, ⟨(.bin .add (.t 9) (.t 12)), (some 13), none, [], []⟩, ⟨(.mv (.t 13)), (some 2), none, [], []⟩]
def r_mSize_3 : Reg := ⟨[], t_mSize_3, [], [], false⟩
def ir_mSize : IR := (.seq (.reg r_mSize_0)
  (.seq (.seq (.reg r_mSize_1)
  (.cond (.t 5) (.seq (.reg r_mSize_2)
  .ret)
  .skip))
  (.seq (.reg r_mSize_3)
  .ret)))
def res_mSize : List RDesc := [(.tmp 2)]
theorem e_mSize_0 (C : FuncId → List AV → AV → Prop) (σ : St) (K : St → Prop) : runReg C r_mSize_0 σ K = runOps C [⟨(.box 6 54 (.t 0)), (some 1), none, [], []⟩, ⟨(.mv (.c (.int .i64 0))), (some 2), none, [], []⟩] (σ.kills [1]) K := rfl
theorem e_mSize_1 (C : FuncId → List AV → AV → Prop) (σ : St) (K : St → Prop) : runReg C r_mSize_1 σ K = runOps C t_mSize_1 (σ.kills []) K := rfl
theorem e_mSize_2 (C : FuncId → List AV → AV → Prop) (σ : St) (K : St → Prop) : runReg C r_mSize_2 σ K = runOps C [⟨(.mv (.c (.int .i64 36))), (some 2), none, [], []⟩] (σ.kills []) K := rfl
theorem e_mSize_3 (C : FuncId → List AV → AV → Prop) (σ : St) (K : St → Prop) : runReg C r_mSize_3 σ K = runOps C t_mSize_3 (σ.kills []) K := rfl
theorem fn_mSize {args : List AV} {r : AV} (ha : args.length.ble Tryd.f28.ntmps = true) (h : run (AFn Tryd.prog) ir_mSize (endQ res_mSize r) (initSt args)) : AFn Tryd.prog 28 args r :=
  AFn.of_code (pv := false) (hint := fun _ => []) (c := Tryd.f28.body.getD .skip) (by kernel_rfl) (by kernel_rfl) Tryd.func28 (by kernel_rfl) (by kernel_rfl) (by kernel_rfl) (of_decide_eq_true (by kernel_rfl)) (Nat.le_of_ble_eq_true ha) (Nat.le_of_ble_eq_true (by kernel_rfl)) (run_ok h)
/-! ### percolate/buffer.Size -/
def r_bSize_0 : Reg := ⟨[], [⟨(.mv (.c (.int .i64 0))), (some 2), none, [], []⟩], [], [], false⟩
def r_bSize_1 : Reg := ⟨[], [⟨(.mv (.c (.int .i64 0))), (some 3), none, [], []⟩], [], [], false⟩
def t_bSize_2 : List ROp := [⟨(.mv (.t 0)), (some 6), none, [], []⟩, ⟨(.len false (.t 6)), (some 7), none, [], []⟩, ⟨(.mv (.c (.int .i64 0))), (some 8), none, [], []⟩]
def r_bSize_2 : Reg := ⟨[], t_bSize_2, [], [], false⟩
def r_bSize_3 : Reg := ⟨[], [⟨(.bin .lss (.t 8) (.t 7)), (some 9), none, [], []⟩], [], [], false⟩
def t_bSize_4 : List ROp := [⟨(.iaddr 6 (.t 6) (.t 8)), (some 10), none, [5], []⟩, ⟨(.load 6 true (.t 10)), (some 11), none, [5], []⟩, ⟨(.alloc 6 54 (.agg [(.int .i64 0), (.int .i64 0), (.str ⟨#[]⟩), (.str ⟨#[]⟩), (.bool false), (.str ⟨#[]⟩)])), (some 5), none, [], []⟩, ⟨(.store 6 (.t 5) (.t 11)), none, none, [], []⟩]
def r_bSize_4 : Reg := ⟨[], t_bSize_4, [5], [], false⟩
def t_bSize_5 : List ROp := [⟨(.mv (.t 3)), (some 12), none, [14], []⟩, ⟨(.load 6 true (.t 5)), (some 13), none, [14], []⟩, ⟨(.callv (.c (.clo 28 [] [])) [(.t 13)]), (some 14), none, [], []⟩, ⟨(.bin .add (.t 12) (.t 14)), (some 15), none, [], []⟩, ⟨(.mv (.t 15)), (some 3), none, [], []⟩]
def r_bSize_5 : Reg := ⟨[], t_bSize_5, [14], [], false⟩
def r_bSize_6 : Reg := ⟨[], [⟨(.bin .add (.t 8) (.c (.int .i64 1))), (some 16), none, [], []⟩, ⟨(.mv (.t 16)), (some 8), none, [], []⟩], [], [], false⟩
def r_bSize_l7 : IR := (.seq (.reg r_bSize_3)
  (.seq (.cond (.t 9) .skip
  (.exit 0))
  (.seq (.block 1 (.seq (.reg r_bSize_4)
  (.reg r_bSize_5)))
  (.reg r_bSize_6))))
def r_bSize_8 : Reg := ⟨[], [⟨(.mv (.t 3)), (some 17), none, [], []⟩, ⟨(.mv (.t 17)), (some 2), none, [], []⟩], [], [], false⟩
def ir_bSize : IR := (.seq (.reg r_bSize_0)
  (.seq (.reg r_bSize_1)
  (.seq (.seq (.reg r_bSize_2)
  (.block 0 (.loop r_bSize_l7)))
  (.seq (.reg r_bSize_8)
  .ret))))
def res_bSize : List RDesc := [(.tmp 2)]
theorem e_bSize_0 (C : FuncId → List AV → AV → Prop) (σ : St) (K : St → Prop) : runReg C r_bSize_0 σ K = runOps C [⟨(.mv (.c (.int .i64 0))), (some 2), none, [], []⟩] (σ.kills []) K := rfl
theorem e_bSize_1 (C : FuncId → List AV → AV → Prop) (σ : St) (K : St → Prop) : runReg C r_bSize_1 σ K = runOps C [⟨(.mv (.c (.int .i64 0))), (some 3), none, [], []⟩] (σ.kills []) K := rfl
theorem e_bSize_2 (C : FuncId → List AV → AV → Prop) (σ : St) (K : St → Prop) : runReg C r_bSize_2 σ K = runOps C t_bSize_2 (σ.kills []) K := rfl
theorem e_bSize_3 (C : FuncId → List AV → AV → Prop) (σ : St) (K : St → Prop) : runReg C r_bSize_3 σ K = runOps C [⟨(.bin .lss (.t 8) (.t 7)), (some 9), none, [], []⟩] (σ.kills []) K := rfl
theorem e_bSize_4 (C : FuncId → List AV → AV → Prop) (σ : St) (K : St → Prop) : runReg C r_bSize_4 σ K = runOps C t_bSize_4 (σ.kills [5]) K := rfl
theorem e_bSize_5 (C : FuncId → List AV → AV → Prop) (σ : St) (K : St → Prop) : runReg C r_bSize_5 σ K = runOps C t_bSize_5 (σ.kills [14]) K := rfl
theorem e_bSize_6 (C : FuncId → List AV → AV → Prop) (σ : St) (K : St → Prop) : runReg C r_bSize_6 σ K = runOps C [⟨(.bin .add (.t 8) (.c (.int .i64 1))), (some 16), none, [], []⟩, ⟨(.mv (.t 16)), (some 8), none, [], []⟩] (σ.kills []) K := rfl
theorem e_bSize_8 (C : FuncId → List AV → AV → Prop) (σ : St) (K : St → Prop) : runReg C r_bSize_8 σ K = runOps C [⟨(.mv (.t 3)), (some 17), none, [], []⟩, ⟨(.mv (.t 17)), (some 2), none, [], []⟩] (σ.kills []) K := rfl
theorem fn_bSize {args : List AV} {r : AV} (ha : args.length.ble Tryd.f20.ntmps = true) (h : run (AFn Tryd.prog) ir_bSize (endQ res_bSize r) (initSt args)) : AFn Tryd.prog 20 args r :=
  AFn.of_code (pv := false) (hint := fun _ => []) (c := Tryd.f20.body.getD .skip) (by kernel_rfl) (by kernel_rfl) Tryd.func20 (by kernel_rfl) (by kernel_rfl) (by kernel_rfl) (of_decide_eq_true (by kernel_rfl)) (Nat.le_of_ble_eq_true ha) (Nat.le_of_ble_eq_true (by kernel_rfl)) (run_ok h)
attribute [local go_sem ↓] ir_mSize
attribute [local go_sem] res_mSize e_mSize_0 e_mSize_1 t_mSize_1 e_mSize_2 e_mSize_3 t_mSize_3
attribute [local go_sem ↓] ir_bSize
attribute [local go_sem] res_bSize e_bSize_0 e_bSize_1 e_bSize_2 t_bSize_2 e_bSize_3 e_bSize_4 t_bSize_4 e_bSize_5 t_bSize_5 e_bSize_6 e_bSize_8
def KOk (l : List Msg) : Prop := l.length ≤ 1000000 ∧ ∀ m, m ∈ l → m.key.size ≤ 1000000 ∧ m.hi.size ≤ 1000000 ∧ m.val.size ≤ 1000000
theorem msgSize (m : Msg) (h1 : m.key.size ≤ 1000000) (h2 : m.val.size ≤ 1000000) : AFn Tryd.prog 28 [m.a] (.int .i64 (m.size : Int)) := by
  refine fn_mSize rfl ?_
  cases h : (m.kind == 4) with
  | true =>
    have h' : m.kind = 4 := by simpa using h
    simp (maxSteps := 4000000) only [go_sem, ↓reduceIte, reduceCtorEq, Nat.reduceEqDiff, Nat.reduceBEq, Nat.reduceAdd, Nat.reduceSub, Nat.reduceMul, Nat.reduceLT, Nat.reduceLeDiff, Nat.reduceBNe, Int.reduceBEq, Int.reduceBNe, Int.reduceLT, Int.reduceLE, Spn.a, Msg.a, Eff.a, h]
    simp [Msg.size, h']
  | false =>
    have h' : m.kind ≠ 4 := by simpa using h
    have w1 : IntKind.i64.wrap (4 + (m.key.size : Int)) = 4 + (m.key.size : Int) := IntWalk.i64_in _ (by omega)
    have w2 : IntKind.i64.wrap (4 + (m.key.size : Int) + (m.val.size : Int)) = 4 + (m.key.size : Int) + (m.val.size : Int) := IntWalk.i64_in _ (by omega)
    simp (maxSteps := 4000000) only [go_sem, ↓reduceIte, reduceCtorEq, Nat.reduceEqDiff, Nat.reduceBEq, Nat.reduceAdd, Nat.reduceSub, Nat.reduceMul, Nat.reduceLT, Nat.reduceLeDiff, Nat.reduceBNe, Int.reduceBEq, Int.reduceBNe, Int.reduceLT, Int.reduceLE, Spn.a, Msg.a, Eff.a, h, w1, w2]
    simp [Msg.size, h']
theorem take_one {l : List Msg} {j : Nat} {x : Msg} (hx : l[j]? = some x) : l.take (j + 1) = l.take j ++ [x] := by
  rw [List.take_add_one, hx]; rfl
theorem size_le (m : Msg) (h1 : m.key.size ≤ 1000000) (h2 : m.val.size ≤ 1000000) : m.size ≤ 2000036 := by
  unfold Msg.size; split <;> omega
theorem sizes_le : ∀ {l : List Msg}, (∀ m, m ∈ l → m.key.size ≤ 1000000 ∧ m.hi.size ≤ 1000000 ∧ m.val.size ≤ 1000000) → sizes l ≤ l.length * 2000036
  | [], _ => Nat.zero_le _
  | m :: l, h => by
    rw [sizes_cons, List.length_cons]
    have h1 := sizes_le (l := l) fun x hx => h x (List.mem_cons_of_mem _ hx)
    have h2 := size_le m (h m (List.mem_cons_self ..)).1 (h m (List.mem_cons_self ..)).2.2
    omega
theorem sizes_take {l : List Msg} (h : KOk l) (j : Nat) : sizes (l.take j) ≤ 2000036000000 := by
  have h1 := sizes_le (l := l.take j) fun x hx => h.2 x (List.mem_of_mem_take hx)
  have h2 := h.1
  have h3 : (l.take j).length ≤ l.length := by rw [List.length_take]; omega
  omega
def bszInv (l : List Msg) (k : Nat) (σ : St) : Prop :=
  ∃ j : Nat, j ≤ l.length ∧ k = l.length - j ∧ σ.T 6 = .sl (l.map Msg.a) ∧ σ.T 7 = .int .i64 l.length ∧ σ.T 3 = .int .i64 ((sizes (l.take j) : Nat) : Int) ∧ σ.T 8 = .int .i64 j
theorem bufSize (l : List Msg) (hl : KOk l) : AFn Tryd.prog 20 [.sl (l.map Msg.a)] (.int .i64 (sizes l : Int)) := by
  refine fn_bSize rfl ?_
  simp (maxSteps := 4000000) only [go_sem, ↓reduceIte, reduceCtorEq, Nat.reduceEqDiff, Nat.reduceBEq, Nat.reduceAdd, Nat.reduceSub, Nat.reduceMul, Nat.reduceLT, Nat.reduceLeDiff, Nat.reduceBNe, Int.reduceBEq, Int.reduceBNe, Int.reduceLT, Int.reduceLE, Spn.a, Msg.a, Eff.a]
  refine run_loop (bszInv l) (k := l.length) ⟨0, by omega, rfl, ?_, ?_, ?_, ?_⟩ ?_
  · simp (maxSteps := 4000000) only [go_sem, ↓reduceIte, reduceCtorEq, Nat.reduceEqDiff, Nat.reduceBEq, Nat.reduceAdd, Nat.reduceSub, Nat.reduceMul, Nat.reduceLT, Nat.reduceLeDiff, Nat.reduceBNe, Int.reduceBEq, Int.reduceBNe, Int.reduceLT, Int.reduceLE, Spn.a, Msg.a, Eff.a]
  · simp (maxSteps := 4000000) only [go_sem, ↓reduceIte, reduceCtorEq, Nat.reduceEqDiff, Nat.reduceBEq, Nat.reduceAdd, Nat.reduceSub, Nat.reduceMul, Nat.reduceLT, Nat.reduceLeDiff, Nat.reduceBNe, Int.reduceBEq, Int.reduceBNe, Int.reduceLT, Int.reduceLE, Spn.a, Msg.a, Eff.a, List.length_map]
  · simp (maxSteps := 4000000) only [go_sem, ↓reduceIte, reduceCtorEq, Nat.reduceEqDiff, Nat.reduceBEq, Nat.reduceAdd, Nat.reduceSub, Nat.reduceMul, Nat.reduceLT, Nat.reduceLeDiff, Nat.reduceBNe, Int.reduceBEq, Int.reduceBNe, Int.reduceLT, Int.reduceLE, Spn.a, Msg.a, Eff.a]
    rfl
  · simp (maxSteps := 4000000) only [go_sem, ↓reduceIte, reduceCtorEq, Nat.reduceEqDiff, Nat.reduceBEq, Nat.reduceAdd, Nat.reduceSub, Nat.reduceMul, Nat.reduceLT, Nat.reduceLeDiff, Nat.reduceBNe, Int.reduceBEq, Int.reduceBNe, Int.reduceLT, Int.reduceLE, Spn.a, Msg.a, Eff.a]
    rfl
  rintro k σ ⟨j, hj, rfl, t6, t7, t3, t8⟩
  simp only [r_bSize_l7]
  by_cases hlt : j < l.length
  · have hlt' : (j : Int) < (l.length : Int) := by omega
    obtain ⟨x, hx⟩ := getM hlt
    have hm := hl.2 x (List.mem_of_getElem? hx)
    have hw := wS (j := j) (by have := hl.1; omega)
    have hw2 : IntKind.i64.wrap (((sizes (l.take j) : Nat) : Int) + (x.size : Int)) = ((sizes (l.take (j + 1)) : Nat) : Int) := by
      rw [IntWalk.i64_in _ (by have := sizes_take hl j; have := size_le x hm.1 hm.2.2; omega), take_one hx, sizes_app, sizes_cons]; simp [sizes]
    simp (maxSteps := 4000000) only [go_sem, ↓reduceIte, reduceCtorEq, Nat.reduceEqDiff, Nat.reduceBEq, Nat.reduceAdd, Nat.reduceSub, Nat.reduceMul, Nat.reduceLT, Nat.reduceLeDiff, Nat.reduceBNe, Int.reduceBEq, Int.reduceBNe, Int.reduceLT, Int.reduceLE, Spn.a, Msg.a, Eff.a, t6, t7, t3, t8, hlt', gM hx, List.length_map, Int.toNat_natCast]
    refine ⟨by omega, ?_⟩
    (first | refine calling (msgSize x hm.1 hm.2.2) ?_ | refine callingH (msgSize x hm.1 hm.2.2) ?_)
    simp (maxSteps := 4000000) only [go_sem, ↓reduceIte, reduceCtorEq, Nat.reduceEqDiff, Nat.reduceBEq, Nat.reduceAdd, Nat.reduceSub, Nat.reduceMul, Nat.reduceLT, Nat.reduceLeDiff, Nat.reduceBNe, Int.reduceBEq, Int.reduceBNe, Int.reduceLT, Int.reduceLE, Spn.a, Msg.a, Eff.a, t6, t7, t3, t8, hw, hw2]
    refine ⟨l.length - (j + 1), by omega, j + 1, by omega, rfl, ?_, ?_, ?_, ?_⟩ <;>
      (simp (maxSteps := 4000000) only [go_sem, ↓reduceIte, reduceCtorEq, Nat.reduceEqDiff, Nat.reduceBEq, Nat.reduceAdd, Nat.reduceSub, Nat.reduceMul, Nat.reduceLT, Nat.reduceLeDiff, Nat.reduceBNe, Int.reduceBEq, Int.reduceBNe, Int.reduceLT, Int.reduceLE, Spn.a, Msg.a, Eff.a, t6, t7, t3, t8, hw, hw2])
  · have hlt' : ¬ (j : Int) < (l.length : Int) := by omega
    simp (maxSteps := 4000000) only [go_sem, ↓reduceIte, reduceCtorEq, Nat.reduceEqDiff, Nat.reduceBEq, Nat.reduceAdd, Nat.reduceSub, Nat.reduceMul, Nat.reduceLT, Nat.reduceLeDiff, Nat.reduceBNe, Int.reduceBEq, Int.reduceBNe, Int.reduceLT, Int.reduceLE, Spn.a, Msg.a, Eff.a, t6, t7, t3, t8, hlt', List.length_map]
    rw [List.take_of_length_le (by omega)]
end
end Go.Proofs.YtelmejaiapdgnaaDoor
