/-
  Part 13 of a proof: TeD, TeE.
-/
import Derived.Test.YthfdbjocpicbmaaLO12
namespace Go.Proofs.Ythfdbjocpicbmaa
attribute [local go_sem] ev0 ev1 ev2 ev3 ev4 evA stHOk.eq_1 stHOk.eq_2 stHSt.eq_1 stHSt.eq_2 okV valV fzV okF valF okBld valBld mxOk.eq_1 mxOk.eq_2 mxVal.eq_1 mxVal.eq_2 cellFit.eq_1 cellFit.eq_2 cellFit.eq_3 cellEq.eq_1 cellEq.eq_2 cellEq.eq_3 upd_at AV.flatB AV.flatBs binIok binIV binSok binSV cellsOk.eq_1 cellsOk.eq_2 cellsVal.eq_1 cellsVal.eq_2 objCells.eq_1 objCells.eq_2 objZ.eq_1 objZ.eq_2 objProt.eq_1 objProt.eq_2 oneObj ptrOk.eq_1 ptrOk.eq_2 ptrOk.eq_3 ptrCells.eq_1 ptrCells.eq_2 ptrCells.eq_3 lenOk.eq_1 lenOk.eq_2 lenOk.eq_3 lenOk.eq_4 lenVal.eq_1 lenVal.eq_2 lenVal.eq_3 lenVal.eq_4 faOk.eq_1 faOk.eq_2 faOk.eq_3 faVal.eq_1 faVal.eq_2 faVal.eq_3 iaOk.eq_1 iaOk.eq_2 iaOk.eq_3 iaVal.eq_1 iaVal.eq_2 iaVal.eq_3 slcLen.eq_1 slcLen.eq_2 slcLen.eq_3 slcLen.eq_4 bdOk.eq_1 bdOk.eq_2 bdVal.eq_1 bdVal.eq_2 slcOk.eq_1 slcOk.eq_2 slcOk.eq_3 slcOk.eq_4 slcVal.eq_1 slcVal.eq_2 slcVal.eq_3 slcVal.eq_4 slcFz.eq_1 slcFz.eq_2 loK.eq_1 loK.eq_2 loK.eq_3 rsVal.eq_1 rsVal.eq_2 rsVal.eq_3 byOk.eq_1 byOk.eq_2 byOk.eq_3 byOk.eq_4 byOk.eq_5 byOk.eq_6 byOk.eq_7 byOk.eq_8 byVal.eq_1 byVal.eq_2 byVal.eq_3 byFz.eq_1 byFz.eq_2 byFz.eq_3 byOks byVals byFzs allOne resSt.eq_1 resSt.eq_2 resName.eq_1 resName.eq_2 stOk.eq_1 stOk.eq_2 stArr.eq_1 stArr.eq_2 stSt.eq_1 stSt.eq_2 AV.patch nameOk_none gB.eq_1 gB.eq_2 gB.eq_3 gIs.eq_1 gIs.eq_2 gIs.eq_3 retV resV resVs evalV cellsV St.byval List.getD_cons_zero List.getD_cons_succ List.getD_nil List.map_cons List.map_nil List.length_cons List.length_nil List.take_succ_cons List.take_zero List.drop_succ_cons List.drop_zero List.headD_cons List.set_cons_zero List.append_nil List.nil_append List.cons_append List.contains_cons List.contains_nil List.elem_cons List.elem_nil List.all_cons List.all_nil List.getElem?_cons_zero List.getElem?_cons_succ List.filterMap_cons List.filterMap_nil Option.isSome_some Option.isSome_none Option.map_some Option.map_none Option.some.injEq AV.int.injEq AV.bool.injEq AV.str.injEq AV.tup.injEq AV.agg.injEq AV.sl.injEq List.cons.injEq Bool.false_eq_true Bool.true_eq_false Bool.not_true Bool.not_false Bool.and_true Bool.true_and Bool.or_false Bool.or_true Bool.false_or Bool.true_or Bool.or_self Bool.and_self Bool.not_eq_true' Bool.not_eq_false' Bool.not_not beq_self_eq_true true_and and_true false_and and_false and_self not_true_eq_false not_false_eq_true forall_const true_implies false_implies implies_true imp_self Nat.lt_add_one Nat.le_refl Nat.zero_le Nat.add_zero Nat.zero_add decide_true decide_false decide_eq_true_eq decide_eq_false_iff_not exists_eq_left exists_eq_left' ge_iff_le gt_iff_lt ite_branch ite_branch' nilOk.eq_1 nilOk.eq_2 nilMay.eq_1 nilMay.eq_2 AV.isSl.eq_1 objTy'.eq_1 objTy'.eq_2 apSt.eq_1 apArr.eq_1 apArr.eq_2 apTwo.eq_1 apTwo.eq_2 apSt2.eq_1 apArr2.eq_1 apArr2.eq_2 slOf.eq_1 fitsV List.mem_cons List.not_mem_nil Bool.false_and Bool.and_false primOk.eq_1 primOk.eq_2 primOk.eq_3 primOk.eq_4 primOk.eq_5 primVal.eq_1 primVal.eq_2 primVal.eq_3 primVal.eq_4 primVal.eq_5 mOk.eq_1 mOk.eq_2 mVal.eq_1 mVal.eq_2 mFz.eq_1 mFz.eq_2 mOks mVals mFzs mCalOk.eq_1 mCalOk.eq_2 mFn.eq_1 mFn.eq_2 mArgs.eq_1 mArgs.eq_2 ckOk.eq_1 ckOk.eq_2 cloOk.eq_1 ptrAt.eq_1 sh.eq_1 sh.eq_2 sh.eq_3 sh.eq_4 sh.eq_5 sh.eq_6 retM shH_small evM entOk.eq_1 entOk.eq_2 ents.eq_1 ents.eq_2 kI.eq_1 mpOk.eq_1 mpR.eq_1 lkV.eq_1 lkV.eq_2 remp.eq_2 evP pvOk.eq_1 pvOk.eq_2 pvVal.eq_1 pvVal.eq_2 plOk.eq_1 plOk.eq_2 plOk.eq_3 plV.eq_1 plV.eq_2 plF.eq_1 plF.eq_2 plVal.eq_1 plVal.eq_2 plFz.eq_1 plFz.eq_2 lpOk.eq_1 lpOk.eq_2 lpVal.eq_1 lpVal.eq_2 lpFz.eq_1 lpFz.eq_2 stpOk.eq_1 stpOk.eq_2 stpSt.eq_1 stpSt.eq_2 stpArr.eq_1 keepS.eq_1 keepS.eq_2
section
/-
  Trees of the document: each met once; linked; leaves: walked.
-/
open Go.RowKit
set_option linter.unusedVariables false
set_option linter.unusedSimpArgs false
set_option maxRecDepth 100000
attribute [local go_sem ↓] runOp headOp
def slotN (seats : List Seat) (s : Int) : Nat := seats.countP fun x => x.n.slot == s
def onceB (l : List Nd) (seats : List Seat) : Bool := decide (l.length = seats.length) && l.all fun n => slotN seats n.slot == 1
/-- each leads to the next one of its level -/
def wantR : List Seat → Int
  | x :: y :: _ => if y.n.level = x.n.level then y.n.slot else -1
  | _ => -1
def linkedB : List Seat → Bool
  | [] => true
  | x :: l => decide (x.n.right = wantR (x :: l)) && linkedB l
/-! ### percolate/percolateref28.Once -/
def r_onceR_0 : Reg := ⟨[], [⟨(.mv (.c (.bool false))), (some 4), none, [], []⟩], [], [], false⟩
def t_onceR_1 : List ROp := [⟨(.mv (.t 0)), (some 8), none, [], []⟩, ⟨(.len false (.t 8)), (some 9), none, [], []⟩, ⟨(.mv (.t 1)), (some 10), none, [], []⟩, ⟨(.len false (.t 10)), (some 11), none, [], []⟩, ⟨(.bin .neq (.t 9) (.t 11)), (some 12), none, [], []⟩]
def r_onceR_1 : Reg := ⟨[], t_onceR_1, [], [], false⟩
def r_onceR_2 : Reg := ⟨[], [⟨(.mv (.c (.bool false))), (some 4), none, [], []⟩], [], [], false⟩
def r_onceR_3 : Reg := ⟨[], [⟨(.mv (.c (.int .i64 0))), (some 5), none, [], []⟩], [], [], false⟩
def t_onceR_4 : List ROp := [⟨(.mv (.t 5)), (some 13), none, [], []⟩, ⟨(.mv (.t 0)), (some 14), none, [], []⟩, ⟨(.len false (.t 14)), (some 15), none, [], []⟩, ⟨(.bin .lss (.t 13) (.t 15)), (some 16), none, [], []⟩]
def r_onceR_4 : Reg := ⟨[], t_onceR_4, [], [], false⟩
def r_onceR_5 : Reg := ⟨[], [⟨(.mv (.c (.int .i64 0))), (some 6), none, [], []⟩], [], [], false⟩
def r_onceR_6 : Reg := ⟨[], [⟨(.mv (.c (.int .i64 0))), (some 7), none, [], []⟩], [], [], false⟩
def t_onceR_7 : List ROp := [⟨(.mv (.t 7)), (some 19), none, [], []⟩, ⟨(.mv (.t 1)), (some 20), none, [], []⟩, ⟨(.len false (.t 20)), (some 21), none, [], []⟩, ⟨(.bin .lss (.t 19) (.t 21)), (some 22), none, [], []⟩]
def r_onceR_7 : Reg := ⟨[], t_onceR_7, [], [], false⟩
def h_onceR_8 : List ROp := [⟨(.mv (.t 1)), (some 25), none, [], []⟩, ⟨(.mv (.t 7)), (some 26), none, [], []⟩, ⟨(.iaddr 14 (.t 25) (.t 26)), (some 27), none, [], []⟩, ⟨(.faddr 0 (.t 27)), (some 28), none, [], []⟩, ⟨(.faddr 0 (.t 28)), (some 29), none, [], []⟩, ⟨(.load 1 false (.t 29)), (some 30), none, [], []⟩, ⟨(.mv (.t 0)), (some 31), none, [], []⟩, ⟨(.mv (.t 5)), (some 32), none, [], []⟩, ⟨(.iaddr 10 (.t 31) (.t 32)), (some 33), none, [], []⟩, ⟨(.faddr 0 (.t 33)), (some 34), none, [], []⟩, ⟨(.load 1 false (.t 34)), (some 35), none, [], []⟩]
def r_onceR_8 : Reg := ⟨h_onceR_8, [⟨(.bin .eql (.t 30) (.t 35)), (some 36), none, [], []⟩], [], [], true⟩
def t_onceR_9 : List ROp := [⟨(.mv (.t 6)), (some 37), none, [], []⟩, ⟨(.bin .add (.t 37) (.c (.int .i64 1))), (some 38), none, [], []⟩, ⟨(.mv (.t 38)), (some 6), none, [], []⟩]
def r_onceR_9 : Reg := ⟨[], t_onceR_9, [], [], false⟩
def t_onceR_10 : List ROp := [⟨(.mv (.t 7)), (some 23), none, [], []⟩, ⟨(.bin .add (.t 23) (.c (.int .i64 1))), (some 24), none, [], []⟩, ⟨(.mv (.t 24)), (some 7), none, [], []⟩]
def r_onceR_10 : Reg := ⟨[], t_onceR_10, [], [], false⟩
def r_onceR_l11 : IR := (.seq (.seq (.reg r_onceR_7)
  (.cond (.t 22) .skip
  (.exit 2)))
  (.seq (.block 3 (.seq (.reg r_onceR_8)
  (.cond (.t 36) (.reg r_onceR_9)
  .skip)))
  (.reg r_onceR_10)))
def r_onceR_12 : Reg := ⟨[], [⟨(.mv (.t 6)), (some 39), none, [], []⟩, ⟨(.bin .neq (.t 39) (.c (.int .i64 1))), (some 40), none, [], []⟩], [], [], false⟩
def r_onceR_13 : Reg := ⟨[], [⟨(.mv (.c (.bool false))), (some 4), none, [], []⟩], [], [], false⟩
def t_onceR_14 : List ROp := [⟨(.mv (.t 5)), (some 17), none, [], []⟩, ⟨(.bin .add (.t 17) (.c (.int .i64 1))), (some 18), none, [], []⟩, ⟨(.mv (.t 18)), (some 5), none, [], []⟩]
def r_onceR_14 : Reg := ⟨[], t_onceR_14, [], [], false⟩
def r_onceR_l15 : IR := (.seq (.seq (.reg r_onceR_4)
  (.cond (.t 16) .skip
  (.exit 0)))
  (.seq (.block 1 (.seq (.reg r_onceR_5)
  (.seq (.seq (.reg r_onceR_6)
  (.block 2 (.loop r_onceR_l11)))
  (.seq (.reg r_onceR_12)
  (.cond (.t 40) (.seq (.reg r_onceR_13)
  .ret)
  .skip)))))
  (.reg r_onceR_14)))
def r_onceR_16 : Reg := ⟨[], [⟨(.mv (.c (.bool true))), (some 4), none, [], []⟩], [], [], false⟩
def ir_onceR : IR := (.seq (.reg r_onceR_0)
  (.seq (.seq (.reg r_onceR_1)
  (.cond (.t 12) (.seq (.reg r_onceR_2)
  .ret)
  .skip))
  (.seq (.seq (.reg r_onceR_3)
  (.block 0 (.loop r_onceR_l15)))
  (.seq (.reg r_onceR_16)
  .ret))))
def res_onceR : List RDesc := [(.tmp 4)]
theorem e_onceR_0 (C : FuncId → List AV → AV → Prop) (σ : St) (K : St → Prop) : runReg C r_onceR_0 σ K = runOps C [⟨(.mv (.c (.bool false))), (some 4), none, [], []⟩] (σ.kills []) K := rfl
theorem e_onceR_1 (C : FuncId → List AV → AV → Prop) (σ : St) (K : St → Prop) : runReg C r_onceR_1 σ K = runOps C t_onceR_1 (σ.kills []) K := rfl
theorem e_onceR_2 (C : FuncId → List AV → AV → Prop) (σ : St) (K : St → Prop) : runReg C r_onceR_2 σ K = runOps C [⟨(.mv (.c (.bool false))), (some 4), none, [], []⟩] (σ.kills []) K := rfl
theorem e_onceR_3 (C : FuncId → List AV → AV → Prop) (σ : St) (K : St → Prop) : runReg C r_onceR_3 σ K = runOps C [⟨(.mv (.c (.int .i64 0))), (some 5), none, [], []⟩] (σ.kills []) K := rfl
theorem e_onceR_4 (C : FuncId → List AV → AV → Prop) (σ : St) (K : St → Prop) : runReg C r_onceR_4 σ K = runOps C t_onceR_4 (σ.kills []) K := rfl
theorem e_onceR_5 (C : FuncId → List AV → AV → Prop) (σ : St) (K : St → Prop) : runReg C r_onceR_5 σ K = runOps C [⟨(.mv (.c (.int .i64 0))), (some 6), none, [], []⟩] (σ.kills []) K := rfl
theorem e_onceR_6 (C : FuncId → List AV → AV → Prop) (σ : St) (K : St → Prop) : runReg C r_onceR_6 σ K = runOps C [⟨(.mv (.c (.int .i64 0))), (some 7), none, [], []⟩] (σ.kills []) K := rfl
theorem e_onceR_7 (C : FuncId → List AV → AV → Prop) (σ : St) (K : St → Prop) : runReg C r_onceR_7 σ K = runOps C t_onceR_7 (σ.kills []) K := rfl
theorem e_onceR_8 (C : FuncId → List AV → AV → Prop) (σ : St) (K : St → Prop) : runReg C r_onceR_8 σ K = runHead C [] [⟨(.bin .eql (.t 30) (.t 35)), (some 36), none, [], []⟩] h_onceR_8 (σ.kills []) K := rfl
theorem e_onceR_9 (C : FuncId → List AV → AV → Prop) (σ : St) (K : St → Prop) : runReg C r_onceR_9 σ K = runOps C t_onceR_9 (σ.kills []) K := rfl
theorem e_onceR_10 (C : FuncId → List AV → AV → Prop) (σ : St) (K : St → Prop) : runReg C r_onceR_10 σ K = runOps C t_onceR_10 (σ.kills []) K := rfl
theorem e_onceR_12 (C : FuncId → List AV → AV → Prop) (σ : St) (K : St → Prop) : runReg C r_onceR_12 σ K = runOps C [⟨(.mv (.t 6)), (some 39), none, [], []⟩, ⟨(.bin .neq (.t 39) (.c (.int .i64 1))), (some 40), none, [], []⟩] (σ.kills []) K := rfl
theorem e_onceR_13 (C : FuncId → List AV → AV → Prop) (σ : St) (K : St → Prop) : runReg C r_onceR_13 σ K = runOps C [⟨(.mv (.c (.bool false))), (some 4), none, [], []⟩] (σ.kills []) K := rfl
theorem e_onceR_14 (C : FuncId → List AV → AV → Prop) (σ : St) (K : St → Prop) : runReg C r_onceR_14 σ K = runOps C t_onceR_14 (σ.kills []) K := rfl
theorem e_onceR_16 (C : FuncId → List AV → AV → Prop) (σ : St) (K : St → Prop) : runReg C r_onceR_16 σ K = runOps C [⟨(.mv (.c (.bool true))), (some 4), none, [], []⟩] (σ.kills []) K := rfl
theorem fn_onceR {args : List AV} {r : AV} (ha : args.length.ble Try.f86.ntmps = true) (h : run (AFn Try.prog) ir_onceR (endQ res_onceR r) (initSt args)) : AFn Try.prog 86 args r :=
  AFn.of_code (pv := false) (hint := fun _ => []) (c := Try.f86.body.getD .skip) (by kernel_rfl) (by kernel_rfl) Try.func86 (by kernel_rfl) (by kernel_rfl) (by kernel_rfl) (of_decide_eq_true (by kernel_rfl)) (Nat.le_of_ble_eq_true ha) (Nat.le_of_ble_eq_true (by kernel_rfl)) (run_ok h)
/-! ### percolate/percolateref28.linked -/
def r_linked_0 : Reg := ⟨[], [⟨(.mv (.c (.bool false))), (some 2), none, [], []⟩], [], [], false⟩
def r_linked_1 : Reg := ⟨[], [⟨(.mv (.c (.int .i64 0))), (some 3), none, [], []⟩], [], [], false⟩
def t_linked_2 : List ROp := [⟨(.mv (.t 3)), (some 5), none, [], []⟩, ⟨(.mv (.t 0)), (some 6), none, [], []⟩, ⟨(.len false (.t 6)), (some 7), none, [], []⟩, ⟨(.bin .lss (.t 5) (.t 7)), (some 8), none, [], []⟩]
def r_linked_2 : Reg := ⟨[], t_linked_2, [], [], false⟩
def r_linked_3 : Reg := ⟨[], [⟨(.mv (.c (.int .i64 (-1)))), (some 4), none, [], []⟩], [], [], false⟩
def t_linked_4 : List ROp := [⟨(.bin .eql (.t 23) (.t 29)), (some 30), (some (16, true)), [], []⟩, ⟨(.pick (.t 16) (.t 30) (.c (.bool false))), (some 31), none, [], []⟩]
def h_linked_4 : List ROp := [⟨(.mv (.t 3)), (some 11), none, [], []⟩, ⟨(.bin .add (.t 11) (.c (.int .i64 1))), (some 12), none, [], []⟩, ⟨(.mv (.t 0)), (some 13), none, [], []⟩, ⟨(.len false (.t 13)), (some 14), none, [], []⟩, ⟨(.bin .lss (.t 12) (.t 14)), (some 15), none, [], []⟩, ⟨(.mv (.t 15)), (some 16), none, [], []⟩, ⟨(.mv (.t 0)), (some 17), (some (16, true)), [], []⟩, ⟨(.mv (.t 3)), (some 18), (some (16, true)), [], []⟩, ⟨(.bin .add (.t 18) (.c (.int .i64 1))), (some 19), (some (16, true)), [], []⟩, ⟨(.iaddr 14 (.t 17) (.t 19)), (some 20), (some (16, true)), [], []⟩, ⟨(.faddr 0 (.t 20)), (some 21), (some (16, true)), [], []⟩, ⟨(.faddr 1 (.t 21)), (some 22), (some (16, true)), [], []⟩, ⟨(.load 1 false (.t 22)), (some 23), (some (16, true)), [], []⟩, ⟨(.mv (.t 0)), (some 24), (some (16, true)), [], []⟩, ⟨(.mv (.t 3)), (some 25), (some (16, true)), [], []⟩, ⟨(.iaddr 14 (.t 24) (.t 25)), (some 26), (some (16, true)), [], []⟩, ⟨(.faddr 0 (.t 26)), (some 27), (some (16, true)), [], []⟩, ⟨(.faddr 1 (.t 27)), (some 28), (some (16, true)), [], []⟩, ⟨(.load 1 false (.t 28)), (some 29), (some (16, true)), [], []⟩]
def r_linked_4 : Reg := ⟨h_linked_4, t_linked_4, [], [], true⟩
def t_linked_5 : List ROp := [⟨(.mv (.t 0)), (some 32), none, [], []⟩, ⟨(.mv (.t 3)), (some 33), none, [], []⟩, ⟨(.bin .add (.t 33) (.c (.int .i64 1))), (some 34), none, [], []⟩, ⟨(.iaddr 14 (.t 32) (.t 34)), (some 35), none, [], []⟩, ⟨(.faddr 0 (.t 35)), (some 36), none, [], []⟩, ⟨(.faddr 0 (.t 36)), (some 37), none, [], []⟩, ⟨(.load 1 false (.t 37)), (some 38), none, [], []⟩, ⟨(.mv (.t 38)), (some 4), none, [], []⟩]
def r_linked_5 : Reg := ⟨[], t_linked_5, [], [], false⟩
def t_linked_6 : List ROp := [⟨(.mv (.t 0)), (some 39), none, [], []⟩, ⟨(.mv (.t 3)), (some 40), none, [], []⟩, ⟨(.iaddr 14 (.t 39) (.t 40)), (some 41), none, [], []⟩, ⟨(.faddr 0 (.t 41)), (some 42), none, [], []⟩, ⟨(.faddr 6 (.t 42)), (some 43), none, [], []⟩, ⟨(.load 1 false (.t 43)), (some 44), none, [], []⟩, ⟨(.mv (.t 4)), (some 45), none, [], []⟩, ⟨(.bin .neq (.t 44) (.t 45)), (some 46), none, [], []⟩]
def r_linked_6 : Reg := ⟨[], t_linked_6, [], [], false⟩
def r_linked_7 : Reg := ⟨[], [⟨(.mv (.c (.bool false))), (some 2), none, [], []⟩], [], [], false⟩
def t_linked_8 : List ROp := [⟨(.mv (.t 3)), (some 9), none, [], []⟩, ⟨(.bin .add (.t 9) (.c (.int .i64 1))), (some 10), none, [], []⟩, ⟨(.mv (.t 10)), (some 3), none, [], []⟩]
def r_linked_8 : Reg := ⟨[], t_linked_8, [], [], false⟩
def r_linked_l9 : IR := (.seq (.seq (.reg r_linked_2)
  (.cond (.t 8) .skip
  (.exit 0)))
  (.seq (.block 1 (.seq (.reg r_linked_3)
  (.seq (.seq (.reg r_linked_4)
  (.cond (.t 31) (.reg r_linked_5)
  .skip))
  (.seq (.reg r_linked_6)
  (.cond (.t 46) (.seq (.reg r_linked_7)
  .ret)
  .skip)))))
  (.reg r_linked_8)))
def r_linked_10 : Reg := ⟨[], [⟨(.mv (.c (.bool true))), (some 2), none, [], []⟩], [], [], false⟩
def ir_linked : IR := (.seq (.reg r_linked_0)
  (.seq (.seq (.reg r_linked_1)
  (.block 0 (.loop r_linked_l9)))
  (.seq (.reg r_linked_10)
  .ret)))
def res_linked : List RDesc := [(.tmp 2)]
theorem e_linked_0 (C : FuncId → List AV → AV → Prop) (σ : St) (K : St → Prop) : runReg C r_linked_0 σ K = runOps C [⟨(.mv (.c (.bool false))), (some 2), none, [], []⟩] (σ.kills []) K := rfl
theorem e_linked_1 (C : FuncId → List AV → AV → Prop) (σ : St) (K : St → Prop) : runReg C r_linked_1 σ K = runOps C [⟨(.mv (.c (.int .i64 0))), (some 3), none, [], []⟩] (σ.kills []) K := rfl
theorem e_linked_2 (C : FuncId → List AV → AV → Prop) (σ : St) (K : St → Prop) : runReg C r_linked_2 σ K = runOps C t_linked_2 (σ.kills []) K := rfl
theorem e_linked_3 (C : FuncId → List AV → AV → Prop) (σ : St) (K : St → Prop) : runReg C r_linked_3 σ K = runOps C [⟨(.mv (.c (.int .i64 (-1)))), (some 4), none, [], []⟩] (σ.kills []) K := rfl
theorem e_linked_4 (C : FuncId → List AV → AV → Prop) (σ : St) (K : St → Prop) : runReg C r_linked_4 σ K = runHead C [] t_linked_4 h_linked_4 (σ.kills []) K := rfl
theorem e_linked_5 (C : FuncId → List AV → AV → Prop) (σ : St) (K : St → Prop) : runReg C r_linked_5 σ K = runOps C t_linked_5 (σ.kills []) K := rfl
theorem e_linked_6 (C : FuncId → List AV → AV → Prop) (σ : St) (K : St → Prop) : runReg C r_linked_6 σ K = runOps C t_linked_6 (σ.kills []) K := rfl
theorem e_linked_7 (C : FuncId → List AV → AV → Prop) (σ : St) (K : St → Prop) : runReg C r_linked_7 σ K = runOps C [⟨(.mv (.c (.bool false))), (some 2), none, [], []⟩] (σ.kills []) K := rfl
theorem e_linked_8 (C : FuncId → List AV → AV → Prop) (σ : St) (K : St → Prop) : runReg C r_linked_8 σ K = runOps C t_linked_8 (σ.kills []) K := rfl
theorem e_linked_10 (C : FuncId → List AV → AV → Prop) (σ : St) (K : St → Prop) : runReg C r_linked_10 σ K = runOps C [⟨(.mv (.c (.bool true))), (some 2), none, [], []⟩] (σ.kills []) K := rfl
theorem fn_linked {args : List AV} {r : AV} (ha : args.length.ble Try.f87.ntmps = true) (h : run (AFn Try.prog) ir_linked (endQ res_linked r) (initSt args)) : AFn Try.prog 87 args r :=
  AFn.of_code (pv := false) (hint := fun _ => []) (c := Try.f87.body.getD .skip) (by kernel_rfl) (by kernel_rfl) Try.func87 (by kernel_rfl) (by kernel_rfl) (by kernel_rfl) (of_decide_eq_true (by kernel_rfl)) (Nat.le_of_ble_eq_true ha) (Nat.le_of_ble_eq_true (by kernel_rfl)) (run_ok h)
/-! ### percolate/percolateref21.Has -/
def r_has21_0 : Reg := ⟨[], [⟨(.box 10 36 (.t 0)), (some 2), none, [], []⟩, ⟨(.mv (.c (.bool false))), (some 4), none, [], []⟩], [2], [], false⟩
def t_has21_1 : List ROp := [⟨(.faddr 5 (.t 2)), (some 5), none, [11], []⟩, ⟨(.load 1 false (.t 5)), (some 6), none, [11], []⟩, ⟨(.mv (.t 6)), (some 7), none, [11], []⟩, ⟨(.mv (.t 1)), (some 8), (some (7, false)), [11], []⟩, ⟨(.faddr 4 (.t 2)), (some 9), (some (7, false)), [11], []⟩, ⟨(.load 1 false (.t 9)), (some 10), (some (7, false)), [11], []⟩, ⟨(.callv (.c (.clo 91 [] [])) [(.t 8), (.t 10)]), (some 11), (some (7, false)), [], []⟩, ⟨(.pick (.t 7) (.c (.bool true)) (.t 11)), (some 12), none, [], []⟩, ⟨(.mv (.t 12)), (some 4), none, [], []⟩]
def r_has21_1 : Reg := ⟨[], t_has21_1, [11], [], false⟩
def ir_has21 : IR := (.seq (.reg r_has21_0)
  (.seq (.reg r_has21_1)
  .ret))
def res_has21 : List RDesc := [(.tmp 4)]
theorem e_has21_0 (C : FuncId → List AV → AV → Prop) (σ : St) (K : St → Prop) : runReg C r_has21_0 σ K = runOps C [⟨(.box 10 36 (.t 0)), (some 2), none, [], []⟩, ⟨(.mv (.c (.bool false))), (some 4), none, [], []⟩] (σ.kills [2]) K := rfl
theorem e_has21_1 (C : FuncId → List AV → AV → Prop) (σ : St) (K : St → Prop) : runReg C r_has21_1 σ K = runOps C t_has21_1 (σ.kills [11]) K := rfl
theorem fn_has21 {args : List AV} {r : AV} (ha : args.length.ble Try.f152.ntmps = true) (h : run (AFn Try.prog) ir_has21 (endQ res_has21 r) (initSt args)) : AFn Try.prog 152 args r :=
  AFn.of_code (pv := false) (hint := fun _ => []) (c := Try.f152.body.getD .skip) (by kernel_rfl) (by kernel_rfl) Try.func152 (by kernel_rfl) (by kernel_rfl) (by kernel_rfl) (of_decide_eq_true (by kernel_rfl)) (Nat.le_of_ble_eq_true ha) (Nat.le_of_ble_eq_true (by kernel_rfl)) (run_ok h)
/-! ### percolate/percolateref21.leaf -/
def t_leaf21_0 : List ROp := [⟨(.box 5 23 (.t 0)), (some 2), none, [3], []⟩, ⟨(.box 10 36 (.t 1)), (some 3), none, [], []⟩, ⟨(.mv (.c (.bool false))), (some 4), none, [], []⟩]
def r_leaf21_0 : Reg := ⟨[], t_leaf21_0, [2, 3], [], false⟩
def t_leaf21_1 : List ROp := [⟨(.faddr 2 (.t 3)), (some 6), none, [29], []⟩, ⟨(.load 1 false (.t 6)), (some 7), none, [29], []⟩, ⟨(.len false (.t 7)), (some 8), none, [29], []⟩, ⟨(.faddr 3 (.t 3)), (some 9), none, [29], []⟩, ⟨(.load 1 false (.t 9)), (some 10), none, [29], []⟩, ⟨(.len false (.t 10)), (some 11), none, [29], []⟩, ⟨(.bin .add (.t 8) (.t 11)), (some 12), none, [29], []⟩, ⟨(.faddr 8 (.t 3)), (some 13), none, [29], []⟩, ⟨(.load 1 false (.t 13)), (some 14), none, [29], []⟩, ⟨(.len false (.t 14)), (some 15), none, [29], []⟩, ⟨(.bin .add (.t 12) (.t 15)), (some 16), none, [29], []⟩, ⟨(.bin .gtr (.t 16) (.c (.int .i64 0))), (some 17), none, [29], []⟩, ⟨(.mv (.t 17)), (some 18), none, [29], []⟩, ⟨(.faddr 9 (.t 3)), (some 19), (some (18, false)), [29], []⟩, ⟨(.load 1 false (.t 19)), (some 20), (some (18, false)), [29], []⟩, ⟨(.len false (.t 20)), (some 21), (some (18, false)), [29], []⟩, ⟨(.faddr 1 (.t 2)), (some 22), (some (18, false)), [29], []⟩, ⟨(.load 1 false (.t 22)), (some 23), (some (18, false)), [29], []⟩, ⟨(.bin .gtr (.t 21) (.t 23)), (some 24), (some (18, false)), [29], []⟩, ⟨(.pick (.t 18) (.c (.bool true)) (.t 24)), (some 25), none, [29], []⟩, ⟨(.mv (.t 25)), (some 26), none, [29], []⟩, ⟨(.faddr 9 (.t 3)), (some 27), (some (26, false)), [29], []⟩, ⟨(.load 1 false (.t 27)), (some 28), (some (26, false)), [29], []⟩, ⟨(.callv (.c (.clo 151 [] [])) [(.t 28)]), (some 29), (some (26, false)), [], []⟩, ⟨(.un .not (.t 29)), (some 30), (some (26, false)), [], []⟩, ⟨(.pick (.t 26) (.c (.bool true)) (.t 30)), (some 31), none, [], []⟩]
def r_leaf21_1 : Reg := ⟨[], t_leaf21_1, [29], [], false⟩
def r_leaf21_2 : Reg := ⟨[], [⟨(.mv (.c (.bool false))), (some 4), none, [], []⟩], [], [], false⟩
def r_leaf21_3 : Reg := ⟨[], [⟨(.mv (.c (.int .i64 0))), (some 5), none, [], []⟩], [], [], false⟩
def t_leaf21_4 : List ROp := [⟨(.mv (.t 5)), (some 32), none, [], []⟩, ⟨(.faddr 9 (.t 3)), (some 33), none, [], []⟩, ⟨(.load 1 false (.t 33)), (some 34), none, [], []⟩, ⟨(.len false (.t 34)), (some 35), none, [], []⟩, ⟨(.bin .lss (.t 32) (.t 35)), (some 36), none, [], []⟩]
def r_leaf21_4 : Reg := ⟨[], t_leaf21_4, [], [], false⟩
def t_leaf21_5 : List ROp := [⟨(.callv (.c (.clo 152 [] [])) [(.t 39), (.t 45)]), (some 46), none, [], []⟩, ⟨(.un .not (.t 46)), (some 47), none, [], []⟩]
def h_leaf21_5 : List ROp := [⟨(.load 10 true (.t 3)), (some 39), none, [46], []⟩, ⟨(.faddr 9 (.t 3)), (some 40), none, [46], []⟩, ⟨(.load 1 false (.t 40)), (some 41), none, [46], []⟩, ⟨(.mv (.t 5)), (some 42), none, [46], []⟩, ⟨(.iaddr 2 (.t 41) (.t 42)), (some 43), none, [46], []⟩, ⟨(.faddr 0 (.t 43)), (some 44), none, [46], []⟩, ⟨(.load 1 false (.t 44)), (some 45), none, [46], []⟩]
def r_leaf21_5 : Reg := ⟨h_leaf21_5, t_leaf21_5, [46], [], true⟩
def r_leaf21_6 : Reg := ⟨[], [⟨(.mv (.c (.bool false))), (some 4), none, [], []⟩], [], [], false⟩
def t_leaf21_7 : List ROp := [⟨(.mv (.t 5)), (some 37), none, [], []⟩, ⟨(.bin .add (.t 37) (.c (.int .i64 1))), (some 38), none, [], []⟩, ⟨(.mv (.t 38)), (some 5), none, [], []⟩]
def r_leaf21_7 : Reg := ⟨[], t_leaf21_7, [], [], false⟩
def r_leaf21_l8 : IR := (.seq (.seq (.reg r_leaf21_4)
  (.cond (.t 36) .skip
  (.exit 0)))
  (.seq (.block 1 (.seq (.reg r_leaf21_5)
  (.cond (.t 47) (.seq (.reg r_leaf21_6)
  .ret)
  .skip)))
  (.reg r_leaf21_7)))
def r_leaf21_9 : Reg := ⟨[], [⟨(.mv (.c (.bool true))), (some 4), none, [], []⟩], [], [], false⟩
def ir_leaf21 : IR := (.seq (.reg r_leaf21_0)
  (.seq (.seq (.reg r_leaf21_1)
  (.cond (.t 31) (.seq (.reg r_leaf21_2)
  .ret)
  .skip))
  (.seq (.seq (.reg r_leaf21_3)
  (.block 0 (.loop r_leaf21_l8)))
  (.seq (.reg r_leaf21_9)
  .ret))))
def res_leaf21 : List RDesc := [(.tmp 4)]
theorem e_leaf21_0 (C : FuncId → List AV → AV → Prop) (σ : St) (K : St → Prop) : runReg C r_leaf21_0 σ K = runOps C t_leaf21_0 (σ.kills [2, 3]) K := rfl
theorem e_leaf21_1 (C : FuncId → List AV → AV → Prop) (σ : St) (K : St → Prop) : runReg C r_leaf21_1 σ K = runOps C t_leaf21_1 (σ.kills [29]) K := rfl
theorem e_leaf21_2 (C : FuncId → List AV → AV → Prop) (σ : St) (K : St → Prop) : runReg C r_leaf21_2 σ K = runOps C [⟨(.mv (.c (.bool false))), (some 4), none, [], []⟩] (σ.kills []) K := rfl
theorem e_leaf21_3 (C : FuncId → List AV → AV → Prop) (σ : St) (K : St → Prop) : runReg C r_leaf21_3 σ K = runOps C [⟨(.mv (.c (.int .i64 0))), (some 5), none, [], []⟩] (σ.kills []) K := rfl
theorem e_leaf21_4 (C : FuncId → List AV → AV → Prop) (σ : St) (K : St → Prop) : runReg C r_leaf21_4 σ K = runOps C t_leaf21_4 (σ.kills []) K := rfl
theorem e_leaf21_5 (C : FuncId → List AV → AV → Prop) (σ : St) (K : St → Prop) : runReg C r_leaf21_5 σ K = runHead C [] t_leaf21_5 h_leaf21_5 (σ.kills [46]) K := rfl
theorem e_leaf21_6 (C : FuncId → List AV → AV → Prop) (σ : St) (K : St → Prop) : runReg C r_leaf21_6 σ K = runOps C [⟨(.mv (.c (.bool false))), (some 4), none, [], []⟩] (σ.kills []) K := rfl
theorem e_leaf21_7 (C : FuncId → List AV → AV → Prop) (σ : St) (K : St → Prop) : runReg C r_leaf21_7 σ K = runOps C t_leaf21_7 (σ.kills []) K := rfl
theorem e_leaf21_9 (C : FuncId → List AV → AV → Prop) (σ : St) (K : St → Prop) : runReg C r_leaf21_9 σ K = runOps C [⟨(.mv (.c (.bool true))), (some 4), none, [], []⟩] (σ.kills []) K := rfl
theorem fn_leaf21 {args : List AV} {r : AV} (ha : args.length.ble Try.f117.ntmps = true) (h : run (AFn Try.prog) ir_leaf21 (endQ res_leaf21 r) (initSt args)) : AFn Try.prog 117 args r :=
  AFn.of_code (pv := false) (hint := fun _ => []) (c := Try.f117.body.getD .skip) (by kernel_rfl) (by kernel_rfl) Try.func117 (by kernel_rfl) (by kernel_rfl) (by kernel_rfl) (of_decide_eq_true (by kernel_rfl)) (Nat.le_of_ble_eq_true ha) (Nat.le_of_ble_eq_true (by kernel_rfl)) (run_ok h)
/-! ### percolate/percolateref25.Right -/
def r_right25_0 : Reg := ⟨[], [⟨(.box 5 23 (.t 0)), (some 1), none, [], []⟩, ⟨(.mv (.c (.bool false))), (some 2), none, [], []⟩], [1], [], false⟩
def t_right25_1 : List ROp := [⟨(.faddr 0 (.t 1)), (some 3), none, [], []⟩, ⟨(.load 1 false (.t 3)), (some 4), none, [], []⟩, ⟨(.bin .geq (.t 4) (.c (.int .i64 4))), (some 5), none, [], []⟩, ⟨(.mv (.t 5)), (some 6), none, [], []⟩, ⟨(.faddr 0 (.t 1)), (some 7), (some (6, true)), [], []⟩, ⟨(.load 1 false (.t 7)), (some 8), (some (6, true)), [], []⟩, ⟨(.bin .leq (.t 8) (.c (.int .i64 64))), (some 9), (some (6, true)), [], []⟩, ⟨(.pick (.t 6) (.t 9) (.c (.bool false))), (some 10), none, [], []⟩, ⟨(.mv (.t 10)), (some 11), none, [], []⟩, ⟨(.faddr 1 (.t 1)), (some 12), (some (11, true)), [], []⟩, ⟨(.load 1 false (.t 12)), (some 13), (some (11, true)), [], []⟩, ⟨(.bin .geq (.t 13) (.c (.int .i64 2))), (some 14), (some (11, true)), [], []⟩, ⟨(.pick (.t 11) (.t 14) (.c (.bool false))), (some 15), none, [], []⟩, ⟨(.mv (.t 15)), (some 16), none, [], []⟩, ⟨(.faddr 1 (.t 1)), (some 17), (some (16, true)), [], []⟩, ⟨(.load 1 false (.t 17)), (some 18), (some (16, true)), [], []⟩, ⟨(.bin .leq (.t 18) (.c (.int .i64 64))), (some 19), (some (16, true)), [], []⟩, ⟨(.pick (.t 16) (.t 19) (.c (.bool false))), (some 20), none, [], []⟩, ⟨(.mv (.t 20)), (some 21), none, [], []⟩, ⟨(.faddr 2 (.t 1)), (some 22), (some (21, true)), [], []⟩, ⟨(.load 1 false (.t 22)), (some 23), (some (21, true)), [], []⟩, ⟨(.bin .geq (.t 23) (.c (.int .i64 36))), (some 24), (some (21, true)), [], []⟩, ⟨(.pick (.t 21) (.t 24) (.c (.bool false))), (some 25), none, [], []⟩, ⟨(.mv (.t 25)), (some 26), none, [], []⟩, ⟨(.faddr 2 (.t 1)), (some 27), (some (26, true)), [], []⟩, ⟨(.load 1 false (.t 27)), (some 28), (some (26, true)), [], []⟩, ⟨(.bin .leq (.t 28) (.c (.int .i64 4096))), (some 29), (some (26, true)), [], []⟩, ⟨(.pick (.t 26) (.t 29) (.c (.bool false))), (some 30), none, [], []⟩, ⟨(.mv (.t 30)), (some 31), none, [], []⟩, ⟨(.faddr 3 (.t 1)), (some 32), (some (31, true)), [], []⟩, ⟨(.load 1 false (.t 32)), (some 33), (some (31, true)), [], []⟩, ⟨(.bin .geq (.t 33) (.c (.int .i64 1))), (some 34), (some (31, true)), [], []⟩, ⟨(.pick (.t 31) (.t 34) (.c (.bool false))), (some 35), none, [], []⟩, ⟨(.mv (.t 35)), (some 36), none, [], []⟩, ⟨(.faddr 3 (.t 1)), (some 37), (some (36, true)), [], []⟩, ⟨(.load 1 false (.t 37)), (some 38), (some (36, true)), [], []⟩, ⟨(.bin .leq (.t 38) (.c (.int .i64 4096))), (some 39), (some (36, true)), [], []⟩, ⟨(.pick (.t 36) (.t 39) (.c (.bool false))), (some 40), none, [], []⟩, ⟨(.mv (.t 40)), (some 41), none, [], []⟩, ⟨(.faddr 4 (.t 1)), (some 42), (some (41, true)), [], []⟩, ⟨(.load 1 false (.t 42)), (some 43), (some (41, true)), [], []⟩, ⟨(.bin .geq (.t 43) (.c (.int .i64 0))), (some 44), (some (41, true)), [], []⟩, ⟨(.pick (.t 41) (.t 44) (.c (.bool false))), (some 45), none, [], []⟩, ⟨(.mv (.t 45)), (some 46), none, [], []⟩, ⟨(.faddr 4 (.t 1)), (some 47), (some (46, true)), [], []⟩, ⟨(.load 1 false (.t 47)), (some 48), (some (46, true)), [], []⟩, ⟨(.bin .leq (.t 48) (.c (.int .i64 100))), (some 49), (some (46, true)), [], []⟩, ⟨(.pick (.t 46) (.t 49) (.c (.bool false))), (some 50), none, [], []⟩, ⟨(.mv (.t 50)), (some 2), none, [], []⟩]
def r_right25_1 : Reg := ⟨[], t_right25_1, [], [], false⟩
def ir_right25 : IR := (.seq (.reg r_right25_0)
  (.seq (.reg r_right25_1)
  .ret))
def res_right25 : List RDesc := [(.tmp 2)]
theorem e_right25_0 (C : FuncId → List AV → AV → Prop) (σ : St) (K : St → Prop) : runReg C r_right25_0 σ K = runOps C [⟨(.box 5 23 (.t 0)), (some 1), none, [], []⟩, ⟨(.mv (.c (.bool false))), (some 2), none, [], []⟩] (σ.kills [1]) K := rfl
theorem e_right25_1 (C : FuncId → List AV → AV → Prop) (σ : St) (K : St → Prop) : runReg C r_right25_1 σ K = runOps C t_right25_1 (σ.kills []) K := rfl
theorem fn_right25 {args : List AV} {r : AV} (ha : args.length.ble Try.f48.ntmps = true) (h : run (AFn Try.prog) ir_right25 (endQ res_right25 r) (initSt args)) : AFn Try.prog 48 args r :=
  AFn.of_code (pv := false) (hint := fun _ => []) (c := Try.f48.body.getD .skip) (by kernel_rfl) (by kernel_rfl) Try.func48 (by kernel_rfl) (by kernel_rfl) (by kernel_rfl) (of_decide_eq_true (by kernel_rfl)) (Nat.le_of_ble_eq_true ha) (Nat.le_of_ble_eq_true (by kernel_rfl)) (run_ok h)
attribute [local go_sem ↓] ir_onceR
attribute [local go_sem] res_onceR e_onceR_0 e_onceR_1 t_onceR_1 e_onceR_2 e_onceR_3 e_onceR_4 t_onceR_4 e_onceR_5 e_onceR_6 e_onceR_7 t_onceR_7 e_onceR_8 h_onceR_8 e_onceR_9 t_onceR_9 e_onceR_10 t_onceR_10 e_onceR_12 e_onceR_13 e_onceR_14 t_onceR_14 e_onceR_16
attribute [local go_sem ↓] ir_linked
attribute [local go_sem] res_linked e_linked_0 e_linked_1 e_linked_2 t_linked_2 e_linked_3 e_linked_4 t_linked_4 h_linked_4 e_linked_5 t_linked_5 e_linked_6 t_linked_6 e_linked_7 e_linked_8 t_linked_8 e_linked_10
attribute [local go_sem ↓] ir_has21
attribute [local go_sem] res_has21 e_has21_0 e_has21_1 t_has21_1
attribute [local go_sem ↓] ir_leaf21
attribute [local go_sem] res_leaf21 e_leaf21_0 t_leaf21_0 e_leaf21_1 t_leaf21_1 e_leaf21_2 e_leaf21_3 e_leaf21_4 t_leaf21_4 e_leaf21_5 t_leaf21_5 h_leaf21_5 e_leaf21_6 e_leaf21_7 t_leaf21_7 e_leaf21_9
attribute [local go_sem ↓] ir_right25
attribute [local go_sem] res_right25 e_right25_0 e_right25_1 t_right25_1
theorem countP_at {α : Type} {p : α → Bool} {l : List α} {j : Nat} {x : α} (h : l[j]? = some x) : (l.drop j).countP p = (if p x then 1 else 0) + (l.drop (j + 1)).countP p := by
  rw [drop_at h, List.countP_cons, Nat.add_comm]
def o2Inv (l : List Nd) (s : List Seat) (i : Nat) (slot : Int) (k : Nat) (σ : St) : Prop :=
  ∃ j n : Nat, j ≤ s.length ∧ k = s.length - j ∧ n ≤ j ∧ σ.T 0 = .sl (l.map Nd.a) ∧ σ.T 1 = .sl (s.map Seat.a) ∧ σ.T 5 = .int .i64 i ∧ σ.T 6 = .int .i64 n ∧ σ.T 7 = .int .i64 j ∧ n + slotN (s.drop j) slot = slotN s slot
def o1Inv (l : List Nd) (s : List Seat) (R : Bool) (k : Nat) (σ : St) : Prop :=
  ∃ i : Nat, i ≤ l.length ∧ k = l.length - i ∧ σ.T 0 = .sl (l.map Nd.a) ∧ σ.T 1 = .sl (s.map Seat.a) ∧ σ.T 5 = .int .i64 i ∧ (l.drop i).all (fun n => slotN s n.slot == 1) = R
set_option maxHeartbeats 2000000 in
theorem onceT_ok (l : List Nd) (s : List Seat) (hl : l.length ≤ 1000000) (hs : s.length ≤ 1000000) : AFn Try.prog 86 [.sl (l.map Nd.a), .sl (s.map Seat.a)] (.bool (onceB l s)) := by
  refine fn_onceR rfl ?_
  unfold onceB
  by_cases hq : l.length = s.length
  case neg =>
    have hq' : ((l.length : Int) != (s.length : Int)) = true := by simp; omega
    rw [decide_eq_false hq]
    simp (maxSteps := 4000000) only [go_sem, ↓reduceIte, reduceCtorEq, Nat.reduceEqDiff, Nat.reduceBEq, Nat.reduceAdd, Nat.reduceSub, Nat.reduceMul, Nat.reduceLT, Nat.reduceLeDiff, Nat.reduceBNe, Int.reduceBEq, Int.reduceBNe, Int.reduceLT, Int.reduceLE, Spn.a, Msg.a, Par.a, Nd.a, Seat.a, Cfg.a, List.length_map, hq', Bool.false_and]
  have hq' : ((l.length : Int) != (s.length : Int)) = false := by simp [hq]
  rw [decide_eq_true hq]
  obtain ⟨R, hR⟩ : ∃ R, l.all (fun n => slotN s n.slot == 1) = R := ⟨_, rfl⟩
  rw [hR]
  simp (maxSteps := 4000000) only [go_sem, ↓reduceIte, reduceCtorEq, Nat.reduceEqDiff, Nat.reduceBEq, Nat.reduceAdd, Nat.reduceSub, Nat.reduceMul, Nat.reduceLT, Nat.reduceLeDiff, Nat.reduceBNe, Int.reduceBEq, Int.reduceBNe, Int.reduceLT, Int.reduceLE, Spn.a, Msg.a, Par.a, Nd.a, Seat.a, Cfg.a, List.length_map, hq']
  refine run_loop (o1Inv l s R) (k := l.length) ⟨0, by omega, rfl, rfl, rfl, rfl, hR⟩ ?_
  clear hR
  rintro k σ ⟨i, hi, rfl, t0, t1, t5, hr⟩
  simp only [r_onceR_l15]
  by_cases hlt : i < l.length
  case neg =>
    have hlt' : ¬ (i : Int) < (l.length : Int) := by omega
    rw [List.drop_eq_nil_of_le (by omega), List.all_nil] at hr
    subst hr
    simp (maxSteps := 4000000) only [go_sem, ↓reduceIte, reduceCtorEq, Nat.reduceEqDiff, Nat.reduceBEq, Nat.reduceAdd, Nat.reduceSub, Nat.reduceMul, Nat.reduceLT, Nat.reduceLeDiff, Nat.reduceBNe, Int.reduceBEq, Int.reduceBNe, Int.reduceLT, Int.reduceLE, Spn.a, Msg.a, Par.a, Nd.a, Seat.a, Cfg.a, t0, t1, t5, hlt', List.length_map]
  have hlt' : (i : Int) < (l.length : Int) := by omega
  obtain ⟨nd, hx⟩ := get_lt hlt
  have hgx := at_map (f := Nd.a) hx
  simp only [Nd.a] at hgx
  have hw := wrapS (j := i) (by omega)
  rw [drop_at hx, List.all_cons] at hr
  simp (maxSteps := 4000000) only [go_sem, ↓reduceIte, reduceCtorEq, Nat.reduceEqDiff, Nat.reduceBEq, Nat.reduceAdd, Nat.reduceSub, Nat.reduceMul, Nat.reduceLT, Nat.reduceLeDiff, Nat.reduceBNe, Int.reduceBEq, Int.reduceBNe, Int.reduceLT, Int.reduceLE, Spn.a, Msg.a, Par.a, Nd.a, Seat.a, Cfg.a, t0, t1, t5, hlt', List.length_map]
  refine run_loop (o2Inv l s i nd.slot) (k := s.length) ⟨0, 0, by omega, rfl, by omega, ?_, ?_, ?_, ?_, ?_, by rw [List.drop_zero, Nat.zero_add]⟩ ?_
  · simp (maxSteps := 4000000) only [go_sem, ↓reduceIte, reduceCtorEq, Nat.reduceEqDiff, Nat.reduceBEq, Nat.reduceAdd, Nat.reduceSub, Nat.reduceMul, Nat.reduceLT, Nat.reduceLeDiff, Nat.reduceBNe, Int.reduceBEq, Int.reduceBNe, Int.reduceLT, Int.reduceLE, Spn.a, Msg.a, Par.a, Nd.a, Seat.a, Cfg.a, t0]
  · simp (maxSteps := 4000000) only [go_sem, ↓reduceIte, reduceCtorEq, Nat.reduceEqDiff, Nat.reduceBEq, Nat.reduceAdd, Nat.reduceSub, Nat.reduceMul, Nat.reduceLT, Nat.reduceLeDiff, Nat.reduceBNe, Int.reduceBEq, Int.reduceBNe, Int.reduceLT, Int.reduceLE, Spn.a, Msg.a, Par.a, Nd.a, Seat.a, Cfg.a, t1]
  · simp (maxSteps := 4000000) only [go_sem, ↓reduceIte, reduceCtorEq, Nat.reduceEqDiff, Nat.reduceBEq, Nat.reduceAdd, Nat.reduceSub, Nat.reduceMul, Nat.reduceLT, Nat.reduceLeDiff, Nat.reduceBNe, Int.reduceBEq, Int.reduceBNe, Int.reduceLT, Int.reduceLE, Spn.a, Msg.a, Par.a, Nd.a, Seat.a, Cfg.a, t5]
  · (simp (maxSteps := 4000000) only [go_sem, ↓reduceIte, reduceCtorEq, Nat.reduceEqDiff, Nat.reduceBEq, Nat.reduceAdd, Nat.reduceSub, Nat.reduceMul, Nat.reduceLT, Nat.reduceLeDiff, Nat.reduceBNe, Int.reduceBEq, Int.reduceBNe, Int.reduceLT, Int.reduceLE, Spn.a, Msg.a, Par.a, Nd.a, Seat.a, Cfg.a]) <;> rfl
  · (simp (maxSteps := 4000000) only [go_sem, ↓reduceIte, reduceCtorEq, Nat.reduceEqDiff, Nat.reduceBEq, Nat.reduceAdd, Nat.reduceSub, Nat.reduceMul, Nat.reduceLT, Nat.reduceLeDiff, Nat.reduceBNe, Int.reduceBEq, Int.reduceBNe, Int.reduceLT, Int.reduceLE, Spn.a, Msg.a, Par.a, Nd.a, Seat.a, Cfg.a]) <;> rfl
  rintro k σ ⟨j, n, hj, rfl, hn, t0, t1, t5, t6, t7, hc⟩
  simp only [r_onceR_l11]
  by_cases hjt : j < s.length
  · have hjt' : (j : Int) < (s.length : Int) := by omega
    obtain ⟨y, hy⟩ := get_lt hjt
    have hgy := at_map (f := Seat.a) hy
    simp only [Seat.a] at hgy
    have hwj := wrapS (j := j) (by omega)
    have hwn := wrapS (j := n) (by omega)
    unfold slotN at hc
    rw [countP_at hy] at hc
    cases he : (y.n.slot == nd.slot)
    · rw [he] at hc
      simp (maxSteps := 4000000) only [go_sem, ↓reduceIte, reduceCtorEq, Nat.reduceEqDiff, Nat.reduceBEq, Nat.reduceAdd, Nat.reduceSub, Nat.reduceMul, Nat.reduceLT, Nat.reduceLeDiff, Nat.reduceBNe, Int.reduceBEq, Int.reduceBNe, Int.reduceLT, Int.reduceLE, Spn.a, Msg.a, Par.a, Nd.a, Seat.a, Cfg.a, t0, t1, t5, t6, t7, hlt', hjt', hgx, hgy, he, hwj, List.length_map, Int.toNat_natCast]
      (repeat refine And.intro (by omega) ?_)
      refine ⟨s.length - (j + 1), by omega, j + 1, n, by omega, rfl, by omega, ?_, ?_, ?_, ?_, ?_, by unfold slotN; rw [← hc]; simp⟩
      · simp (maxSteps := 4000000) only [go_sem, ↓reduceIte, reduceCtorEq, Nat.reduceEqDiff, Nat.reduceBEq, Nat.reduceAdd, Nat.reduceSub, Nat.reduceMul, Nat.reduceLT, Nat.reduceLeDiff, Nat.reduceBNe, Int.reduceBEq, Int.reduceBNe, Int.reduceLT, Int.reduceLE, Spn.a, Msg.a, Par.a, Nd.a, Seat.a, Cfg.a, t0]
      · simp (maxSteps := 4000000) only [go_sem, ↓reduceIte, reduceCtorEq, Nat.reduceEqDiff, Nat.reduceBEq, Nat.reduceAdd, Nat.reduceSub, Nat.reduceMul, Nat.reduceLT, Nat.reduceLeDiff, Nat.reduceBNe, Int.reduceBEq, Int.reduceBNe, Int.reduceLT, Int.reduceLE, Spn.a, Msg.a, Par.a, Nd.a, Seat.a, Cfg.a, t1]
      · simp (maxSteps := 4000000) only [go_sem, ↓reduceIte, reduceCtorEq, Nat.reduceEqDiff, Nat.reduceBEq, Nat.reduceAdd, Nat.reduceSub, Nat.reduceMul, Nat.reduceLT, Nat.reduceLeDiff, Nat.reduceBNe, Int.reduceBEq, Int.reduceBNe, Int.reduceLT, Int.reduceLE, Spn.a, Msg.a, Par.a, Nd.a, Seat.a, Cfg.a, t5]
      · simp (maxSteps := 4000000) only [go_sem, ↓reduceIte, reduceCtorEq, Nat.reduceEqDiff, Nat.reduceBEq, Nat.reduceAdd, Nat.reduceSub, Nat.reduceMul, Nat.reduceLT, Nat.reduceLeDiff, Nat.reduceBNe, Int.reduceBEq, Int.reduceBNe, Int.reduceLT, Int.reduceLE, Spn.a, Msg.a, Par.a, Nd.a, Seat.a, Cfg.a, t6]
      · simp (maxSteps := 4000000) only [go_sem, ↓reduceIte, reduceCtorEq, Nat.reduceEqDiff, Nat.reduceBEq, Nat.reduceAdd, Nat.reduceSub, Nat.reduceMul, Nat.reduceLT, Nat.reduceLeDiff, Nat.reduceBNe, Int.reduceBEq, Int.reduceBNe, Int.reduceLT, Int.reduceLE, Spn.a, Msg.a, Par.a, Nd.a, Seat.a, Cfg.a, hwj]
    · rw [he] at hc
      simp (maxSteps := 4000000) only [go_sem, ↓reduceIte, reduceCtorEq, Nat.reduceEqDiff, Nat.reduceBEq, Nat.reduceAdd, Nat.reduceSub, Nat.reduceMul, Nat.reduceLT, Nat.reduceLeDiff, Nat.reduceBNe, Int.reduceBEq, Int.reduceBNe, Int.reduceLT, Int.reduceLE, Spn.a, Msg.a, Par.a, Nd.a, Seat.a, Cfg.a, t0, t1, t5, t6, t7, hlt', hjt', hgx, hgy, he, hwj, hwn, List.length_map, Int.toNat_natCast]
      (repeat refine And.intro (by omega) ?_)
      refine ⟨s.length - (j + 1), by omega, j + 1, n + 1, by omega, rfl, by omega, ?_, ?_, ?_, ?_, ?_, by unfold slotN; rw [← hc]; simp; omega⟩
      · simp (maxSteps := 4000000) only [go_sem, ↓reduceIte, reduceCtorEq, Nat.reduceEqDiff, Nat.reduceBEq, Nat.reduceAdd, Nat.reduceSub, Nat.reduceMul, Nat.reduceLT, Nat.reduceLeDiff, Nat.reduceBNe, Int.reduceBEq, Int.reduceBNe, Int.reduceLT, Int.reduceLE, Spn.a, Msg.a, Par.a, Nd.a, Seat.a, Cfg.a, t0]
      · simp (maxSteps := 4000000) only [go_sem, ↓reduceIte, reduceCtorEq, Nat.reduceEqDiff, Nat.reduceBEq, Nat.reduceAdd, Nat.reduceSub, Nat.reduceMul, Nat.reduceLT, Nat.reduceLeDiff, Nat.reduceBNe, Int.reduceBEq, Int.reduceBNe, Int.reduceLT, Int.reduceLE, Spn.a, Msg.a, Par.a, Nd.a, Seat.a, Cfg.a, t1]
      · simp (maxSteps := 4000000) only [go_sem, ↓reduceIte, reduceCtorEq, Nat.reduceEqDiff, Nat.reduceBEq, Nat.reduceAdd, Nat.reduceSub, Nat.reduceMul, Nat.reduceLT, Nat.reduceLeDiff, Nat.reduceBNe, Int.reduceBEq, Int.reduceBNe, Int.reduceLT, Int.reduceLE, Spn.a, Msg.a, Par.a, Nd.a, Seat.a, Cfg.a, t5]
      · simp (maxSteps := 4000000) only [go_sem, ↓reduceIte, reduceCtorEq, Nat.reduceEqDiff, Nat.reduceBEq, Nat.reduceAdd, Nat.reduceSub, Nat.reduceMul, Nat.reduceLT, Nat.reduceLeDiff, Nat.reduceBNe, Int.reduceBEq, Int.reduceBNe, Int.reduceLT, Int.reduceLE, Spn.a, Msg.a, Par.a, Nd.a, Seat.a, Cfg.a, hwn]
      · simp (maxSteps := 4000000) only [go_sem, ↓reduceIte, reduceCtorEq, Nat.reduceEqDiff, Nat.reduceBEq, Nat.reduceAdd, Nat.reduceSub, Nat.reduceMul, Nat.reduceLT, Nat.reduceLeDiff, Nat.reduceBNe, Int.reduceBEq, Int.reduceBNe, Int.reduceLT, Int.reduceLE, Spn.a, Msg.a, Par.a, Nd.a, Seat.a, Cfg.a, hwj]
  · have hjt' : ¬ (j : Int) < (s.length : Int) := by omega
    rw [List.drop_eq_nil_of_le (by omega)] at hc
    have hc' : n = slotN s nd.slot := by rw [← hc]; rfl
    by_cases h1 : n = 1
    · have h1' : ((n : Int) != 1) = false := by simp [h1]
      have h2 : (slotN s nd.slot == 1) = true := by rw [← hc', h1]; rfl
      rw [h2, Bool.true_and] at hr
      simp (maxSteps := 4000000) only [go_sem, ↓reduceIte, reduceCtorEq, Nat.reduceEqDiff, Nat.reduceBEq, Nat.reduceAdd, Nat.reduceSub, Nat.reduceMul, Nat.reduceLT, Nat.reduceLeDiff, Nat.reduceBNe, Int.reduceBEq, Int.reduceBNe, Int.reduceLT, Int.reduceLE, Spn.a, Msg.a, Par.a, Nd.a, Seat.a, Cfg.a, t0, t1, t5, t6, t7, hjt', h1', hw, List.length_map]
      refine ⟨l.length - (i + 1), by omega, i + 1, by omega, rfl, ?_, ?_, ?_, hr⟩
      · simp (maxSteps := 4000000) only [go_sem, ↓reduceIte, reduceCtorEq, Nat.reduceEqDiff, Nat.reduceBEq, Nat.reduceAdd, Nat.reduceSub, Nat.reduceMul, Nat.reduceLT, Nat.reduceLeDiff, Nat.reduceBNe, Int.reduceBEq, Int.reduceBNe, Int.reduceLT, Int.reduceLE, Spn.a, Msg.a, Par.a, Nd.a, Seat.a, Cfg.a, t0]
      · simp (maxSteps := 4000000) only [go_sem, ↓reduceIte, reduceCtorEq, Nat.reduceEqDiff, Nat.reduceBEq, Nat.reduceAdd, Nat.reduceSub, Nat.reduceMul, Nat.reduceLT, Nat.reduceLeDiff, Nat.reduceBNe, Int.reduceBEq, Int.reduceBNe, Int.reduceLT, Int.reduceLE, Spn.a, Msg.a, Par.a, Nd.a, Seat.a, Cfg.a, t1]
      · simp (maxSteps := 4000000) only [go_sem, ↓reduceIte, reduceCtorEq, Nat.reduceEqDiff, Nat.reduceBEq, Nat.reduceAdd, Nat.reduceSub, Nat.reduceMul, Nat.reduceLT, Nat.reduceLeDiff, Nat.reduceBNe, Int.reduceBEq, Int.reduceBNe, Int.reduceLT, Int.reduceLE, Spn.a, Msg.a, Par.a, Nd.a, Seat.a, Cfg.a, hw]
    · have h1' : ((n : Int) != 1) = true := by simp; omega
      have h2 : (slotN s nd.slot == 1) = false := by rw [← hc']; simp [h1]
      rw [h2, Bool.false_and] at hr
      subst hr
      simp (maxSteps := 4000000) only [go_sem, ↓reduceIte, reduceCtorEq, Nat.reduceEqDiff, Nat.reduceBEq, Nat.reduceAdd, Nat.reduceSub, Nat.reduceMul, Nat.reduceLT, Nat.reduceLeDiff, Nat.reduceBNe, Int.reduceBEq, Int.reduceBNe, Int.reduceLT, Int.reduceLE, Spn.a, Msg.a, Par.a, Nd.a, Seat.a, Cfg.a, t0, t1, t5, t6, t7, hjt', h1', List.length_map]
def lkInv (s : List Seat) (R : Bool) (k : Nat) (σ : St) : Prop :=
  ∃ i : Nat, i ≤ s.length ∧ k = s.length - i ∧ σ.T 0 = .sl (s.map Seat.a) ∧ σ.T 3 = .int .i64 i ∧ linkedB (s.drop i) = R
set_option maxHeartbeats 2000000 in
theorem linked_ok (s : List Seat) (hs : s.length ≤ 1000000) : AFn Try.prog 87 [.sl (s.map Seat.a)] (.bool (linkedB s)) := by
  refine fn_linked rfl ?_
  obtain ⟨R, hR⟩ : ∃ R, linkedB s = R := ⟨_, rfl⟩
  rw [hR]
  simp (maxSteps := 4000000) only [go_sem, ↓reduceIte, reduceCtorEq, Nat.reduceEqDiff, Nat.reduceBEq, Nat.reduceAdd, Nat.reduceSub, Nat.reduceMul, Nat.reduceLT, Nat.reduceLeDiff, Nat.reduceBNe, Int.reduceBEq, Int.reduceBNe, Int.reduceLT, Int.reduceLE, Spn.a, Msg.a, Par.a, Nd.a, Seat.a, Cfg.a]
  refine run_loop (lkInv s R) (k := s.length) ⟨0, by omega, rfl, rfl, rfl, hR⟩ ?_
  clear hR
  rintro k σ ⟨i, hi, rfl, t0, t3, hr⟩
  simp only [r_linked_l9]
  by_cases hlt : i < s.length
  case neg =>
    have hlt' : ¬ (i : Int) < (s.length : Int) := by omega
    rw [List.drop_eq_nil_of_le (by omega), linkedB] at hr
    subst hr
    simp (maxSteps := 4000000) only [go_sem, ↓reduceIte, reduceCtorEq, Nat.reduceEqDiff, Nat.reduceBEq, Nat.reduceAdd, Nat.reduceSub, Nat.reduceMul, Nat.reduceLT, Nat.reduceLeDiff, Nat.reduceBNe, Int.reduceBEq, Int.reduceBNe, Int.reduceLT, Int.reduceLE, Spn.a, Msg.a, Par.a, Nd.a, Seat.a, Cfg.a, t0, t3, hlt', List.length_map]
  have hlt' : (i : Int) < (s.length : Int) := by omega
  obtain ⟨x, hx⟩ := get_lt hlt
  have hgx := at_map (f := Seat.a) hx
  simp only [Seat.a] at hgx
  have hw := wrapS (j := i) (by omega)
  rw [drop_at hx, linkedB] at hr
  have fin : ∀ w : Int, wantR (x :: s.drop (i + 1)) = w → (x.n.right != w) = !decide (x.n.right = wantR (x :: s.drop (i + 1))) := by
    rintro w rfl
    by_cases h : x.n.right = wantR (x :: s.drop (i + 1))
    · rw [decide_eq_true h, ← h]; simp
    · rw [decide_eq_false h]; simp [h]
  by_cases hn : i + 1 < s.length
  · have hn' : ((i + 1 : Nat) : Int) < (s.length : Int) := by omega
    obtain ⟨y, hy⟩ := get_lt hn
    have hgy := at_map (f := Seat.a) hy
    simp only [Seat.a] at hgy
    have hwant : wantR (x :: s.drop (i + 1)) = if y.n.level = x.n.level then y.n.slot else -1 := by rw [drop_at hy]; rfl
    cases he : (y.n.level == x.n.level)
    · have hne : ¬ y.n.level = x.n.level := by simpa using he
      rw [if_neg hne] at hwant
      have hf := fin _ hwant
      generalize decide (x.n.right = wantR (x :: s.drop (i + 1))) = b at *
      cases b
      · rw [Bool.false_and] at hr
        subst hr
        simp (maxSteps := 4000000) only [go_sem, ↓reduceIte, reduceCtorEq, Nat.reduceEqDiff, Nat.reduceBEq, Nat.reduceAdd, Nat.reduceSub, Nat.reduceMul, Nat.reduceLT, Nat.reduceLeDiff, Nat.reduceBNe, Int.reduceBEq, Int.reduceBNe, Int.reduceLT, Int.reduceLE, Spn.a, Msg.a, Par.a, Nd.a, Seat.a, Cfg.a, t0, t3, hlt', hn', hgx, hgy, he, hf, hw, List.length_map, Int.toNat_natCast]
        all_goals omega
      · rw [Bool.true_and] at hr
        simp (maxSteps := 4000000) only [go_sem, ↓reduceIte, reduceCtorEq, Nat.reduceEqDiff, Nat.reduceBEq, Nat.reduceAdd, Nat.reduceSub, Nat.reduceMul, Nat.reduceLT, Nat.reduceLeDiff, Nat.reduceBNe, Int.reduceBEq, Int.reduceBNe, Int.reduceLT, Int.reduceLE, Spn.a, Msg.a, Par.a, Nd.a, Seat.a, Cfg.a, t0, t3, hlt', hn', hgx, hgy, he, hf, hw, List.length_map, Int.toNat_natCast]
        (repeat refine And.intro (by omega) ?_)
        refine ⟨s.length - (i + 1), by omega, i + 1, by omega, rfl, ?_, ?_, hr⟩
        · simp (maxSteps := 4000000) only [go_sem, ↓reduceIte, reduceCtorEq, Nat.reduceEqDiff, Nat.reduceBEq, Nat.reduceAdd, Nat.reduceSub, Nat.reduceMul, Nat.reduceLT, Nat.reduceLeDiff, Nat.reduceBNe, Int.reduceBEq, Int.reduceBNe, Int.reduceLT, Int.reduceLE, Spn.a, Msg.a, Par.a, Nd.a, Seat.a, Cfg.a, t0]
        · simp (maxSteps := 4000000) only [go_sem, ↓reduceIte, reduceCtorEq, Nat.reduceEqDiff, Nat.reduceBEq, Nat.reduceAdd, Nat.reduceSub, Nat.reduceMul, Nat.reduceLT, Nat.reduceLeDiff, Nat.reduceBNe, Int.reduceBEq, Int.reduceBNe, Int.reduceLT, Int.reduceLE, Spn.a, Msg.a, Par.a, Nd.a, Seat.a, Cfg.a, hw]
    · have hne : y.n.level = x.n.level := by simpa using he
      rw [if_pos hne] at hwant
      have hf := fin _ hwant
      generalize decide (x.n.right = wantR (x :: s.drop (i + 1))) = b at *
      cases b
      · rw [Bool.false_and] at hr
        subst hr
        simp (maxSteps := 4000000) only [go_sem, ↓reduceIte, reduceCtorEq, Nat.reduceEqDiff, Nat.reduceBEq, Nat.reduceAdd, Nat.reduceSub, Nat.reduceMul, Nat.reduceLT, Nat.reduceLeDiff, Nat.reduceBNe, Int.reduceBEq, Int.reduceBNe, Int.reduceLT, Int.reduceLE, Spn.a, Msg.a, Par.a, Nd.a, Seat.a, Cfg.a, t0, t3, hlt', hn', hgx, hgy, he, hf, hw, List.length_map, Int.toNat_natCast]
        all_goals omega
      · rw [Bool.true_and] at hr
        simp (maxSteps := 4000000) only [go_sem, ↓reduceIte, reduceCtorEq, Nat.reduceEqDiff, Nat.reduceBEq, Nat.reduceAdd, Nat.reduceSub, Nat.reduceMul, Nat.reduceLT, Nat.reduceLeDiff, Nat.reduceBNe, Int.reduceBEq, Int.reduceBNe, Int.reduceLT, Int.reduceLE, Spn.a, Msg.a, Par.a, Nd.a, Seat.a, Cfg.a, t0, t3, hlt', hn', hgx, hgy, he, hf, hw, List.length_map, Int.toNat_natCast]
        (repeat refine And.intro (by omega) ?_)
        refine ⟨s.length - (i + 1), by omega, i + 1, by omega, rfl, ?_, ?_, hr⟩
        · simp (maxSteps := 4000000) only [go_sem, ↓reduceIte, reduceCtorEq, Nat.reduceEqDiff, Nat.reduceBEq, Nat.reduceAdd, Nat.reduceSub, Nat.reduceMul, Nat.reduceLT, Nat.reduceLeDiff, Nat.reduceBNe, Int.reduceBEq, Int.reduceBNe, Int.reduceLT, Int.reduceLE, Spn.a, Msg.a, Par.a, Nd.a, Seat.a, Cfg.a, t0]
        · simp (maxSteps := 4000000) only [go_sem, ↓reduceIte, reduceCtorEq, Nat.reduceEqDiff, Nat.reduceBEq, Nat.reduceAdd, Nat.reduceSub, Nat.reduceMul, Nat.reduceLT, Nat.reduceLeDiff, Nat.reduceBNe, Int.reduceBEq, Int.reduceBNe, Int.reduceLT, Int.reduceLE, Spn.a, Msg.a, Par.a, Nd.a, Seat.a, Cfg.a, hw]
  · have hn' : ¬ ((i + 1 : Nat) : Int) < (s.length : Int) := by omega
    have hwant : wantR (x :: s.drop (i + 1)) = -1 := by rw [List.drop_eq_nil_of_le (by omega)]; rfl
    have hf := fin _ hwant
    generalize decide (x.n.right = wantR (x :: s.drop (i + 1))) = b at *
    cases b
    · rw [Bool.false_and] at hr
      subst hr
      simp (maxSteps := 4000000) only [go_sem, ↓reduceIte, reduceCtorEq, Nat.reduceEqDiff, Nat.reduceBEq, Nat.reduceAdd, Nat.reduceSub, Nat.reduceMul, Nat.reduceLT, Nat.reduceLeDiff, Nat.reduceBNe, Int.reduceBEq, Int.reduceBNe, Int.reduceLT, Int.reduceLE, Spn.a, Msg.a, Par.a, Nd.a, Seat.a, Cfg.a, t0, t3, hlt', hn', hgx, hf, hw, List.length_map, Int.toNat_natCast]
      all_goals omega
    · rw [Bool.true_and] at hr
      simp (maxSteps := 4000000) only [go_sem, ↓reduceIte, reduceCtorEq, Nat.reduceEqDiff, Nat.reduceBEq, Nat.reduceAdd, Nat.reduceSub, Nat.reduceMul, Nat.reduceLT, Nat.reduceLeDiff, Nat.reduceBNe, Int.reduceBEq, Int.reduceBNe, Int.reduceLT, Int.reduceLE, Spn.a, Msg.a, Par.a, Nd.a, Seat.a, Cfg.a, t0, t3, hlt', hn', hgx, hf, hw, List.length_map, Int.toNat_natCast]
      (repeat refine And.intro (by omega) ?_)
      refine ⟨s.length - (i + 1), by omega, i + 1, by omega, rfl, ?_, ?_, hr⟩
      · simp (maxSteps := 4000000) only [go_sem, ↓reduceIte, reduceCtorEq, Nat.reduceEqDiff, Nat.reduceBEq, Nat.reduceAdd, Nat.reduceSub, Nat.reduceMul, Nat.reduceLT, Nat.reduceLeDiff, Nat.reduceBNe, Int.reduceBEq, Int.reduceBNe, Int.reduceLT, Int.reduceLE, Spn.a, Msg.a, Par.a, Nd.a, Seat.a, Cfg.a, t0]
      · simp (maxSteps := 4000000) only [go_sem, ↓reduceIte, reduceCtorEq, Nat.reduceEqDiff, Nat.reduceBEq, Nat.reduceAdd, Nat.reduceSub, Nat.reduceMul, Nat.reduceLT, Nat.reduceLeDiff, Nat.reduceBNe, Int.reduceBEq, Int.reduceBNe, Int.reduceLT, Int.reduceLE, Spn.a, Msg.a, Par.a, Nd.a, Seat.a, Cfg.a, hw]
def hasN (n : Nd) (k : ByteArray) : Bool := n.top || lt k n.high
theorem has21_ok (n : Nd) (k : ByteArray) (h1 : n.high.size ≤ 9223372036854775807) (h2 : k.size ≤ 9223372036854775807) : AFn Try.prog 152 [n.a, .str k] (.bool (hasN n k)) := by
  refine fn_has21 rfl ?_
  have cl := refLess k n.high h2 h1
  unfold hasN
  obtain ⟨slot, level, pivots, kids, high, top, right, seen, msgs, rows⟩ := n
  simp only at cl ⊢
  generalize lt k high = b at *
  cases top
  · (repeat (first | simp (maxSteps := 4000000) only [go_sem, ↓reduceIte, reduceCtorEq, Nat.reduceEqDiff, Nat.reduceBEq, Nat.reduceAdd, Nat.reduceSub, Nat.reduceMul, Nat.reduceLT, Nat.reduceLeDiff, Nat.reduceBNe, Int.reduceBEq, Int.reduceBNe, Int.reduceLT, Int.reduceLE, Spn.a, Msg.a, Par.a, Nd.a, Seat.a, Cfg.a] | refine calling (cl) ?_ | refine callingH (cl) ?_ | refine And.intro (by omega) ?_ | refine And.intro (fun d hd => by (repeat (rcases hd with rfl | hd; · exact ⟨rfl, rfl⟩)); cases hd) ?_))
    all_goals rfl
  · (repeat (first | simp (maxSteps := 4000000) only [go_sem, ↓reduceIte, reduceCtorEq, Nat.reduceEqDiff, Nat.reduceBEq, Nat.reduceAdd, Nat.reduceSub, Nat.reduceMul, Nat.reduceLT, Nat.reduceLeDiff, Nat.reduceBNe, Int.reduceBEq, Int.reduceBNe, Int.reduceLT, Int.reduceLE, Spn.a, Msg.a, Par.a, Nd.a, Seat.a, Cfg.a] | refine calling (cl) ?_ | refine callingH (cl) ?_ | refine And.intro (by omega) ?_ | refine And.intro (fun d hd => by (repeat (rcases hd with rfl | hd; · exact ⟨rfl, rfl⟩)); cases hd) ?_))
    all_goals rfl
def leafB (c : Cfg) (n : Nd) : Bool := decide (n.pivots.length + n.kids.length + n.msgs.length = 0) && decide ((n.rows.length : Int) ≤ c.leaf) && rightP n.rows && n.rows.all fun p => hasN n p.key
def lfInv (c : Cfg) (n : Nd) (R : Bool) (k : Nat) (σ : St) : Prop :=
  ∃ i : Nat, i ≤ n.rows.length ∧ k = n.rows.length - i ∧ σ.T 3 = .ptr 3 0 0 ∧ σ.H 3 = some ⟨10, 36, [n.a], 0⟩ ∧ σ.T 5 = .int .i64 i ∧ (n.rows.drop i).all (fun p => hasN n p.key) = R
set_option maxHeartbeats 2000000 in
theorem leaf21_ok (c : Cfg) (n : Nd) (hn : n.Lt) : AFn Try.prog 117 [c.a, n.a] (.bool (leafB c n)) := by
  refine fn_leaf21 rfl ?_
  have h1 := hn.npiv
  have h2 := hn.nkid
  have h3 := hn.nmsg
  have h4 := hn.nrow
  have c9 := rRight9_ok n.rows (by omega) (fun p hp => by have := (hn.rows p hp).1; omega)
  have hrow := hn.rows
  have hhi := hn.high
  unfold leafB
  have hw1 : IntKind.i64.wrap ((n.pivots.length : Int) + (n.kids.length : Int)) = ((n.pivots.length + n.kids.length : Nat) : Int) := by rw [IntWalk.i64_in _ (by omega)]; omega
  have hw2 : IntKind.i64.wrap (((n.pivots.length + n.kids.length : Nat) : Int) + (n.msgs.length : Int)) = ((n.pivots.length + n.kids.length + n.msgs.length : Nat) : Int) := by rw [IntWalk.i64_in _ (by omega)]; omega
  obtain ⟨R, hR⟩ : ∃ R, n.rows.all (fun p => hasN n p.key) = R := ⟨_, rfl⟩
  rw [hR]
  by_cases hz : n.pivots.length + n.kids.length + n.msgs.length = 0
  case neg =>
    have hz' : (0 : Int) < ((n.pivots.length + n.kids.length + n.msgs.length : Nat) : Int) := by omega
    rw [decide_eq_false hz]
    (repeat (first | simp (maxSteps := 4000000) only [go_sem, ↓reduceIte, reduceCtorEq, Nat.reduceEqDiff, Nat.reduceBEq, Nat.reduceAdd, Nat.reduceSub, Nat.reduceMul, Nat.reduceLT, Nat.reduceLeDiff, Nat.reduceBNe, Int.reduceBEq, Int.reduceBNe, Int.reduceLT, Int.reduceLE, Spn.a, Msg.a, Par.a, Nd.a, Seat.a, Cfg.a, List.length_map, hw1, hw2, hz'] | refine calling (c9) ?_ | refine callingH (c9) ?_ | refine And.intro (by omega) ?_ | refine And.intro (fun d hd => by (repeat (rcases hd with rfl | hd; · exact ⟨rfl, rfl⟩)); cases hd) ?_))
  have hz' : ¬ (0 : Int) < ((n.pivots.length + n.kids.length + n.msgs.length : Nat) : Int) := by omega
  rw [decide_eq_true hz]
  by_cases hl : (n.rows.length : Int) ≤ c.leaf
  case neg =>
    have hl' : c.leaf < (n.rows.length : Int) := by omega
    rw [decide_eq_false hl]
    (repeat (first | simp (maxSteps := 4000000) only [go_sem, ↓reduceIte, reduceCtorEq, Nat.reduceEqDiff, Nat.reduceBEq, Nat.reduceAdd, Nat.reduceSub, Nat.reduceMul, Nat.reduceLT, Nat.reduceLeDiff, Nat.reduceBNe, Int.reduceBEq, Int.reduceBNe, Int.reduceLT, Int.reduceLE, Spn.a, Msg.a, Par.a, Nd.a, Seat.a, Cfg.a, List.length_map, hw1, hw2, hz', hl'] | refine calling (c9) ?_ | refine callingH (c9) ?_ | refine And.intro (by omega) ?_ | refine And.intro (fun d hd => by (repeat (rcases hd with rfl | hd; · exact ⟨rfl, rfl⟩)); cases hd) ?_))
  have hl' : ¬ c.leaf < (n.rows.length : Int) := by omega
  rw [decide_eq_true hl]
  generalize rightP n.rows = br at *
  cases br
  · (repeat (first | simp (maxSteps := 4000000) only [go_sem, ↓reduceIte, reduceCtorEq, Nat.reduceEqDiff, Nat.reduceBEq, Nat.reduceAdd, Nat.reduceSub, Nat.reduceMul, Nat.reduceLT, Nat.reduceLeDiff, Nat.reduceBNe, Int.reduceBEq, Int.reduceBNe, Int.reduceLT, Int.reduceLE, Spn.a, Msg.a, Par.a, Nd.a, Seat.a, Cfg.a, List.length_map, hw1, hw2, hz', hl'] | refine calling (c9) ?_ | refine callingH (c9) ?_ | refine And.intro (by omega) ?_ | refine And.intro (fun d hd => by (repeat (rcases hd with rfl | hd; · exact ⟨rfl, rfl⟩)); cases hd) ?_))
  (repeat (first | simp (maxSteps := 4000000) only [go_sem, ↓reduceIte, reduceCtorEq, Nat.reduceEqDiff, Nat.reduceBEq, Nat.reduceAdd, Nat.reduceSub, Nat.reduceMul, Nat.reduceLT, Nat.reduceLeDiff, Nat.reduceBNe, Int.reduceBEq, Int.reduceBNe, Int.reduceLT, Int.reduceLE, Spn.a, Msg.a, Par.a, Nd.a, Seat.a, Cfg.a, List.length_map, hw1, hw2, hz', hl'] | refine calling (c9) ?_ | refine callingH (c9) ?_ | refine And.intro (by omega) ?_ | refine And.intro (fun d hd => by (repeat (rcases hd with rfl | hd; · exact ⟨rfl, rfl⟩)); cases hd) ?_))
  refine run_loop (lfInv c n R) (k := n.rows.length) ⟨0, by omega, rfl, ?_, ?_, ?_, hR⟩ ?_
  · simp (maxSteps := 4000000) only [go_sem, ↓reduceIte, reduceCtorEq, Nat.reduceEqDiff, Nat.reduceBEq, Nat.reduceAdd, Nat.reduceSub, Nat.reduceMul, Nat.reduceLT, Nat.reduceLeDiff, Nat.reduceBNe, Int.reduceBEq, Int.reduceBNe, Int.reduceLT, Int.reduceLE, Spn.a, Msg.a, Par.a, Nd.a, Seat.a, Cfg.a]
  · simp (maxSteps := 4000000) only [go_sem, ↓reduceIte, reduceCtorEq, Nat.reduceEqDiff, Nat.reduceBEq, Nat.reduceAdd, Nat.reduceSub, Nat.reduceMul, Nat.reduceLT, Nat.reduceLeDiff, Nat.reduceBNe, Int.reduceBEq, Int.reduceBNe, Int.reduceLT, Int.reduceLE, Spn.a, Msg.a, Par.a, Nd.a, Seat.a, Cfg.a]
  · (simp (maxSteps := 4000000) only [go_sem, ↓reduceIte, reduceCtorEq, Nat.reduceEqDiff, Nat.reduceBEq, Nat.reduceAdd, Nat.reduceSub, Nat.reduceMul, Nat.reduceLT, Nat.reduceLeDiff, Nat.reduceBNe, Int.reduceBEq, Int.reduceBNe, Int.reduceLT, Int.reduceLE, Spn.a, Msg.a, Par.a, Nd.a, Seat.a, Cfg.a]) <;> rfl
  clear hR c9
  rintro k σ ⟨i, hi, rfl, t3, hh3, t5, hr⟩
  simp only [r_leaf21_l8]
  simp only [Nd.a] at hh3
  by_cases hlt : i < n.rows.length
  case neg =>
    have hlt' : ¬ (i : Int) < (n.rows.length : Int) := by omega
    rw [List.drop_eq_nil_of_le (by omega), List.all_nil] at hr
    subst hr
    simp (maxSteps := 4000000) only [go_sem, ↓reduceIte, reduceCtorEq, Nat.reduceEqDiff, Nat.reduceBEq, Nat.reduceAdd, Nat.reduceSub, Nat.reduceMul, Nat.reduceLT, Nat.reduceLeDiff, Nat.reduceBNe, Int.reduceBEq, Int.reduceBNe, Int.reduceLT, Int.reduceLE, Spn.a, Msg.a, Par.a, Nd.a, Seat.a, Cfg.a, t3, hh3, t5, hlt', List.length_map]
  have hlt' : (i : Int) < (n.rows.length : Int) := by omega
  obtain ⟨p, hx⟩ := get_lt hlt
  have hgx := at_map (f := Par.a) hx
  simp only [Par.a] at hgx
  have hw := wrapS (j := i) (by omega)
  have ch := has21_ok n p.key (by omega) (by have := (hrow p (List.mem_of_getElem? hx)).1; omega)
  rw [drop_at hx, List.all_cons] at hr
  generalize hasN n p.key = b at *
  cases b
  · rw [Bool.false_and] at hr
    subst hr
    (repeat (first | simp (maxSteps := 4000000) only [go_sem, ↓reduceIte, reduceCtorEq, Nat.reduceEqDiff, Nat.reduceBEq, Nat.reduceAdd, Nat.reduceSub, Nat.reduceMul, Nat.reduceLT, Nat.reduceLeDiff, Nat.reduceBNe, Int.reduceBEq, Int.reduceBNe, Int.reduceLT, Int.reduceLE, Spn.a, Msg.a, Par.a, Nd.a, Seat.a, Cfg.a, t3, hh3, t5, hlt', hgx, hw, List.length_map, Int.toNat_natCast] | refine calling (ch) ?_ | refine callingH (ch) ?_ | refine And.intro (by omega) ?_ | refine And.intro (fun d hd => by (repeat (rcases hd with rfl | hd; · exact ⟨rfl, rfl⟩)); cases hd) ?_))
    all_goals omega
  · rw [Bool.true_and] at hr
    (repeat (first | simp (maxSteps := 4000000) only [go_sem, ↓reduceIte, reduceCtorEq, Nat.reduceEqDiff, Nat.reduceBEq, Nat.reduceAdd, Nat.reduceSub, Nat.reduceMul, Nat.reduceLT, Nat.reduceLeDiff, Nat.reduceBNe, Int.reduceBEq, Int.reduceBNe, Int.reduceLT, Int.reduceLE, Spn.a, Msg.a, Par.a, Nd.a, Seat.a, Cfg.a, t3, hh3, t5, hlt', hgx, hw, List.length_map, Int.toNat_natCast] | refine calling (ch) ?_ | refine callingH (ch) ?_ | refine And.intro (by omega) ?_ | refine And.intro (fun d hd => by (repeat (rcases hd with rfl | hd; · exact ⟨rfl, rfl⟩)); cases hd) ?_))
    refine ⟨n.rows.length - (i + 1), by omega, i + 1, by omega, rfl, ?_, ?_, ?_, hr⟩
    · simp (maxSteps := 4000000) only [go_sem, ↓reduceIte, reduceCtorEq, Nat.reduceEqDiff, Nat.reduceBEq, Nat.reduceAdd, Nat.reduceSub, Nat.reduceMul, Nat.reduceLT, Nat.reduceLeDiff, Nat.reduceBNe, Int.reduceBEq, Int.reduceBNe, Int.reduceLT, Int.reduceLE, Spn.a, Msg.a, Par.a, Nd.a, Seat.a, Cfg.a, t3]
    · simp (maxSteps := 4000000) only [go_sem, ↓reduceIte, reduceCtorEq, Nat.reduceEqDiff, Nat.reduceBEq, Nat.reduceAdd, Nat.reduceSub, Nat.reduceMul, Nat.reduceLT, Nat.reduceLeDiff, Nat.reduceBNe, Int.reduceBEq, Int.reduceBNe, Int.reduceLT, Int.reduceLE, Spn.a, Msg.a, Par.a, Nd.a, Seat.a, Cfg.a, hh3]
    · simp (maxSteps := 4000000) only [go_sem, ↓reduceIte, reduceCtorEq, Nat.reduceEqDiff, Nat.reduceBEq, Nat.reduceAdd, Nat.reduceSub, Nat.reduceMul, Nat.reduceLT, Nat.reduceLeDiff, Nat.reduceBNe, Int.reduceBEq, Int.reduceBNe, Int.reduceLT, Int.reduceLE, Spn.a, Msg.a, Par.a, Nd.a, Seat.a, Cfg.a, hw]
/-- may numbers be a tree's? -/
def cfgB (c : Cfg) : Bool := decide (4 ≤ c.fanout ∧ c.fanout ≤ 64 ∧ 2 ≤ c.leaf ∧ c.leaf ≤ 64 ∧ 36 ≤ c.budget ∧ c.budget ≤ 4096 ∧ 1 ≤ c.slots ∧ c.slots ≤ 4096 ∧ 0 ≤ c.restarts ∧ c.restarts ≤ 100)
theorem right25_ok (c : Cfg) : AFn Try.prog 48 [c.a] (.bool (cfgB c)) := by
  refine fn_right25 rfl ?_
  unfold cfgB
  obtain ⟨f, l, b, s, r⟩ := c
  simp only
  by_cases h1 : 4 ≤ f
  case neg => rw [decide_eq_false (fun h => h1 h.1)]; simp (maxSteps := 4000000) only [go_sem, ↓reduceIte, reduceCtorEq, Nat.reduceEqDiff, Nat.reduceBEq, Nat.reduceAdd, Nat.reduceSub, Nat.reduceMul, Nat.reduceLT, Nat.reduceLeDiff, Nat.reduceBNe, Int.reduceBEq, Int.reduceBNe, Int.reduceLT, Int.reduceLE, Spn.a, Msg.a, Par.a, Nd.a, Seat.a, Cfg.a, h1]
  by_cases h2 : f ≤ 64
  case neg => rw [decide_eq_false (fun h => h2 h.2.1)]; simp (maxSteps := 4000000) only [go_sem, ↓reduceIte, reduceCtorEq, Nat.reduceEqDiff, Nat.reduceBEq, Nat.reduceAdd, Nat.reduceSub, Nat.reduceMul, Nat.reduceLT, Nat.reduceLeDiff, Nat.reduceBNe, Int.reduceBEq, Int.reduceBNe, Int.reduceLT, Int.reduceLE, Spn.a, Msg.a, Par.a, Nd.a, Seat.a, Cfg.a, h1, h2]
  by_cases h3 : 2 ≤ l
  case neg => rw [decide_eq_false (fun h => h3 h.2.2.1)]; simp (maxSteps := 4000000) only [go_sem, ↓reduceIte, reduceCtorEq, Nat.reduceEqDiff, Nat.reduceBEq, Nat.reduceAdd, Nat.reduceSub, Nat.reduceMul, Nat.reduceLT, Nat.reduceLeDiff, Nat.reduceBNe, Int.reduceBEq, Int.reduceBNe, Int.reduceLT, Int.reduceLE, Spn.a, Msg.a, Par.a, Nd.a, Seat.a, Cfg.a, h1, h2, h3]
  by_cases h4 : l ≤ 64
  case neg => rw [decide_eq_false (fun h => h4 h.2.2.2.1)]; simp (maxSteps := 4000000) only [go_sem, ↓reduceIte, reduceCtorEq, Nat.reduceEqDiff, Nat.reduceBEq, Nat.reduceAdd, Nat.reduceSub, Nat.reduceMul, Nat.reduceLT, Nat.reduceLeDiff, Nat.reduceBNe, Int.reduceBEq, Int.reduceBNe, Int.reduceLT, Int.reduceLE, Spn.a, Msg.a, Par.a, Nd.a, Seat.a, Cfg.a, h1, h2, h3, h4]
  by_cases h5 : 36 ≤ b
  case neg => rw [decide_eq_false (fun h => h5 h.2.2.2.2.1)]; simp (maxSteps := 4000000) only [go_sem, ↓reduceIte, reduceCtorEq, Nat.reduceEqDiff, Nat.reduceBEq, Nat.reduceAdd, Nat.reduceSub, Nat.reduceMul, Nat.reduceLT, Nat.reduceLeDiff, Nat.reduceBNe, Int.reduceBEq, Int.reduceBNe, Int.reduceLT, Int.reduceLE, Spn.a, Msg.a, Par.a, Nd.a, Seat.a, Cfg.a, h1, h2, h3, h4, h5]
  by_cases h6 : b ≤ 4096
  case neg => rw [decide_eq_false (fun h => h6 h.2.2.2.2.2.1)]; simp (maxSteps := 4000000) only [go_sem, ↓reduceIte, reduceCtorEq, Nat.reduceEqDiff, Nat.reduceBEq, Nat.reduceAdd, Nat.reduceSub, Nat.reduceMul, Nat.reduceLT, Nat.reduceLeDiff, Nat.reduceBNe, Int.reduceBEq, Int.reduceBNe, Int.reduceLT, Int.reduceLE, Spn.a, Msg.a, Par.a, Nd.a, Seat.a, Cfg.a, h1, h2, h3, h4, h5, h6]
  by_cases h7 : 1 ≤ s
  case neg => rw [decide_eq_false (fun h => h7 h.2.2.2.2.2.2.1)]; simp (maxSteps := 4000000) only [go_sem, ↓reduceIte, reduceCtorEq, Nat.reduceEqDiff, Nat.reduceBEq, Nat.reduceAdd, Nat.reduceSub, Nat.reduceMul, Nat.reduceLT, Nat.reduceLeDiff, Nat.reduceBNe, Int.reduceBEq, Int.reduceBNe, Int.reduceLT, Int.reduceLE, Spn.a, Msg.a, Par.a, Nd.a, Seat.a, Cfg.a, h1, h2, h3, h4, h5, h6, h7]
  by_cases h8 : s ≤ 4096
  case neg => rw [decide_eq_false (fun h => h8 h.2.2.2.2.2.2.2.1)]; simp (maxSteps := 4000000) only [go_sem, ↓reduceIte, reduceCtorEq, Nat.reduceEqDiff, Nat.reduceBEq, Nat.reduceAdd, Nat.reduceSub, Nat.reduceMul, Nat.reduceLT, Nat.reduceLeDiff, Nat.reduceBNe, Int.reduceBEq, Int.reduceBNe, Int.reduceLT, Int.reduceLE, Spn.a, Msg.a, Par.a, Nd.a, Seat.a, Cfg.a, h1, h2, h3, h4, h5, h6, h7, h8]
  by_cases h9 : 0 ≤ r
  case neg => rw [decide_eq_false (fun h => h9 h.2.2.2.2.2.2.2.2.1)]; simp (maxSteps := 4000000) only [go_sem, ↓reduceIte, reduceCtorEq, Nat.reduceEqDiff, Nat.reduceBEq, Nat.reduceAdd, Nat.reduceSub, Nat.reduceMul, Nat.reduceLT, Nat.reduceLeDiff, Nat.reduceBNe, Int.reduceBEq, Int.reduceBNe, Int.reduceLT, Int.reduceLE, Spn.a, Msg.a, Par.a, Nd.a, Seat.a, Cfg.a, h1, h2, h3, h4, h5, h6, h7, h8, h9]
  by_cases h10 : r ≤ 100
  case neg => rw [decide_eq_false (fun h => h10 h.2.2.2.2.2.2.2.2.2)]; simp (maxSteps := 4000000) only [go_sem, ↓reduceIte, reduceCtorEq, Nat.reduceEqDiff, Nat.reduceBEq, Nat.reduceAdd, Nat.reduceSub, Nat.reduceMul, Nat.reduceLT, Nat.reduceLeDiff, Nat.reduceBNe, Int.reduceBEq, Int.reduceBNe, Int.reduceLT, Int.reduceLE, Spn.a, Msg.a, Par.a, Nd.a, Seat.a, Cfg.a, h1, h2, h3, h4, h5, h6, h7, h8, h9, h10]
  rw [decide_eq_true ⟨h1, h2, h3, h4, h5, h6, h7, h8, h9, h10⟩]
  simp (maxSteps := 4000000) only [go_sem, ↓reduceIte, reduceCtorEq, Nat.reduceEqDiff, Nat.reduceBEq, Nat.reduceAdd, Nat.reduceSub, Nat.reduceMul, Nat.reduceLT, Nat.reduceLeDiff, Nat.reduceBNe, Int.reduceBEq, Int.reduceBNe, Int.reduceLT, Int.reduceLE, Spn.a, Msg.a, Par.a, Nd.a, Seat.a, Cfg.a, h1, h2, h3, h4, h5, h6, h7, h8, h9, h10]
end
section
/-
  Trees of the document: inner nodes; whether a node may be: walked.
-/
open Go.RowKit
set_option linter.unusedVariables false
set_option linter.unusedSimpArgs false
set_option maxRecDepth 100000
attribute [local go_sem ↓] runOp headOp
/-! ### percolate/percolateref21.inner -/
def t_inner21_0 : List ROp := [⟨(.box 5 23 (.t 0)), (some 2), none, [3], []⟩, ⟨(.box 10 36 (.t 1)), (some 3), none, [], []⟩, ⟨(.mv (.c (.bool false))), (some 4), none, [], []⟩]
def r_inner21_0 : Reg := ⟨[], t_inner21_0, [2, 3], [], false⟩
def t_inner21_1 : List ROp := [⟨(.bin .gtr (.t 44) (.t 46)), (some 47), (some (41, false)), [], []⟩, ⟨(.pick (.t 41) (.c (.bool true)) (.t 47)), (some 48), none, [], []⟩]
def h_inner21_1 : List ROp := [⟨(.faddr 9 (.t 3)), (some 9), none, [32, 38, 44], []⟩, ⟨(.load 1 false (.t 9)), (some 10), none, [32, 38, 44], []⟩, ⟨(.len false (.t 10)), (some 11), none, [32, 38, 44], []⟩, ⟨(.bin .gtr (.t 11) (.c (.int .i64 0))), (some 12), none, [32, 38, 44], []⟩, ⟨(.mv (.t 12)), (some 13), none, [32, 38, 44], []⟩, ⟨(.faddr 3 (.t 3)), (some 14), (some (13, false)), [32, 38, 44], []⟩, ⟨(.load 1 false (.t 14)), (some 15), (some (13, false)), [32, 38, 44], []⟩, ⟨(.len false (.t 15)), (some 16), (some (13, false)), [32, 38, 44], []⟩, ⟨(.bin .lss (.t 16) (.c (.int .i64 2))), (some 17), (some (13, false)), [32, 38, 44], []⟩, ⟨(.pick (.t 13) (.c (.bool true)) (.t 17)), (some 18), none, [32, 38, 44], []⟩, ⟨(.mv (.t 18)), (some 19), none, [32, 38, 44], []⟩, ⟨(.faddr 3 (.t 3)), (some 20), (some (19, false)), [32, 38, 44], []⟩, ⟨(.load 1 false (.t 20)), (some 21), (some (19, false)), [32, 38, 44], []⟩, ⟨(.len false (.t 21)), (some 22), (some (19, false)), [32, 38, 44], []⟩, ⟨(.faddr 0 (.t 2)), (some 23), (some (19, false)), [32, 38, 44], []⟩, ⟨(.load 1 false (.t 23)), (some 24), (some (19, false)), [32, 38, 44], []⟩, ⟨(.bin .gtr (.t 22) (.t 24)), (some 25), (some (19, false)), [32, 38, 44], []⟩, ⟨(.pick (.t 19) (.c (.bool true)) (.t 25)), (some 26), none, [32, 38, 44], []⟩, ⟨(.mv (.t 26)), (some 27), none, [32, 38, 44], []⟩, ⟨(.faddr 2 (.t 3)), (some 28), (some (27, false)), [32, 38, 44], []⟩, ⟨(.load 1 false (.t 28)), (some 29), (some (27, false)), [32, 38, 44], []⟩, ⟨(.faddr 3 (.t 3)), (some 30), (some (27, false)), [32, 38, 44], []⟩, ⟨(.load 1 false (.t 30)), (some 31), (some (27, false)), [32, 38, 44], []⟩, ⟨(.callv (.c (.clo 53 [] [])) [(.t 29), (.t 31)]), (some 32), (some (27, false)), [38, 44], []⟩, ⟨(.un .not (.t 32)), (some 33), (some (27, false)), [38, 44], []⟩, ⟨(.pick (.t 27) (.c (.bool true)) (.t 33)), (some 34), none, [38, 44], []⟩, ⟨(.mv (.t 34)), (some 35), none, [38, 44], []⟩, ⟨(.faddr 8 (.t 3)), (some 36), (some (35, false)), [38, 44], []⟩, ⟨(.load 1 false (.t 36)), (some 37), (some (35, false)), [38, 44], []⟩, ⟨(.callv (.c (.clo 153 [] [])) [(.t 37)]), (some 38), (some (35, false)), [44], []⟩, ⟨(.un .not (.t 38)), (some 39), (some (35, false)), [44], []⟩, ⟨(.pick (.t 35) (.c (.bool true)) (.t 39)), (some 40), none, [44], []⟩, ⟨(.mv (.t 40)), (some 41), none, [44], []⟩, ⟨(.faddr 8 (.t 3)), (some 42), (some (41, false)), [44], []⟩, ⟨(.load 1 false (.t 42)), (some 43), (some (41, false)), [44], []⟩, ⟨(.callv (.c (.clo 154 [] [])) [(.t 43)]), (some 44), (some (41, false)), [], []⟩, ⟨(.faddr 2 (.t 2)), (some 45), (some (41, false)), [44], []⟩, ⟨(.load 1 false (.t 45)), (some 46), (some (41, false)), [44], []⟩]
def r_inner21_1 : Reg := ⟨h_inner21_1, t_inner21_1, [32, 38, 44], [], true⟩
def r_inner21_2 : Reg := ⟨[], [⟨(.mv (.c (.bool false))), (some 4), none, [], []⟩], [], [], false⟩
def r_inner21_3 : Reg := ⟨[], [⟨(.mv (.c (.int .i64 0))), (some 5), none, [], []⟩], [], [], false⟩
def t_inner21_4 : List ROp := [⟨(.mv (.t 5)), (some 49), none, [], []⟩, ⟨(.faddr 3 (.t 3)), (some 50), none, [], []⟩, ⟨(.load 1 false (.t 50)), (some 51), none, [], []⟩, ⟨(.len false (.t 51)), (some 52), none, [], []⟩, ⟨(.bin .lss (.t 49) (.t 52)), (some 53), none, [], []⟩]
def r_inner21_4 : Reg := ⟨[], t_inner21_4, [], [], false⟩
def t_inner21_5 : List ROp := [⟨(.faddr 3 (.t 3)), (some 56), none, [], []⟩, ⟨(.load 1 false (.t 56)), (some 57), none, [], []⟩, ⟨(.mv (.t 5)), (some 58), none, [], []⟩, ⟨(.iaddr 1 (.t 57) (.t 58)), (some 59), none, [], []⟩, ⟨(.load 1 false (.t 59)), (some 60), none, [], []⟩, ⟨(.bin .lss (.t 60) (.c (.int .i64 0))), (some 61), none, [], []⟩]
def r_inner21_5 : Reg := ⟨[], t_inner21_5, [], [], false⟩
def r_inner21_6 : Reg := ⟨[], [⟨(.mv (.c (.bool false))), (some 4), none, [], []⟩], [], [], false⟩
def t_inner21_7 : List ROp := [⟨(.mv (.t 5)), (some 54), none, [], []⟩, ⟨(.bin .add (.t 54) (.c (.int .i64 1))), (some 55), none, [], []⟩, ⟨(.mv (.t 55)), (some 5), none, [], []⟩]
def r_inner21_7 : Reg := ⟨[], t_inner21_7, [], [], false⟩
def r_inner21_l8 : IR := (.seq (.seq (.reg r_inner21_4)
  (.cond (.t 53) .skip
  (.exit 0)))
  (.seq (.block 1 (.seq (.reg r_inner21_5)
  (.cond (.t 61) (.seq (.reg r_inner21_6)
  .ret)
  .skip)))
  (.reg r_inner21_7)))
def r_inner21_9 : Reg := ⟨[], [⟨(.mv (.c (.int .i64 0))), (some 6), none, [], []⟩], [], [], false⟩
def t_inner21_10 : List ROp := [⟨(.mv (.t 6)), (some 62), none, [], []⟩, ⟨(.faddr 2 (.t 3)), (some 63), none, [], []⟩, ⟨(.load 1 false (.t 63)), (some 64), none, [], []⟩, ⟨(.len false (.t 64)), (some 65), none, [], []⟩, ⟨(.bin .lss (.t 62) (.t 65)), (some 66), none, [], []⟩]
def r_inner21_10 : Reg := ⟨[], t_inner21_10, [], [], false⟩
def t_inner21_11 : List ROp := [⟨(.callv (.c (.clo 152 [] [])) [(.t 85), (.t 90)]), (some 91), (some (84, false)), [], []⟩, ⟨(.un .not (.t 91)), (some 92), (some (84, false)), [], []⟩, ⟨(.pick (.t 84) (.c (.bool true)) (.t 92)), (some 93), none, [], []⟩]
def h_inner21_11 : List ROp := [⟨(.faddr 2 (.t 3)), (some 69), none, [91], []⟩, ⟨(.load 1 false (.t 69)), (some 70), none, [91], []⟩, ⟨(.mv (.t 6)), (some 71), none, [91], []⟩, ⟨(.iaddr 1 (.t 70) (.t 71)), (some 72), none, [91], []⟩, ⟨(.load 1 false (.t 72)), (some 73), none, [91], []⟩, ⟨(.bin .eql (.t 73) (.c (.str ⟨#[]⟩))), (some 74), none, [91], []⟩, ⟨(.mv (.t 74)), (some 75), none, [91], []⟩, ⟨(.faddr 2 (.t 3)), (some 76), (some (75, false)), [91], []⟩, ⟨(.load 1 false (.t 76)), (some 77), (some (75, false)), [91], []⟩, ⟨(.mv (.t 6)), (some 78), (some (75, false)), [91], []⟩, ⟨(.iaddr 1 (.t 77) (.t 78)), (some 79), (some (75, false)), [91], []⟩, ⟨(.load 1 false (.t 79)), (some 80), (some (75, false)), [91], []⟩, ⟨(.len true (.t 80)), (some 81), (some (75, false)), [91], []⟩, ⟨(.bin .gtr (.t 81) (.c (.int .i64 16))), (some 82), (some (75, false)), [91], []⟩, ⟨(.pick (.t 75) (.c (.bool true)) (.t 82)), (some 83), none, [91], []⟩, ⟨(.mv (.t 83)), (some 84), none, [91], []⟩, ⟨(.load 10 true (.t 3)), (some 85), (some (84, false)), [91], []⟩, ⟨(.faddr 2 (.t 3)), (some 86), (some (84, false)), [91], []⟩, ⟨(.load 1 false (.t 86)), (some 87), (some (84, false)), [91], []⟩, ⟨(.mv (.t 6)), (some 88), (some (84, false)), [91], []⟩, ⟨(.iaddr 1 (.t 87) (.t 88)), (some 89), (some (84, false)), [91], []⟩, ⟨(.load 1 false (.t 89)), (some 90), (some (84, false)), [91], []⟩]
def r_inner21_11 : Reg := ⟨h_inner21_11, t_inner21_11, [91], [], true⟩
def r_inner21_12 : Reg := ⟨[], [⟨(.mv (.c (.bool false))), (some 4), none, [], []⟩], [], [], false⟩
def t_inner21_13 : List ROp := [⟨(.mv (.t 6)), (some 67), none, [], []⟩, ⟨(.bin .add (.t 67) (.c (.int .i64 1))), (some 68), none, [], []⟩, ⟨(.mv (.t 68)), (some 6), none, [], []⟩]
def r_inner21_13 : Reg := ⟨[], t_inner21_13, [], [], false⟩
def r_inner21_l14 : IR := (.seq (.seq (.reg r_inner21_10)
  (.cond (.t 66) .skip
  (.exit 2)))
  (.seq (.block 3 (.seq (.reg r_inner21_11)
  (.cond (.t 93) (.seq (.reg r_inner21_12)
  .ret)
  .skip)))
  (.reg r_inner21_13)))
def r_inner21_15 : Reg := ⟨[], [⟨(.mv (.c (.int .i64 0))), (some 7), none, [], []⟩], [], [], false⟩
def t_inner21_16 : List ROp := [⟨(.mv (.t 7)), (some 94), none, [], []⟩, ⟨(.faddr 8 (.t 3)), (some 95), none, [], []⟩, ⟨(.load 1 false (.t 95)), (some 96), none, [], []⟩, ⟨(.len false (.t 96)), (some 97), none, [], []⟩, ⟨(.bin .lss (.t 94) (.t 97)), (some 98), none, [], []⟩]
def r_inner21_16 : Reg := ⟨[], t_inner21_16, [], [], false⟩
def t_inner21_17 : List ROp := [⟨(.faddr 8 (.t 3)), (some 101), none, [106, 8], []⟩, ⟨(.load 1 false (.t 101)), (some 102), none, [106, 8], []⟩, ⟨(.mv (.t 7)), (some 103), none, [106, 8], []⟩, ⟨(.iaddr 6 (.t 102) (.t 103)), (some 104), none, [106, 8], []⟩, ⟨(.load 6 true (.t 104)), (some 105), none, [106, 8], []⟩, ⟨(.callv (.c (.clo 120 [] [])) [(.t 105)]), (some 106), none, [8], []⟩, ⟨(.alloc 3 38 (.agg [(.str ⟨#[]⟩), (.str ⟨#[]⟩), (.bool false)])), (some 8), none, [], []⟩, ⟨(.store 3 (.t 8) (.t 106)), none, none, [], []⟩]
def r_inner21_17 : Reg := ⟨[], t_inner21_17, [106, 8], [], false⟩
def t_inner21_18 : List ROp := [⟨(.callv (.c (.clo 91 [] [])) [(.t 125), (.t 127)]), (some 128), (some (123, false)), [], []⟩, ⟨(.pick (.t 123) (.c (.bool true)) (.t 128)), (some 129), (some (120, true)), [], []⟩, ⟨(.pick (.t 120) (.t 129) (.c (.bool false))), (some 130), (some (116, false)), [], []⟩, ⟨(.pick (.t 116) (.c (.bool true)) (.t 130)), (some 131), none, [], []⟩]
def h_inner21_18 : List ROp := [⟨(.faddr 8 (.t 3)), (some 107), none, [128], []⟩, ⟨(.load 1 false (.t 107)), (some 108), none, [128], []⟩, ⟨(.mv (.t 7)), (some 109), none, [128], []⟩, ⟨(.iaddr 6 (.t 108) (.t 109)), (some 110), none, [128], []⟩, ⟨(.faddr 0 (.t 110)), (some 111), none, [128], []⟩, ⟨(.load 1 false (.t 111)), (some 112), none, [128], []⟩, ⟨(.faddr 7 (.t 3)), (some 113), none, [128], []⟩, ⟨(.load 1 false (.t 113)), (some 114), none, [128], []⟩, ⟨(.bin .gtr (.t 112) (.t 114)), (some 115), none, [128], []⟩, ⟨(.mv (.t 115)), (some 116), none, [128], []⟩, ⟨(.faddr 5 (.t 3)), (some 117), (some (116, false)), [128], []⟩, ⟨(.load 1 false (.t 117)), (some 118), (some (116, false)), [128], []⟩, ⟨(.un .not (.t 118)), (some 119), (some (116, false)), [128], []⟩, ⟨(.mv (.t 119)), (some 120), (some (116, false)), [128], []⟩, ⟨(.faddr 2 (.t 8)), (some 121), (some (120, true)), [128], []⟩, ⟨(.load 1 false (.t 121)), (some 122), (some (120, true)), [128], []⟩, ⟨(.mv (.t 122)), (some 123), (some (120, true)), [128], []⟩, ⟨(.faddr 4 (.t 3)), (some 124), (some (123, false)), [128], []⟩, ⟨(.load 1 false (.t 124)), (some 125), (some (123, false)), [128], []⟩, ⟨(.faddr 1 (.t 8)), (some 126), (some (123, false)), [128], []⟩, ⟨(.load 1 false (.t 126)), (some 127), (some (123, false)), [128], []⟩]
def r_inner21_18 : Reg := ⟨h_inner21_18, t_inner21_18, [128], [], true⟩
def r_inner21_19 : Reg := ⟨[], [⟨(.mv (.c (.bool false))), (some 4), none, [], []⟩], [], [], false⟩
def t_inner21_20 : List ROp := [⟨(.mv (.t 7)), (some 99), none, [], []⟩, ⟨(.bin .add (.t 99) (.c (.int .i64 1))), (some 100), none, [], []⟩, ⟨(.mv (.t 100)), (some 7), none, [], []⟩]
def r_inner21_20 : Reg := ⟨[], t_inner21_20, [], [], false⟩
def r_inner21_l21 : IR := (.seq (.seq (.reg r_inner21_16)
  (.cond (.t 98) .skip
  (.exit 4)))
  (.seq (.block 5 (.seq (.reg r_inner21_17)
  (.seq (.reg r_inner21_18)
  (.cond (.t 131) (.seq (.reg r_inner21_19)
  .ret)
  .skip))))
  (.reg r_inner21_20)))
def r_inner21_22 : Reg := ⟨[], [⟨(.mv (.c (.bool true))), (some 4), none, [], []⟩], [], [], false⟩
def ir_inner21 : IR := (.seq (.reg r_inner21_0)
  (.seq (.seq (.reg r_inner21_1)
  (.cond (.t 48) (.seq (.reg r_inner21_2)
  .ret)
  .skip))
  (.seq (.seq (.reg r_inner21_3)
  (.block 0 (.loop r_inner21_l8)))
  (.seq (.seq (.reg r_inner21_9)
  (.block 2 (.loop r_inner21_l14)))
  (.seq (.seq (.reg r_inner21_15)
  (.block 4 (.loop r_inner21_l21)))
  (.seq (.reg r_inner21_22)
  .ret))))))
def res_inner21 : List RDesc := [(.tmp 4)]
theorem e_inner21_0 (C : FuncId → List AV → AV → Prop) (σ : St) (K : St → Prop) : runReg C r_inner21_0 σ K = runOps C t_inner21_0 (σ.kills [2, 3]) K := rfl
theorem e_inner21_1 (C : FuncId → List AV → AV → Prop) (σ : St) (K : St → Prop) : runReg C r_inner21_1 σ K = runHead C [] t_inner21_1 h_inner21_1 (σ.kills [32, 38, 44]) K := rfl
theorem e_inner21_2 (C : FuncId → List AV → AV → Prop) (σ : St) (K : St → Prop) : runReg C r_inner21_2 σ K = runOps C [⟨(.mv (.c (.bool false))), (some 4), none, [], []⟩] (σ.kills []) K := rfl
theorem e_inner21_3 (C : FuncId → List AV → AV → Prop) (σ : St) (K : St → Prop) : runReg C r_inner21_3 σ K = runOps C [⟨(.mv (.c (.int .i64 0))), (some 5), none, [], []⟩] (σ.kills []) K := rfl
theorem e_inner21_4 (C : FuncId → List AV → AV → Prop) (σ : St) (K : St → Prop) : runReg C r_inner21_4 σ K = runOps C t_inner21_4 (σ.kills []) K := rfl
theorem e_inner21_5 (C : FuncId → List AV → AV → Prop) (σ : St) (K : St → Prop) : runReg C r_inner21_5 σ K = runOps C t_inner21_5 (σ.kills []) K := rfl
theorem e_inner21_6 (C : FuncId → List AV → AV → Prop) (σ : St) (K : St → Prop) : runReg C r_inner21_6 σ K = runOps C [⟨(.mv (.c (.bool false))), (some 4), none, [], []⟩] (σ.kills []) K := rfl
theorem e_inner21_7 (C : FuncId → List AV → AV → Prop) (σ : St) (K : St → Prop) : runReg C r_inner21_7 σ K = runOps C t_inner21_7 (σ.kills []) K := rfl
theorem e_inner21_9 (C : FuncId → List AV → AV → Prop) (σ : St) (K : St → Prop) : runReg C r_inner21_9 σ K = runOps C [⟨(.mv (.c (.int .i64 0))), (some 6), none, [], []⟩] (σ.kills []) K := rfl
theorem e_inner21_10 (C : FuncId → List AV → AV → Prop) (σ : St) (K : St → Prop) : runReg C r_inner21_10 σ K = runOps C t_inner21_10 (σ.kills []) K := rfl
theorem e_inner21_11 (C : FuncId → List AV → AV → Prop) (σ : St) (K : St → Prop) : runReg C r_inner21_11 σ K = runHead C [] t_inner21_11 h_inner21_11 (σ.kills [91]) K := rfl
theorem e_inner21_12 (C : FuncId → List AV → AV → Prop) (σ : St) (K : St → Prop) : runReg C r_inner21_12 σ K = runOps C [⟨(.mv (.c (.bool false))), (some 4), none, [], []⟩] (σ.kills []) K := rfl
theorem e_inner21_13 (C : FuncId → List AV → AV → Prop) (σ : St) (K : St → Prop) : runReg C r_inner21_13 σ K = runOps C t_inner21_13 (σ.kills []) K := rfl
theorem e_inner21_15 (C : FuncId → List AV → AV → Prop) (σ : St) (K : St → Prop) : runReg C r_inner21_15 σ K = runOps C [⟨(.mv (.c (.int .i64 0))), (some 7), none, [], []⟩] (σ.kills []) K := rfl
theorem e_inner21_16 (C : FuncId → List AV → AV → Prop) (σ : St) (K : St → Prop) : runReg C r_inner21_16 σ K = runOps C t_inner21_16 (σ.kills []) K := rfl
theorem e_inner21_17 (C : FuncId → List AV → AV → Prop) (σ : St) (K : St → Prop) : runReg C r_inner21_17 σ K = runOps C t_inner21_17 (σ.kills [106, 8]) K := rfl
theorem e_inner21_18 (C : FuncId → List AV → AV → Prop) (σ : St) (K : St → Prop) : runReg C r_inner21_18 σ K = runHead C [] t_inner21_18 h_inner21_18 (σ.kills [128]) K := rfl
theorem e_inner21_19 (C : FuncId → List AV → AV → Prop) (σ : St) (K : St → Prop) : runReg C r_inner21_19 σ K = runOps C [⟨(.mv (.c (.bool false))), (some 4), none, [], []⟩] (σ.kills []) K := rfl
theorem e_inner21_20 (C : FuncId → List AV → AV → Prop) (σ : St) (K : St → Prop) : runReg C r_inner21_20 σ K = runOps C t_inner21_20 (σ.kills []) K := rfl
theorem e_inner21_22 (C : FuncId → List AV → AV → Prop) (σ : St) (K : St → Prop) : runReg C r_inner21_22 σ K = runOps C [⟨(.mv (.c (.bool true))), (some 4), none, [], []⟩] (σ.kills []) K := rfl
theorem fn_inner21 {args : List AV} {r : AV} (ha : args.length.ble Try.f118.ntmps = true) (h : run (AFn Try.prog) ir_inner21 (endQ res_inner21 r) (initSt args)) : AFn Try.prog 118 args r :=
  AFn.of_code (pv := false) (hint := fun _ => []) (c := Try.f118.body.getD .skip) (by kernel_rfl) (by kernel_rfl) Try.func118 (by kernel_rfl) (by kernel_rfl) (by kernel_rfl) (of_decide_eq_true (by kernel_rfl)) (Nat.le_of_ble_eq_true ha) (Nat.le_of_ble_eq_true (by kernel_rfl)) (run_ok h)
/-! ### percolate/percolateref21.Right -/
def t_right21_0 : List ROp := [⟨(.box 5 23 (.t 0)), (some 2), none, [3], []⟩, ⟨(.box 10 36 (.t 1)), (some 3), none, [], []⟩, ⟨(.mv (.c (.bool false))), (some 4), none, [], []⟩]
def r_right21_0 : Reg := ⟨[], t_right21_0, [2, 3], [], false⟩
def t_right21_1 : List ROp := [⟨(.faddr 0 (.t 3)), (some 5), none, [], []⟩, ⟨(.load 1 false (.t 5)), (some 6), none, [], []⟩, ⟨(.bin .lss (.t 6) (.c (.int .i64 0))), (some 7), none, [], []⟩, ⟨(.mv (.t 7)), (some 8), none, [], []⟩, ⟨(.faddr 1 (.t 3)), (some 9), (some (8, false)), [], []⟩, ⟨(.load 1 false (.t 9)), (some 10), (some (8, false)), [], []⟩, ⟨(.bin .lss (.t 10) (.c (.int .i64 0))), (some 11), (some (8, false)), [], []⟩, ⟨(.pick (.t 8) (.c (.bool true)) (.t 11)), (some 12), none, [], []⟩, ⟨(.mv (.t 12)), (some 13), none, [], []⟩, ⟨(.faddr 7 (.t 3)), (some 14), (some (13, false)), [], []⟩, ⟨(.load 1 false (.t 14)), (some 15), (some (13, false)), [], []⟩, ⟨(.bin .lss (.t 15) (.c (.int .i64 0))), (some 16), (some (13, false)), [], []⟩, ⟨(.pick (.t 13) (.c (.bool true)) (.t 16)), (some 17), none, [], []⟩, ⟨(.mv (.t 17)), (some 18), none, [], []⟩, ⟨(.faddr 5 (.t 3)), (some 19), (some (18, false)), [], []⟩, ⟨(.load 1 false (.t 19)), (some 20), (some (18, false)), [], []⟩, ⟨(.mv (.t 20)), (some 21), (some (18, false)), [], []⟩, ⟨(.faddr 4 (.t 3)), (some 22), (some (21, true)), [], []⟩, ⟨(.load 1 false (.t 22)), (some 23), (some (21, true)), [], []⟩, ⟨(.bin .neq (.t 23) (.c (.str ⟨#[]⟩))), (some 24), (some (21, true)), [], []⟩, ⟨(.mv (.t 24)), (some 25), (some (21, true)), [], []⟩, ⟨(.faddr 6 (.t 3)), (some 26), (some (25, false)), [], []⟩, ⟨(.load 1 false (.t 26)), (some 27), (some (25, false)), [], []⟩, ⟨(.bin .neq (.t 27) (.c (.int .i64 (-1)))), (some 28), (some (25, false)), [], []⟩, ⟨(.pick (.t 25) (.c (.bool true)) (.t 28)), (some 29), (some (21, true)), [], []⟩, ⟨(.pick (.t 21) (.t 29) (.c (.bool false))), (some 30), (some (18, false)), [], []⟩, ⟨(.pick (.t 18) (.c (.bool true)) (.t 30)), (some 31), none, [], []⟩]
def r_right21_1 : Reg := ⟨[], t_right21_1, [], [], false⟩
def r_right21_2 : Reg := ⟨[], [⟨(.mv (.c (.bool false))), (some 4), none, [], []⟩], [], [], false⟩
def t_right21_3 : List ROp := [⟨(.faddr 5 (.t 3)), (some 32), none, [], []⟩, ⟨(.load 1 false (.t 32)), (some 33), none, [], []⟩, ⟨(.un .not (.t 33)), (some 34), none, [], []⟩, ⟨(.mv (.t 34)), (some 35), none, [], []⟩, ⟨(.faddr 4 (.t 3)), (some 36), (some (35, true)), [], []⟩, ⟨(.load 1 false (.t 36)), (some 37), (some (35, true)), [], []⟩, ⟨(.bin .eql (.t 37) (.c (.str ⟨#[]⟩))), (some 38), (some (35, true)), [], []⟩, ⟨(.mv (.t 38)), (some 39), (some (35, true)), [], []⟩, ⟨(.faddr 4 (.t 3)), (some 40), (some (39, false)), [], []⟩, ⟨(.load 1 false (.t 40)), (some 41), (some (39, false)), [], []⟩, ⟨(.len true (.t 41)), (some 42), (some (39, false)), [], []⟩, ⟨(.bin .gtr (.t 42) (.c (.int .i64 16))), (some 43), (some (39, false)), [], []⟩, ⟨(.pick (.t 39) (.c (.bool true)) (.t 43)), (some 44), (some (35, true)), [], []⟩, ⟨(.mv (.t 44)), (some 45), (some (35, true)), [], []⟩, ⟨(.faddr 6 (.t 3)), (some 46), (some (45, false)), [], []⟩, ⟨(.load 1 false (.t 46)), (some 47), (some (45, false)), [], []⟩, ⟨(.bin .lss (.t 47) (.c (.int .i64 0))), (some 48), (some (45, false)), [], []⟩, ⟨(.pick (.t 45) (.c (.bool true)) (.t 48)), (some 49), (some (35, true)), [], []⟩, ⟨(.pick (.t 35) (.t 49) (.c (.bool false))), (some 50), none, [], []⟩]
def r_right21_3 : Reg := ⟨[], t_right21_3, [], [], false⟩
def r_right21_4 : Reg := ⟨[], [⟨(.mv (.c (.bool false))), (some 4), none, [], []⟩], [], [], false⟩
def t_right21_5 : List ROp := [⟨(.faddr 1 (.t 3)), (some 51), none, [], []⟩, ⟨(.load 1 false (.t 51)), (some 52), none, [], []⟩, ⟨(.bin .eql (.t 52) (.c (.int .i64 0))), (some 53), none, [], []⟩]
def r_right21_5 : Reg := ⟨[], t_right21_5, [], [], false⟩
def t_right21_6 : List ROp := [⟨(.load 5 true (.t 2)), (some 54), none, [56], []⟩, ⟨(.load 10 true (.t 3)), (some 55), none, [56], []⟩, ⟨(.callv (.c (.clo 117 [] [])) [(.t 54), (.t 55)]), (some 56), none, [], []⟩, ⟨(.mv (.t 56)), (some 4), none, [], []⟩]
def r_right21_6 : Reg := ⟨[], t_right21_6, [56], [], false⟩
def t_right21_7 : List ROp := [⟨(.load 5 true (.t 2)), (some 57), none, [59], []⟩, ⟨(.load 10 true (.t 3)), (some 58), none, [59], []⟩, ⟨(.callv (.c (.clo 118 [] [])) [(.t 57), (.t 58)]), (some 59), none, [], []⟩, ⟨(.mv (.t 59)), (some 4), none, [], []⟩]
def r_right21_7 : Reg := ⟨[], t_right21_7, [59], [], false⟩
def ir_right21 : IR := (.seq (.reg r_right21_0)
  (.seq (.seq (.reg r_right21_1)
  (.cond (.t 31) (.seq (.reg r_right21_2)
  .ret)
  .skip))
  (.seq (.seq (.reg r_right21_3)
  (.cond (.t 50) (.seq (.reg r_right21_4)
  .ret)
  .skip))
  (.seq (.seq (.reg r_right21_5)
  (.cond (.t 53) (.seq (.reg r_right21_6)
  .ret)
  .skip))
  (.seq (.reg r_right21_7)
  .ret)))))
def res_right21 : List RDesc := [(.tmp 4)]
theorem e_right21_0 (C : FuncId → List AV → AV → Prop) (σ : St) (K : St → Prop) : runReg C r_right21_0 σ K = runOps C t_right21_0 (σ.kills [2, 3]) K := rfl
theorem e_right21_1 (C : FuncId → List AV → AV → Prop) (σ : St) (K : St → Prop) : runReg C r_right21_1 σ K = runOps C t_right21_1 (σ.kills []) K := rfl
theorem e_right21_2 (C : FuncId → List AV → AV → Prop) (σ : St) (K : St → Prop) : runReg C r_right21_2 σ K = runOps C [⟨(.mv (.c (.bool false))), (some 4), none, [], []⟩] (σ.kills []) K := rfl
theorem e_right21_3 (C : FuncId → List AV → AV → Prop) (σ : St) (K : St → Prop) : runReg C r_right21_3 σ K = runOps C t_right21_3 (σ.kills []) K := rfl
theorem e_right21_4 (C : FuncId → List AV → AV → Prop) (σ : St) (K : St → Prop) : runReg C r_right21_4 σ K = runOps C [⟨(.mv (.c (.bool false))), (some 4), none, [], []⟩] (σ.kills []) K := rfl
theorem e_right21_5 (C : FuncId → List AV → AV → Prop) (σ : St) (K : St → Prop) : runReg C r_right21_5 σ K = runOps C t_right21_5 (σ.kills []) K := rfl
theorem e_right21_6 (C : FuncId → List AV → AV → Prop) (σ : St) (K : St → Prop) : runReg C r_right21_6 σ K = runOps C t_right21_6 (σ.kills [56]) K := rfl
theorem e_right21_7 (C : FuncId → List AV → AV → Prop) (σ : St) (K : St → Prop) : runReg C r_right21_7 σ K = runOps C t_right21_7 (σ.kills [59]) K := rfl
theorem fn_right21 {args : List AV} {r : AV} (ha : args.length.ble Try.f88.ntmps = true) (h : run (AFn Try.prog) ir_right21 (endQ res_right21 r) (initSt args)) : AFn Try.prog 88 args r :=
  AFn.of_code (pv := false) (hint := fun _ => []) (c := Try.f88.body.getD .skip) (by kernel_rfl) (by kernel_rfl) Try.func88 (by kernel_rfl) (by kernel_rfl) (by kernel_rfl) (of_decide_eq_true (by kernel_rfl)) (Nat.le_of_ble_eq_true ha) (Nat.le_of_ble_eq_true (by kernel_rfl)) (run_ok h)
attribute [local go_sem ↓] ir_inner21
attribute [local go_sem] res_inner21 e_inner21_0 t_inner21_0 e_inner21_1 t_inner21_1 h_inner21_1 e_inner21_2 e_inner21_3 e_inner21_4 t_inner21_4 e_inner21_5 t_inner21_5 e_inner21_6 e_inner21_7 t_inner21_7 e_inner21_9 e_inner21_10 t_inner21_10 e_inner21_11 t_inner21_11 h_inner21_11 e_inner21_12 e_inner21_13 t_inner21_13 e_inner21_15 e_inner21_16 t_inner21_16 e_inner21_17 t_inner21_17 e_inner21_18 t_inner21_18 h_inner21_18 e_inner21_19 e_inner21_20 t_inner21_20 e_inner21_22
attribute [local go_sem ↓] ir_right21
attribute [local go_sem] res_right21 e_right21_0 t_right21_0 e_right21_1 t_right21_1 e_right21_2 e_right21_3 t_right21_3 e_right21_4 e_right21_5 t_right21_5 e_right21_6 t_right21_6 e_right21_7 t_right21_7
def pvB (n : Nd) (p : ByteArray) : Bool := !(p.toList == (⟨#[]⟩ : ByteArray).toList) && decide ((p.size : Int) ≤ 16) && hasN n p
def msB (n : Nd) (m : Msg) : Bool := decide (m.stamp ≤ n.seen) && !(!n.top && (m.span.op || lt n.high m.span.hi))
def innerB (c : Cfg) (n : Nd) : Bool := decide (n.rows.length = 0) && decide (2 ≤ n.kids.length) && decide ((n.kids.length : Int) ≤ c.fanout) && rightK n.pivots n.kids && AllProp n.msgs && decide ((sizes n.msgs : Int) ≤ c.budget) && (n.kids.all (fun k => decide (0 ≤ k)) && n.pivots.all (pvB n) && n.msgs.all (msB n))
def nodeInv (n : Nd) (t : Nat) (len : Nat) (A : Nat → Bool) (R : Bool) (k : Nat) (σ : St) : Prop :=
  ∃ i : Nat, i ≤ len ∧ k = len - i ∧ σ.T 3 = .ptr 3 0 0 ∧ σ.H 3 = some ⟨10, 36, [n.a], 0⟩ ∧ σ.T t = .int .i64 i ∧ A i = R
theorem kids_loop (n : Nd) (hn : n.kids.length ≤ 2000) (R : Bool) (Q : XK → St → Prop) (hEnd : ∀ σ, R = true → σ.T 3 = .ptr 3 0 0 → σ.H 3 = some ⟨10, 36, [n.a], 0⟩ → Q (.exit 0) σ)
    (hRet : ∀ σ, R = false → σ.T 4 = .bool false → Q .ret σ) (k : Nat) (σ : St) (hI : nodeInv n 5 n.kids.length (fun i => (n.kids.drop i).all fun k => decide (0 ≤ k)) R k σ) :
    run (AFn Try.prog) r_inner21_l8 (thenQ (fun σ' => ∃ m, m < k ∧ nodeInv n 5 n.kids.length (fun i => (n.kids.drop i).all fun k => decide (0 ≤ k)) R m σ') Q) σ := by
  obtain ⟨i, hi, rfl, t3, h3, t5, hr⟩ := hI
  simp only [r_inner21_l8]
  have h3' := h3
  simp only [Nd.a] at h3'
  by_cases hlt : i < n.kids.length
  case neg =>
    have hlt' : ¬ (i : Int) < (n.kids.length : Int) := by omega
    simp only at hr
    rw [List.drop_eq_nil_of_le (by omega), List.all_nil] at hr
    subst hr
    simp (maxSteps := 4000000) only [go_sem, ↓reduceIte, reduceCtorEq, Nat.reduceEqDiff, Nat.reduceBEq, Nat.reduceAdd, Nat.reduceSub, Nat.reduceMul, Nat.reduceLT, Nat.reduceLeDiff, Nat.reduceBNe, Int.reduceBEq, Int.reduceBNe, Int.reduceLT, Int.reduceLE, Spn.a, Msg.a, Par.a, Nd.a, Seat.a, Cfg.a, t3, h3', t5, hlt', List.length_map]
    refine hEnd _ rfl ?_ ?_
    · simp (maxSteps := 4000000) only [go_sem, ↓reduceIte, reduceCtorEq, Nat.reduceEqDiff, Nat.reduceBEq, Nat.reduceAdd, Nat.reduceSub, Nat.reduceMul, Nat.reduceLT, Nat.reduceLeDiff, Nat.reduceBNe, Int.reduceBEq, Int.reduceBNe, Int.reduceLT, Int.reduceLE, Spn.a, Msg.a, Par.a, Nd.a, Seat.a, Cfg.a, t3]
    · simp (maxSteps := 4000000) only [go_sem, ↓reduceIte, reduceCtorEq, Nat.reduceEqDiff, Nat.reduceBEq, Nat.reduceAdd, Nat.reduceSub, Nat.reduceMul, Nat.reduceLT, Nat.reduceLeDiff, Nat.reduceBNe, Int.reduceBEq, Int.reduceBNe, Int.reduceLT, Int.reduceLE, Spn.a, Msg.a, Par.a, Nd.a, Seat.a, Cfg.a, h3]
  have hlt' : (i : Int) < (n.kids.length : Int) := by omega
  obtain ⟨x, hx⟩ := get_lt hlt
  have hgx := at_map (f := AV.int .i64) hx
  have hw := wrapS (j := i) (by omega)
  simp only at hr
  rw [drop_at hx, List.all_cons] at hr
  by_cases hneg : x < 0
  · rw [decide_eq_false (by omega), Bool.false_and] at hr
    subst hr
    simp (maxSteps := 4000000) only [go_sem, ↓reduceIte, reduceCtorEq, Nat.reduceEqDiff, Nat.reduceBEq, Nat.reduceAdd, Nat.reduceSub, Nat.reduceMul, Nat.reduceLT, Nat.reduceLeDiff, Nat.reduceBNe, Int.reduceBEq, Int.reduceBNe, Int.reduceLT, Int.reduceLE, Spn.a, Msg.a, Par.a, Nd.a, Seat.a, Cfg.a, t3, h3', t5, hlt', hgx, hneg, List.length_map, Int.toNat_natCast]
    (repeat refine And.intro (by omega) ?_)
    refine hRet _ rfl ?_
    simp (maxSteps := 4000000) only [go_sem, ↓reduceIte, reduceCtorEq, Nat.reduceEqDiff, Nat.reduceBEq, Nat.reduceAdd, Nat.reduceSub, Nat.reduceMul, Nat.reduceLT, Nat.reduceLeDiff, Nat.reduceBNe, Int.reduceBEq, Int.reduceBNe, Int.reduceLT, Int.reduceLE, Spn.a, Msg.a, Par.a, Nd.a, Seat.a, Cfg.a]
  · rw [decide_eq_true (by omega), Bool.true_and] at hr
    simp (maxSteps := 4000000) only [go_sem, ↓reduceIte, reduceCtorEq, Nat.reduceEqDiff, Nat.reduceBEq, Nat.reduceAdd, Nat.reduceSub, Nat.reduceMul, Nat.reduceLT, Nat.reduceLeDiff, Nat.reduceBNe, Int.reduceBEq, Int.reduceBNe, Int.reduceLT, Int.reduceLE, Spn.a, Msg.a, Par.a, Nd.a, Seat.a, Cfg.a, t3, h3', t5, hlt', hgx, hneg, hw, List.length_map, Int.toNat_natCast]
    (repeat refine And.intro (by omega) ?_)
    refine ⟨n.kids.length - (i + 1), by omega, i + 1, by omega, rfl, ?_, ?_, ?_, hr⟩
    · simp (maxSteps := 4000000) only [go_sem, ↓reduceIte, reduceCtorEq, Nat.reduceEqDiff, Nat.reduceBEq, Nat.reduceAdd, Nat.reduceSub, Nat.reduceMul, Nat.reduceLT, Nat.reduceLeDiff, Nat.reduceBNe, Int.reduceBEq, Int.reduceBNe, Int.reduceLT, Int.reduceLE, Spn.a, Msg.a, Par.a, Nd.a, Seat.a, Cfg.a, t3]
    · simp (maxSteps := 4000000) only [go_sem, ↓reduceIte, reduceCtorEq, Nat.reduceEqDiff, Nat.reduceBEq, Nat.reduceAdd, Nat.reduceSub, Nat.reduceMul, Nat.reduceLT, Nat.reduceLeDiff, Nat.reduceBNe, Int.reduceBEq, Int.reduceBNe, Int.reduceLT, Int.reduceLE, Spn.a, Msg.a, Par.a, Nd.a, Seat.a, Cfg.a, h3]
    · simp (maxSteps := 4000000) only [go_sem, ↓reduceIte, reduceCtorEq, Nat.reduceEqDiff, Nat.reduceBEq, Nat.reduceAdd, Nat.reduceSub, Nat.reduceMul, Nat.reduceLT, Nat.reduceLeDiff, Nat.reduceBNe, Int.reduceBEq, Int.reduceBNe, Int.reduceLT, Int.reduceLE, Spn.a, Msg.a, Par.a, Nd.a, Seat.a, Cfg.a, hw]
set_option maxHeartbeats 2000000 in
theorem pivots_loop (n : Nd) (hn : n.Lt) (R : Bool) (Q : XK → St → Prop) (hEnd : ∀ σ, R = true → σ.T 3 = .ptr 3 0 0 → σ.H 3 = some ⟨10, 36, [n.a], 0⟩ → Q (.exit 2) σ)
    (hRet : ∀ σ, R = false → σ.T 4 = .bool false → Q .ret σ) (k : Nat) (σ : St) (hI : nodeInv n 6 n.pivots.length (fun i => (n.pivots.drop i).all (pvB n)) R k σ) :
    run (AFn Try.prog) r_inner21_l14 (thenQ (fun σ' => ∃ m, m < k ∧ nodeInv n 6 n.pivots.length (fun i => (n.pivots.drop i).all (pvB n)) R m σ') Q) σ := by
  obtain ⟨i, hi, rfl, t3, h3, t6, hr⟩ := hI
  simp only [r_inner21_l14]
  have h3' := h3
  simp only [Nd.a] at h3'
  have hnp := hn.npiv
  by_cases hlt : i < n.pivots.length
  case neg =>
    have hlt' : ¬ (i : Int) < (n.pivots.length : Int) := by omega
    simp only at hr
    rw [List.drop_eq_nil_of_le (by omega), List.all_nil] at hr
    subst hr
    simp (maxSteps := 4000000) only [go_sem, ↓reduceIte, reduceCtorEq, Nat.reduceEqDiff, Nat.reduceBEq, Nat.reduceAdd, Nat.reduceSub, Nat.reduceMul, Nat.reduceLT, Nat.reduceLeDiff, Nat.reduceBNe, Int.reduceBEq, Int.reduceBNe, Int.reduceLT, Int.reduceLE, Spn.a, Msg.a, Par.a, Nd.a, Seat.a, Cfg.a, t3, h3', t6, hlt', List.length_map]
    refine hEnd _ rfl ?_ ?_
    · simp (maxSteps := 4000000) only [go_sem, ↓reduceIte, reduceCtorEq, Nat.reduceEqDiff, Nat.reduceBEq, Nat.reduceAdd, Nat.reduceSub, Nat.reduceMul, Nat.reduceLT, Nat.reduceLeDiff, Nat.reduceBNe, Int.reduceBEq, Int.reduceBNe, Int.reduceLT, Int.reduceLE, Spn.a, Msg.a, Par.a, Nd.a, Seat.a, Cfg.a, t3]
    · simp (maxSteps := 4000000) only [go_sem, ↓reduceIte, reduceCtorEq, Nat.reduceEqDiff, Nat.reduceBEq, Nat.reduceAdd, Nat.reduceSub, Nat.reduceMul, Nat.reduceLT, Nat.reduceLeDiff, Nat.reduceBNe, Int.reduceBEq, Int.reduceBNe, Int.reduceLT, Int.reduceLE, Spn.a, Msg.a, Par.a, Nd.a, Seat.a, Cfg.a, h3]
  have hlt' : (i : Int) < (n.pivots.length : Int) := by omega
  obtain ⟨x, hx⟩ := get_lt hlt
  have hgx := at_map (f := AV.str) hx
  have hw := wrapS (j := i) (by omega)
  have ch := has21_ok n x (by have := hn.high; omega) (by have := hn.piv x (List.mem_of_getElem? hx); omega)
  simp only at hr
  rw [drop_at hx, List.all_cons] at hr
  unfold pvB at hr
  generalize hasN n x = b3 at *
  cases b1 : (x.toList == (⟨#[]⟩ : ByteArray).toList)
  case true =>
    rw [b1] at hr
    simp only [Bool.not_true, Bool.false_and] at hr
    subst hr
    (repeat (first | simp (maxSteps := 4000000) only [go_sem, ↓reduceIte, reduceCtorEq, Nat.reduceEqDiff, Nat.reduceBEq, Nat.reduceAdd, Nat.reduceSub, Nat.reduceMul, Nat.reduceLT, Nat.reduceLeDiff, Nat.reduceBNe, Int.reduceBEq, Int.reduceBNe, Int.reduceLT, Int.reduceLE, Spn.a, Msg.a, Par.a, Nd.a, Seat.a, Cfg.a, t3, h3', t6, hlt', hgx, b1, List.length_map, Int.toNat_natCast] | refine calling (ch) ?_ | refine callingH (ch) ?_ | refine And.intro (by omega) ?_ | refine And.intro (fun d hd => by (repeat (rcases hd with rfl | hd; · exact ⟨rfl, rfl⟩)); cases hd) ?_))
    all_goals (repeat refine And.intro (by omega) ?_)
    refine hRet _ rfl ?_
    simp (maxSteps := 4000000) only [go_sem, ↓reduceIte, reduceCtorEq, Nat.reduceEqDiff, Nat.reduceBEq, Nat.reduceAdd, Nat.reduceSub, Nat.reduceMul, Nat.reduceLT, Nat.reduceLeDiff, Nat.reduceBNe, Int.reduceBEq, Int.reduceBNe, Int.reduceLT, Int.reduceLE, Spn.a, Msg.a, Par.a, Nd.a, Seat.a, Cfg.a]
  rw [b1] at hr
  by_cases h16 : (16 : Int) < (x.size : Int)
  · rw [decide_eq_false (by omega)] at hr
    simp only [Bool.and_false, Bool.false_and] at hr
    subst hr
    (repeat (first | simp (maxSteps := 4000000) only [go_sem, ↓reduceIte, reduceCtorEq, Nat.reduceEqDiff, Nat.reduceBEq, Nat.reduceAdd, Nat.reduceSub, Nat.reduceMul, Nat.reduceLT, Nat.reduceLeDiff, Nat.reduceBNe, Int.reduceBEq, Int.reduceBNe, Int.reduceLT, Int.reduceLE, Spn.a, Msg.a, Par.a, Nd.a, Seat.a, Cfg.a, t3, h3', t6, hlt', hgx, b1, h16, List.length_map, Int.toNat_natCast] | refine calling (ch) ?_ | refine callingH (ch) ?_ | refine And.intro (by omega) ?_ | refine And.intro (fun d hd => by (repeat (rcases hd with rfl | hd; · exact ⟨rfl, rfl⟩)); cases hd) ?_))
    all_goals (repeat refine And.intro (by omega) ?_)
    refine hRet _ rfl ?_
    simp (maxSteps := 4000000) only [go_sem, ↓reduceIte, reduceCtorEq, Nat.reduceEqDiff, Nat.reduceBEq, Nat.reduceAdd, Nat.reduceSub, Nat.reduceMul, Nat.reduceLT, Nat.reduceLeDiff, Nat.reduceBNe, Int.reduceBEq, Int.reduceBNe, Int.reduceLT, Int.reduceLE, Spn.a, Msg.a, Par.a, Nd.a, Seat.a, Cfg.a]
  rw [decide_eq_true (by omega)] at hr
  cases b3
  · simp only [Bool.and_false, Bool.false_and] at hr
    subst hr
    (repeat (first | simp (maxSteps := 4000000) only [go_sem, ↓reduceIte, reduceCtorEq, Nat.reduceEqDiff, Nat.reduceBEq, Nat.reduceAdd, Nat.reduceSub, Nat.reduceMul, Nat.reduceLT, Nat.reduceLeDiff, Nat.reduceBNe, Int.reduceBEq, Int.reduceBNe, Int.reduceLT, Int.reduceLE, Spn.a, Msg.a, Par.a, Nd.a, Seat.a, Cfg.a, t3, h3', t6, hlt', hgx, b1, h16, List.length_map, Int.toNat_natCast] | refine calling (ch) ?_ | refine callingH (ch) ?_ | refine And.intro (by omega) ?_ | refine And.intro (fun d hd => by (repeat (rcases hd with rfl | hd; · exact ⟨rfl, rfl⟩)); cases hd) ?_))
    refine hRet _ rfl ?_
    simp (maxSteps := 4000000) only [go_sem, ↓reduceIte, reduceCtorEq, Nat.reduceEqDiff, Nat.reduceBEq, Nat.reduceAdd, Nat.reduceSub, Nat.reduceMul, Nat.reduceLT, Nat.reduceLeDiff, Nat.reduceBNe, Int.reduceBEq, Int.reduceBNe, Int.reduceLT, Int.reduceLE, Spn.a, Msg.a, Par.a, Nd.a, Seat.a, Cfg.a]
  · simp only [Bool.not_false, Bool.and_true, Bool.true_and] at hr
    (repeat (first | simp (maxSteps := 4000000) only [go_sem, ↓reduceIte, reduceCtorEq, Nat.reduceEqDiff, Nat.reduceBEq, Nat.reduceAdd, Nat.reduceSub, Nat.reduceMul, Nat.reduceLT, Nat.reduceLeDiff, Nat.reduceBNe, Int.reduceBEq, Int.reduceBNe, Int.reduceLT, Int.reduceLE, Spn.a, Msg.a, Par.a, Nd.a, Seat.a, Cfg.a, t3, h3', t6, hlt', hgx, b1, h16, hw, List.length_map, Int.toNat_natCast] | refine calling (ch) ?_ | refine callingH (ch) ?_ | refine And.intro (by omega) ?_ | refine And.intro (fun d hd => by (repeat (rcases hd with rfl | hd; · exact ⟨rfl, rfl⟩)); cases hd) ?_))
    refine ⟨n.pivots.length - (i + 1), by omega, i + 1, by omega, rfl, ?_, ?_, ?_, hr⟩
    · simp (maxSteps := 4000000) only [go_sem, ↓reduceIte, reduceCtorEq, Nat.reduceEqDiff, Nat.reduceBEq, Nat.reduceAdd, Nat.reduceSub, Nat.reduceMul, Nat.reduceLT, Nat.reduceLeDiff, Nat.reduceBNe, Int.reduceBEq, Int.reduceBNe, Int.reduceLT, Int.reduceLE, Spn.a, Msg.a, Par.a, Nd.a, Seat.a, Cfg.a, t3]
    · simp (maxSteps := 4000000) only [go_sem, ↓reduceIte, reduceCtorEq, Nat.reduceEqDiff, Nat.reduceBEq, Nat.reduceAdd, Nat.reduceSub, Nat.reduceMul, Nat.reduceLT, Nat.reduceLeDiff, Nat.reduceBNe, Int.reduceBEq, Int.reduceBNe, Int.reduceLT, Int.reduceLE, Spn.a, Msg.a, Par.a, Nd.a, Seat.a, Cfg.a, h3]
    · simp (maxSteps := 4000000) only [go_sem, ↓reduceIte, reduceCtorEq, Nat.reduceEqDiff, Nat.reduceBEq, Nat.reduceAdd, Nat.reduceSub, Nat.reduceMul, Nat.reduceLT, Nat.reduceLeDiff, Nat.reduceBNe, Int.reduceBEq, Int.reduceBNe, Int.reduceLT, Int.reduceLE, Spn.a, Msg.a, Par.a, Nd.a, Seat.a, Cfg.a, hw]
set_option maxHeartbeats 2000000 in
theorem msgs_loop (n : Nd) (hn : n.Lt) (R : Bool) (Q : XK → St → Prop) (hEnd : ∀ σ, R = true → Q (.exit 4) σ)
    (hRet : ∀ σ, R = false → σ.T 4 = .bool false → Q .ret σ) (k : Nat) (σ : St) (hI : nodeInv n 7 n.msgs.length (fun i => (n.msgs.drop i).all (msB n)) R k σ) :
    run (AFn Try.prog) r_inner21_l21 (thenQ (fun σ' => ∃ m, m < k ∧ nodeInv n 7 n.msgs.length (fun i => (n.msgs.drop i).all (msB n)) R m σ') Q) σ := by
  obtain ⟨i, hi, rfl, t3, h3, t7, hr⟩ := hI
  simp only [r_inner21_l21]
  have h3' := h3
  simp only [Nd.a] at h3'
  have hnp := hn.nmsg
  by_cases hlt : i < n.msgs.length
  case neg =>
    have hlt' : ¬ (i : Int) < (n.msgs.length : Int) := by omega
    simp only at hr
    rw [List.drop_eq_nil_of_le (by omega), List.all_nil] at hr
    subst hr
    simp (maxSteps := 4000000) only [go_sem, ↓reduceIte, reduceCtorEq, Nat.reduceEqDiff, Nat.reduceBEq, Nat.reduceAdd, Nat.reduceSub, Nat.reduceMul, Nat.reduceLT, Nat.reduceLeDiff, Nat.reduceBNe, Int.reduceBEq, Int.reduceBNe, Int.reduceLT, Int.reduceLE, Spn.a, Msg.a, Par.a, Nd.a, Seat.a, Cfg.a, t3, h3', t7, hlt', List.length_map]
    exact hEnd _ rfl
  have hlt' : (i : Int) < (n.msgs.length : Int) := by omega
  obtain ⟨x, hx⟩ := get_lt hlt
  have hgx := at_map (f := Msg.a) hx
  have hw := wrapS (j := i) (by omega)
  have hxm := hn.msgs x (List.mem_of_getElem? hx)
  have cs := refSpan x (by have := hxm.1; omega)
  have hsl := msgSpan_le hxm
  have cl := refLess n.high x.span.hi (by have := hn.high; omega) (by have := hsl.2; omega)
  simp only at hr
  rw [drop_at hx, List.all_cons] at hr
  have hb : msB n x = (decide (x.stamp ≤ n.seen) && !(!n.top && (x.span.op || lt n.high x.span.hi))) := rfl
  rw [hb] at hr
  clear hb
  generalize x.span = sp at *
  obtain ⟨lo, hi2, op⟩ := sp
  simp only [Msg.a] at hgx
  simp only at cl hr
  generalize lt n.high hi2 = b3 at *
  by_cases hs : n.seen < x.stamp
  · rw [decide_eq_false (by omega)] at hr
    simp only [Bool.false_and] at hr
    subst hr
    (repeat (first | simp (maxSteps := 4000000) only [go_sem, ↓reduceIte, reduceCtorEq, Nat.reduceEqDiff, Nat.reduceBEq, Nat.reduceAdd, Nat.reduceSub, Nat.reduceMul, Nat.reduceLT, Nat.reduceLeDiff, Nat.reduceBNe, Int.reduceBEq, Int.reduceBNe, Int.reduceLT, Int.reduceLE, Spn.a, Msg.a, Par.a, Nd.a, Seat.a, Cfg.a, t3, h3', t7, hlt', hgx, hs, List.length_map, Int.toNat_natCast] | refine calling (cs) ?_ | refine callingH (cs) ?_ | refine calling (cl) ?_ | refine callingH (cl) ?_ | refine And.intro (by omega) ?_ | refine And.intro (fun d hd => by (repeat (rcases hd with rfl | hd; · exact ⟨rfl, rfl⟩)); cases hd) ?_))
    all_goals (repeat refine And.intro (by omega) ?_)
    refine hRet _ rfl ?_
    simp (maxSteps := 4000000) only [go_sem, ↓reduceIte, reduceCtorEq, Nat.reduceEqDiff, Nat.reduceBEq, Nat.reduceAdd, Nat.reduceSub, Nat.reduceMul, Nat.reduceLT, Nat.reduceLeDiff, Nat.reduceBNe, Int.reduceBEq, Int.reduceBNe, Int.reduceLT, Int.reduceLE, Spn.a, Msg.a, Par.a, Nd.a, Seat.a, Cfg.a]
  rw [decide_eq_true (by omega)] at hr
  cases htop : n.top
  · rw [htop] at hr h3'
    cases op
    · cases b3
      · simp only [Bool.not_false, Bool.true_and, Bool.or_false, Bool.or_self, Bool.and_false] at hr
        (repeat (first | simp (maxSteps := 4000000) only [go_sem, ↓reduceIte, reduceCtorEq, Nat.reduceEqDiff, Nat.reduceBEq, Nat.reduceAdd, Nat.reduceSub, Nat.reduceMul, Nat.reduceLT, Nat.reduceLeDiff, Nat.reduceBNe, Int.reduceBEq, Int.reduceBNe, Int.reduceLT, Int.reduceLE, Spn.a, Msg.a, Par.a, Nd.a, Seat.a, Cfg.a, t3, h3', t7, hlt', hgx, hs, hw, List.length_map, Int.toNat_natCast] | refine calling (cs) ?_ | refine callingH (cs) ?_ | refine calling (cl) ?_ | refine callingH (cl) ?_ | refine And.intro (by omega) ?_ | refine And.intro (fun d hd => by (repeat (rcases hd with rfl | hd; · exact ⟨rfl, rfl⟩)); cases hd) ?_))
        refine ⟨n.msgs.length - (i + 1), by omega, i + 1, by omega, rfl, ?_, ?_, ?_, hr⟩
        · simp (maxSteps := 4000000) only [go_sem, ↓reduceIte, reduceCtorEq, Nat.reduceEqDiff, Nat.reduceBEq, Nat.reduceAdd, Nat.reduceSub, Nat.reduceMul, Nat.reduceLT, Nat.reduceLeDiff, Nat.reduceBNe, Int.reduceBEq, Int.reduceBNe, Int.reduceLT, Int.reduceLE, Spn.a, Msg.a, Par.a, Nd.a, Seat.a, Cfg.a, t3]
        · simp (maxSteps := 4000000) only [go_sem, ↓reduceIte, reduceCtorEq, Nat.reduceEqDiff, Nat.reduceBEq, Nat.reduceAdd, Nat.reduceSub, Nat.reduceMul, Nat.reduceLT, Nat.reduceLeDiff, Nat.reduceBNe, Int.reduceBEq, Int.reduceBNe, Int.reduceLT, Int.reduceLE, Spn.a, Msg.a, Par.a, Nd.a, Seat.a, Cfg.a, h3]
        · simp (maxSteps := 4000000) only [go_sem, ↓reduceIte, reduceCtorEq, Nat.reduceEqDiff, Nat.reduceBEq, Nat.reduceAdd, Nat.reduceSub, Nat.reduceMul, Nat.reduceLT, Nat.reduceLeDiff, Nat.reduceBNe, Int.reduceBEq, Int.reduceBNe, Int.reduceLT, Int.reduceLE, Spn.a, Msg.a, Par.a, Nd.a, Seat.a, Cfg.a, hw]
      · simp only [Bool.not_false, Bool.true_and, Bool.or_true, Bool.and_true, Bool.not_true, Bool.and_false, Bool.false_and] at hr
        subst hr
        (repeat (first | simp (maxSteps := 4000000) only [go_sem, ↓reduceIte, reduceCtorEq, Nat.reduceEqDiff, Nat.reduceBEq, Nat.reduceAdd, Nat.reduceSub, Nat.reduceMul, Nat.reduceLT, Nat.reduceLeDiff, Nat.reduceBNe, Int.reduceBEq, Int.reduceBNe, Int.reduceLT, Int.reduceLE, Spn.a, Msg.a, Par.a, Nd.a, Seat.a, Cfg.a, t3, h3', t7, hlt', hgx, hs, hw, List.length_map, Int.toNat_natCast] | refine calling (cs) ?_ | refine callingH (cs) ?_ | refine calling (cl) ?_ | refine callingH (cl) ?_ | refine And.intro (by omega) ?_ | refine And.intro (fun d hd => by (repeat (rcases hd with rfl | hd; · exact ⟨rfl, rfl⟩)); cases hd) ?_))
        refine hRet _ rfl ?_
        simp (maxSteps := 4000000) only [go_sem, ↓reduceIte, reduceCtorEq, Nat.reduceEqDiff, Nat.reduceBEq, Nat.reduceAdd, Nat.reduceSub, Nat.reduceMul, Nat.reduceLT, Nat.reduceLeDiff, Nat.reduceBNe, Int.reduceBEq, Int.reduceBNe, Int.reduceLT, Int.reduceLE, Spn.a, Msg.a, Par.a, Nd.a, Seat.a, Cfg.a]
    · simp only [Bool.not_false, Bool.true_and, Bool.true_or, Bool.and_true, Bool.not_true, Bool.and_false, Bool.false_and] at hr
      subst hr
      (repeat (first | simp (maxSteps := 4000000) only [go_sem, ↓reduceIte, reduceCtorEq, Nat.reduceEqDiff, Nat.reduceBEq, Nat.reduceAdd, Nat.reduceSub, Nat.reduceMul, Nat.reduceLT, Nat.reduceLeDiff, Nat.reduceBNe, Int.reduceBEq, Int.reduceBNe, Int.reduceLT, Int.reduceLE, Spn.a, Msg.a, Par.a, Nd.a, Seat.a, Cfg.a, t3, h3', t7, hlt', hgx, hs, hw, List.length_map, Int.toNat_natCast] | refine calling (cs) ?_ | refine callingH (cs) ?_ | refine calling (cl) ?_ | refine callingH (cl) ?_ | refine And.intro (by omega) ?_ | refine And.intro (fun d hd => by (repeat (rcases hd with rfl | hd; · exact ⟨rfl, rfl⟩)); cases hd) ?_))
      refine hRet _ rfl ?_
      simp (maxSteps := 4000000) only [go_sem, ↓reduceIte, reduceCtorEq, Nat.reduceEqDiff, Nat.reduceBEq, Nat.reduceAdd, Nat.reduceSub, Nat.reduceMul, Nat.reduceLT, Nat.reduceLeDiff, Nat.reduceBNe, Int.reduceBEq, Int.reduceBNe, Int.reduceLT, Int.reduceLE, Spn.a, Msg.a, Par.a, Nd.a, Seat.a, Cfg.a]
  · rw [htop] at hr h3'
    simp only [Bool.not_true, Bool.false_and, Bool.not_false, Bool.and_true, Bool.true_and] at hr
    (repeat (first | simp (maxSteps := 4000000) only [go_sem, ↓reduceIte, reduceCtorEq, Nat.reduceEqDiff, Nat.reduceBEq, Nat.reduceAdd, Nat.reduceSub, Nat.reduceMul, Nat.reduceLT, Nat.reduceLeDiff, Nat.reduceBNe, Int.reduceBEq, Int.reduceBNe, Int.reduceLT, Int.reduceLE, Spn.a, Msg.a, Par.a, Nd.a, Seat.a, Cfg.a, t3, h3', t7, hlt', hgx, hs, hw, List.length_map, Int.toNat_natCast] | refine calling (cs) ?_ | refine callingH (cs) ?_ | refine calling (cl) ?_ | refine callingH (cl) ?_ | refine And.intro (by omega) ?_ | refine And.intro (fun d hd => by (repeat (rcases hd with rfl | hd; · exact ⟨rfl, rfl⟩)); cases hd) ?_))
    refine ⟨n.msgs.length - (i + 1), by omega, i + 1, by omega, rfl, ?_, ?_, ?_, hr⟩
    · simp (maxSteps := 4000000) only [go_sem, ↓reduceIte, reduceCtorEq, Nat.reduceEqDiff, Nat.reduceBEq, Nat.reduceAdd, Nat.reduceSub, Nat.reduceMul, Nat.reduceLT, Nat.reduceLeDiff, Nat.reduceBNe, Int.reduceBEq, Int.reduceBNe, Int.reduceLT, Int.reduceLE, Spn.a, Msg.a, Par.a, Nd.a, Seat.a, Cfg.a, t3]
    · simp (maxSteps := 4000000) only [go_sem, ↓reduceIte, reduceCtorEq, Nat.reduceEqDiff, Nat.reduceBEq, Nat.reduceAdd, Nat.reduceSub, Nat.reduceMul, Nat.reduceLT, Nat.reduceLeDiff, Nat.reduceBNe, Int.reduceBEq, Int.reduceBNe, Int.reduceLT, Int.reduceLE, Spn.a, Msg.a, Par.a, Nd.a, Seat.a, Cfg.a, h3]
    · simp (maxSteps := 4000000) only [go_sem, ↓reduceIte, reduceCtorEq, Nat.reduceEqDiff, Nat.reduceBEq, Nat.reduceAdd, Nat.reduceSub, Nat.reduceMul, Nat.reduceLT, Nat.reduceLeDiff, Nat.reduceBNe, Int.reduceBEq, Int.reduceBNe, Int.reduceLT, Int.reduceLE, Spn.a, Msg.a, Par.a, Nd.a, Seat.a, Cfg.a, hw]
set_option maxHeartbeats 2000000 in
theorem inner21_ok (c : Cfg) (n : Nd) (hn : n.Lt) : AFn Try.prog 118 [c.a, n.a] (.bool (innerB c n)) := by
  refine fn_inner21 rfl ?_
  have h1 := hn.npiv
  have h2 := hn.nkid
  have h3 := hn.nmsg
  have h4 := hn.nrow
  have cR := right15_ok n.pivots n.kids (by omega) (fun x hx => by have := hn.piv x hx; omega)
  have cA := refAll n.msgs (by omega) (fun m hm => by obtain ⟨a, b, _⟩ := hn.msgs m hm; omega)
  have cZ := ref18Size n.msgs ⟨by omega, fun m hm => by obtain ⟨a, b, d⟩ := hn.msgs m hm; omega⟩
  unfold innerB
  obtain ⟨RK, hK⟩ : ∃ R, n.kids.all (fun k => decide (0 ≤ k)) = R := ⟨_, rfl⟩
  obtain ⟨RP, hP⟩ : ∃ R, n.pivots.all (pvB n) = R := ⟨_, rfl⟩
  obtain ⟨RM, hM⟩ : ∃ R, n.msgs.all (msB n) = R := ⟨_, rfl⟩
  rw [hK, hP, hM]
  by_cases q1 : n.rows.length = 0
  case neg =>
    have q1' : (0 : Int) < (n.rows.length : Int) := by omega
    rw [decide_eq_false q1]
    (repeat (first | simp (maxSteps := 4000000) only [go_sem, ↓reduceIte, reduceCtorEq, Nat.reduceEqDiff, Nat.reduceBEq, Nat.reduceAdd, Nat.reduceSub, Nat.reduceMul, Nat.reduceLT, Nat.reduceLeDiff, Nat.reduceBNe, Int.reduceBEq, Int.reduceBNe, Int.reduceLT, Int.reduceLE, Spn.a, Msg.a, Par.a, Nd.a, Seat.a, Cfg.a, List.length_map, q1'] | refine calling (cR) ?_ | refine callingH (cR) ?_ | refine calling (cA) ?_ | refine callingH (cA) ?_ | refine calling (cZ) ?_ | refine callingH (cZ) ?_ | refine And.intro (by omega) ?_ | refine And.intro (fun d hd => by (repeat (rcases hd with rfl | hd; · exact ⟨rfl, rfl⟩)); cases hd) ?_))
  have q1' : ¬ (0 : Int) < (n.rows.length : Int) := by omega
  rw [decide_eq_true q1]
  by_cases q2 : 2 ≤ n.kids.length
  case neg =>
    have q2' : (n.kids.length : Int) < 2 := by omega
    rw [decide_eq_false q2]
    (repeat (first | simp (maxSteps := 4000000) only [go_sem, ↓reduceIte, reduceCtorEq, Nat.reduceEqDiff, Nat.reduceBEq, Nat.reduceAdd, Nat.reduceSub, Nat.reduceMul, Nat.reduceLT, Nat.reduceLeDiff, Nat.reduceBNe, Int.reduceBEq, Int.reduceBNe, Int.reduceLT, Int.reduceLE, Spn.a, Msg.a, Par.a, Nd.a, Seat.a, Cfg.a, List.length_map, q1', q2'] | refine calling (cR) ?_ | refine callingH (cR) ?_ | refine calling (cA) ?_ | refine callingH (cA) ?_ | refine calling (cZ) ?_ | refine callingH (cZ) ?_ | refine And.intro (by omega) ?_ | refine And.intro (fun d hd => by (repeat (rcases hd with rfl | hd; · exact ⟨rfl, rfl⟩)); cases hd) ?_))
  have q2' : ¬ (n.kids.length : Int) < 2 := by omega
  rw [decide_eq_true q2]
  by_cases q3 : (n.kids.length : Int) ≤ c.fanout
  case neg =>
    have q3' : c.fanout < (n.kids.length : Int) := by omega
    rw [decide_eq_false q3]
    (repeat (first | simp (maxSteps := 4000000) only [go_sem, ↓reduceIte, reduceCtorEq, Nat.reduceEqDiff, Nat.reduceBEq, Nat.reduceAdd, Nat.reduceSub, Nat.reduceMul, Nat.reduceLT, Nat.reduceLeDiff, Nat.reduceBNe, Int.reduceBEq, Int.reduceBNe, Int.reduceLT, Int.reduceLE, Spn.a, Msg.a, Par.a, Nd.a, Seat.a, Cfg.a, List.length_map, q1', q2', q3'] | refine calling (cR) ?_ | refine callingH (cR) ?_ | refine calling (cA) ?_ | refine callingH (cA) ?_ | refine calling (cZ) ?_ | refine callingH (cZ) ?_ | refine And.intro (by omega) ?_ | refine And.intro (fun d hd => by (repeat (rcases hd with rfl | hd; · exact ⟨rfl, rfl⟩)); cases hd) ?_))
  have q3' : ¬ c.fanout < (n.kids.length : Int) := by omega
  rw [decide_eq_true q3]
  generalize rightK n.pivots n.kids = b1 at *
  cases b1
  · (repeat (first | simp (maxSteps := 4000000) only [go_sem, ↓reduceIte, reduceCtorEq, Nat.reduceEqDiff, Nat.reduceBEq, Nat.reduceAdd, Nat.reduceSub, Nat.reduceMul, Nat.reduceLT, Nat.reduceLeDiff, Nat.reduceBNe, Int.reduceBEq, Int.reduceBNe, Int.reduceLT, Int.reduceLE, Spn.a, Msg.a, Par.a, Nd.a, Seat.a, Cfg.a, List.length_map, q1', q2', q3'] | refine calling (cR) ?_ | refine callingH (cR) ?_ | refine calling (cA) ?_ | refine callingH (cA) ?_ | refine calling (cZ) ?_ | refine callingH (cZ) ?_ | refine And.intro (by omega) ?_ | refine And.intro (fun d hd => by (repeat (rcases hd with rfl | hd; · exact ⟨rfl, rfl⟩)); cases hd) ?_))
  generalize AllProp n.msgs = b2 at *
  cases b2
  · (repeat (first | simp (maxSteps := 4000000) only [go_sem, ↓reduceIte, reduceCtorEq, Nat.reduceEqDiff, Nat.reduceBEq, Nat.reduceAdd, Nat.reduceSub, Nat.reduceMul, Nat.reduceLT, Nat.reduceLeDiff, Nat.reduceBNe, Int.reduceBEq, Int.reduceBNe, Int.reduceLT, Int.reduceLE, Spn.a, Msg.a, Par.a, Nd.a, Seat.a, Cfg.a, List.length_map, q1', q2', q3'] | refine calling (cR) ?_ | refine callingH (cR) ?_ | refine calling (cA) ?_ | refine callingH (cA) ?_ | refine calling (cZ) ?_ | refine callingH (cZ) ?_ | refine And.intro (by omega) ?_ | refine And.intro (fun d hd => by (repeat (rcases hd with rfl | hd; · exact ⟨rfl, rfl⟩)); cases hd) ?_))
  by_cases q4 : (sizes n.msgs : Int) ≤ c.budget
  case neg =>
    have q4' : c.budget < (sizes n.msgs : Int) := by omega
    rw [decide_eq_false q4]
    (repeat (first | simp (maxSteps := 4000000) only [go_sem, ↓reduceIte, reduceCtorEq, Nat.reduceEqDiff, Nat.reduceBEq, Nat.reduceAdd, Nat.reduceSub, Nat.reduceMul, Nat.reduceLT, Nat.reduceLeDiff, Nat.reduceBNe, Int.reduceBEq, Int.reduceBNe, Int.reduceLT, Int.reduceLE, Spn.a, Msg.a, Par.a, Nd.a, Seat.a, Cfg.a, List.length_map, q1', q2', q3', q4'] | refine calling (cR) ?_ | refine callingH (cR) ?_ | refine calling (cA) ?_ | refine callingH (cA) ?_ | refine calling (cZ) ?_ | refine callingH (cZ) ?_ | refine And.intro (by omega) ?_ | refine And.intro (fun d hd => by (repeat (rcases hd with rfl | hd; · exact ⟨rfl, rfl⟩)); cases hd) ?_))
  have q4' : ¬ c.budget < (sizes n.msgs : Int) := by omega
  rw [decide_eq_true q4]
  (repeat (first | simp (maxSteps := 4000000) only [go_sem, ↓reduceIte, reduceCtorEq, Nat.reduceEqDiff, Nat.reduceBEq, Nat.reduceAdd, Nat.reduceSub, Nat.reduceMul, Nat.reduceLT, Nat.reduceLeDiff, Nat.reduceBNe, Int.reduceBEq, Int.reduceBNe, Int.reduceLT, Int.reduceLE, Spn.a, Msg.a, Par.a, Nd.a, Seat.a, Cfg.a, List.length_map, q1', q2', q3', q4'] | refine calling (cR) ?_ | refine callingH (cR) ?_ | refine calling (cA) ?_ | refine callingH (cA) ?_ | refine calling (cZ) ?_ | refine callingH (cZ) ?_ | refine And.intro (by omega) ?_ | refine And.intro (fun d hd => by (repeat (rcases hd with rfl | hd; · exact ⟨rfl, rfl⟩)); cases hd) ?_))
  clear cR cA cZ q1' q2' q3' q4' q4 q3 q2 q1
  refine run_loop (nodeInv n 5 n.kids.length (fun i => (n.kids.drop i).all fun k => decide (0 ≤ k)) RK) (k := n.kids.length) ⟨0, by omega, rfl, ?_, ?_, ?_, hK⟩ (kids_loop n h2 RK _ ?_ ?_)
  · simp (maxSteps := 4000000) only [go_sem, ↓reduceIte, reduceCtorEq, Nat.reduceEqDiff, Nat.reduceBEq, Nat.reduceAdd, Nat.reduceSub, Nat.reduceMul, Nat.reduceLT, Nat.reduceLeDiff, Nat.reduceBNe, Int.reduceBEq, Int.reduceBNe, Int.reduceLT, Int.reduceLE, Spn.a, Msg.a, Par.a, Nd.a, Seat.a, Cfg.a]
  · simp (maxSteps := 4000000) only [go_sem, ↓reduceIte, reduceCtorEq, Nat.reduceEqDiff, Nat.reduceBEq, Nat.reduceAdd, Nat.reduceSub, Nat.reduceMul, Nat.reduceLT, Nat.reduceLeDiff, Nat.reduceBNe, Int.reduceBEq, Int.reduceBNe, Int.reduceLT, Int.reduceLE, Spn.a, Msg.a, Par.a, Nd.a, Seat.a, Cfg.a]
  · (simp (maxSteps := 4000000) only [go_sem, ↓reduceIte, reduceCtorEq, Nat.reduceEqDiff, Nat.reduceBEq, Nat.reduceAdd, Nat.reduceSub, Nat.reduceMul, Nat.reduceLT, Nat.reduceLeDiff, Nat.reduceBNe, Int.reduceBEq, Int.reduceBNe, Int.reduceLT, Int.reduceLE, Spn.a, Msg.a, Par.a, Nd.a, Seat.a, Cfg.a]) <;> rfl
  · intro σ hk t3 h3
    subst hk
    simp (maxSteps := 4000000) only [go_sem, ↓reduceIte, reduceCtorEq, Nat.reduceEqDiff, Nat.reduceBEq, Nat.reduceAdd, Nat.reduceSub, Nat.reduceMul, Nat.reduceLT, Nat.reduceLeDiff, Nat.reduceBNe, Int.reduceBEq, Int.reduceBNe, Int.reduceLT, Int.reduceLE, Spn.a, Msg.a, Par.a, Nd.a, Seat.a, Cfg.a, t3, h3]
    refine run_loop (nodeInv n 6 n.pivots.length (fun i => (n.pivots.drop i).all (pvB n)) RP) (k := n.pivots.length) ⟨0, by omega, rfl, ?_, ?_, ?_, hP⟩ (pivots_loop n hn RP _ ?_ ?_)
    · simp (maxSteps := 4000000) only [go_sem, ↓reduceIte, reduceCtorEq, Nat.reduceEqDiff, Nat.reduceBEq, Nat.reduceAdd, Nat.reduceSub, Nat.reduceMul, Nat.reduceLT, Nat.reduceLeDiff, Nat.reduceBNe, Int.reduceBEq, Int.reduceBNe, Int.reduceLT, Int.reduceLE, Spn.a, Msg.a, Par.a, Nd.a, Seat.a, Cfg.a, t3]
    · simp (maxSteps := 4000000) only [go_sem, ↓reduceIte, reduceCtorEq, Nat.reduceEqDiff, Nat.reduceBEq, Nat.reduceAdd, Nat.reduceSub, Nat.reduceMul, Nat.reduceLT, Nat.reduceLeDiff, Nat.reduceBNe, Int.reduceBEq, Int.reduceBNe, Int.reduceLT, Int.reduceLE, Spn.a, Msg.a, Par.a, Nd.a, Seat.a, Cfg.a, h3]
    · (simp (maxSteps := 4000000) only [go_sem, ↓reduceIte, reduceCtorEq, Nat.reduceEqDiff, Nat.reduceBEq, Nat.reduceAdd, Nat.reduceSub, Nat.reduceMul, Nat.reduceLT, Nat.reduceLeDiff, Nat.reduceBNe, Int.reduceBEq, Int.reduceBNe, Int.reduceLT, Int.reduceLE, Spn.a, Msg.a, Par.a, Nd.a, Seat.a, Cfg.a]) <;> rfl
    · intro σ hk t3 h3
      subst hk
      simp (maxSteps := 4000000) only [go_sem, ↓reduceIte, reduceCtorEq, Nat.reduceEqDiff, Nat.reduceBEq, Nat.reduceAdd, Nat.reduceSub, Nat.reduceMul, Nat.reduceLT, Nat.reduceLeDiff, Nat.reduceBNe, Int.reduceBEq, Int.reduceBNe, Int.reduceLT, Int.reduceLE, Spn.a, Msg.a, Par.a, Nd.a, Seat.a, Cfg.a, t3, h3]
      refine run_loop (nodeInv n 7 n.msgs.length (fun i => (n.msgs.drop i).all (msB n)) RM) (k := n.msgs.length) ⟨0, by omega, rfl, ?_, ?_, ?_, hM⟩ (msgs_loop n hn RM _ ?_ ?_)
      · simp (maxSteps := 4000000) only [go_sem, ↓reduceIte, reduceCtorEq, Nat.reduceEqDiff, Nat.reduceBEq, Nat.reduceAdd, Nat.reduceSub, Nat.reduceMul, Nat.reduceLT, Nat.reduceLeDiff, Nat.reduceBNe, Int.reduceBEq, Int.reduceBNe, Int.reduceLT, Int.reduceLE, Spn.a, Msg.a, Par.a, Nd.a, Seat.a, Cfg.a, t3]
      · simp (maxSteps := 4000000) only [go_sem, ↓reduceIte, reduceCtorEq, Nat.reduceEqDiff, Nat.reduceBEq, Nat.reduceAdd, Nat.reduceSub, Nat.reduceMul, Nat.reduceLT, Nat.reduceLeDiff, Nat.reduceBNe, Int.reduceBEq, Int.reduceBNe, Int.reduceLT, Int.reduceLE, Spn.a, Msg.a, Par.a, Nd.a, Seat.a, Cfg.a, h3]
      · (simp (maxSteps := 4000000) only [go_sem, ↓reduceIte, reduceCtorEq, Nat.reduceEqDiff, Nat.reduceBEq, Nat.reduceAdd, Nat.reduceSub, Nat.reduceMul, Nat.reduceLT, Nat.reduceLeDiff, Nat.reduceBNe, Int.reduceBEq, Int.reduceBNe, Int.reduceLT, Int.reduceLE, Spn.a, Msg.a, Par.a, Nd.a, Seat.a, Cfg.a]) <;> rfl
      · intro σ hk
        subst hk
        simp (maxSteps := 4000000) only [go_sem, ↓reduceIte, reduceCtorEq, Nat.reduceEqDiff, Nat.reduceBEq, Nat.reduceAdd, Nat.reduceSub, Nat.reduceMul, Nat.reduceLT, Nat.reduceLeDiff, Nat.reduceBNe, Int.reduceBEq, Int.reduceBNe, Int.reduceLT, Int.reduceLE, Spn.a, Msg.a, Par.a, Nd.a, Seat.a, Cfg.a]
      · intro σ hk t4
        subst hk
        simp (maxSteps := 4000000) only [go_sem, ↓reduceIte, reduceCtorEq, Nat.reduceEqDiff, Nat.reduceBEq, Nat.reduceAdd, Nat.reduceSub, Nat.reduceMul, Nat.reduceLT, Nat.reduceLeDiff, Nat.reduceBNe, Int.reduceBEq, Int.reduceBNe, Int.reduceLT, Int.reduceLE, Spn.a, Msg.a, Par.a, Nd.a, Seat.a, Cfg.a, t4]
    · intro σ hk t4
      subst hk
      simp (maxSteps := 4000000) only [go_sem, ↓reduceIte, reduceCtorEq, Nat.reduceEqDiff, Nat.reduceBEq, Nat.reduceAdd, Nat.reduceSub, Nat.reduceMul, Nat.reduceLT, Nat.reduceLeDiff, Nat.reduceBNe, Int.reduceBEq, Int.reduceBNe, Int.reduceLT, Int.reduceLE, Spn.a, Msg.a, Par.a, Nd.a, Seat.a, Cfg.a, t4]
  · intro σ hk t4
    subst hk
    simp (maxSteps := 4000000) only [go_sem, ↓reduceIte, reduceCtorEq, Nat.reduceEqDiff, Nat.reduceBEq, Nat.reduceAdd, Nat.reduceSub, Nat.reduceMul, Nat.reduceLT, Nat.reduceLeDiff, Nat.reduceBNe, Int.reduceBEq, Int.reduceBNe, Int.reduceLT, Int.reduceLE, Spn.a, Msg.a, Par.a, Nd.a, Seat.a, Cfg.a, t4]
end
end Go.Proofs.Ythfdbjocpicbmaa
