/-
  Part 9 of a proof: SqK, TeA, LoA.
-/
import Derived.Test.YthfdbjocpicbmaaLO8
namespace Go.Proofs.Ythfdbjocpicbmaa
attribute [local go_sem] ev0 ev1 ev2 ev3 ev4 evA stHOk.eq_1 stHOk.eq_2 stHSt.eq_1 stHSt.eq_2 okV valV fzV okF valF okBld valBld mxOk.eq_1 mxOk.eq_2 mxVal.eq_1 mxVal.eq_2 cellFit.eq_1 cellFit.eq_2 cellFit.eq_3 cellEq.eq_1 cellEq.eq_2 cellEq.eq_3 upd_at AV.flatB AV.flatBs binIok binIV binSok binSV cellsOk.eq_1 cellsOk.eq_2 cellsVal.eq_1 cellsVal.eq_2 objCells.eq_1 objCells.eq_2 objZ.eq_1 objZ.eq_2 objProt.eq_1 objProt.eq_2 oneObj ptrOk.eq_1 ptrOk.eq_2 ptrOk.eq_3 ptrCells.eq_1 ptrCells.eq_2 ptrCells.eq_3 lenOk.eq_1 lenOk.eq_2 lenOk.eq_3 lenOk.eq_4 lenVal.eq_1 lenVal.eq_2 lenVal.eq_3 lenVal.eq_4 faOk.eq_1 faOk.eq_2 faOk.eq_3 faVal.eq_1 faVal.eq_2 faVal.eq_3 iaOk.eq_1 iaOk.eq_2 iaOk.eq_3 iaVal.eq_1 iaVal.eq_2 iaVal.eq_3 slcLen.eq_1 slcLen.eq_2 slcLen.eq_3 slcLen.eq_4 bdOk.eq_1 bdOk.eq_2 bdVal.eq_1 bdVal.eq_2 slcOk.eq_1 slcOk.eq_2 slcOk.eq_3 slcOk.eq_4 slcVal.eq_1 slcVal.eq_2 slcVal.eq_3 slcVal.eq_4 slcFz.eq_1 slcFz.eq_2 loK.eq_1 loK.eq_2 loK.eq_3 rsVal.eq_1 rsVal.eq_2 rsVal.eq_3 byOk.eq_1 byOk.eq_2 byOk.eq_3 byOk.eq_4 byOk.eq_5 byOk.eq_6 byOk.eq_7 byOk.eq_8 byVal.eq_1 byVal.eq_2 byVal.eq_3 byFz.eq_1 byFz.eq_2 byFz.eq_3 byOks byVals byFzs allOne resSt.eq_1 resSt.eq_2 resName.eq_1 resName.eq_2 stOk.eq_1 stOk.eq_2 stArr.eq_1 stArr.eq_2 stSt.eq_1 stSt.eq_2 AV.patch nameOk_none gB.eq_1 gB.eq_2 gB.eq_3 gIs.eq_1 gIs.eq_2 gIs.eq_3 retV resV resVs evalV cellsV St.byval List.getD_cons_zero List.getD_cons_succ List.getD_nil List.map_cons List.map_nil List.length_cons List.length_nil List.take_succ_cons List.take_zero List.drop_succ_cons List.drop_zero List.headD_cons List.set_cons_zero List.append_nil List.nil_append List.cons_append List.contains_cons List.contains_nil List.elem_cons List.elem_nil List.all_cons List.all_nil List.getElem?_cons_zero List.getElem?_cons_succ List.filterMap_cons List.filterMap_nil Option.isSome_some Option.isSome_none Option.map_some Option.map_none Option.some.injEq AV.int.injEq AV.bool.injEq AV.str.injEq AV.tup.injEq AV.agg.injEq AV.sl.injEq List.cons.injEq Bool.false_eq_true Bool.true_eq_false Bool.not_true Bool.not_false Bool.and_true Bool.true_and Bool.or_false Bool.or_true Bool.false_or Bool.true_or Bool.or_self Bool.and_self Bool.not_eq_true' Bool.not_eq_false' Bool.not_not beq_self_eq_true true_and and_true false_and and_false and_self not_true_eq_false not_false_eq_true forall_const true_implies false_implies implies_true imp_self Nat.lt_add_one Nat.le_refl Nat.zero_le Nat.add_zero Nat.zero_add decide_true decide_false decide_eq_true_eq decide_eq_false_iff_not exists_eq_left exists_eq_left' ge_iff_le gt_iff_lt ite_branch ite_branch' nilOk.eq_1 nilOk.eq_2 nilMay.eq_1 nilMay.eq_2 AV.isSl.eq_1 objTy'.eq_1 objTy'.eq_2 apSt.eq_1 apArr.eq_1 apArr.eq_2 apTwo.eq_1 apTwo.eq_2 apSt2.eq_1 apArr2.eq_1 apArr2.eq_2 slOf.eq_1 fitsV List.mem_cons List.not_mem_nil Bool.false_and Bool.and_false primOk.eq_1 primOk.eq_2 primOk.eq_3 primOk.eq_4 primOk.eq_5 primVal.eq_1 primVal.eq_2 primVal.eq_3 primVal.eq_4 primVal.eq_5 mOk.eq_1 mOk.eq_2 mVal.eq_1 mVal.eq_2 mFz.eq_1 mFz.eq_2 mOks mVals mFzs mCalOk.eq_1 mCalOk.eq_2 mFn.eq_1 mFn.eq_2 mArgs.eq_1 mArgs.eq_2 ckOk.eq_1 ckOk.eq_2 cloOk.eq_1 ptrAt.eq_1 sh.eq_1 sh.eq_2 sh.eq_3 sh.eq_4 sh.eq_5 sh.eq_6 retM shH_small evM entOk.eq_1 entOk.eq_2 ents.eq_1 ents.eq_2 kI.eq_1 mpOk.eq_1 mpR.eq_1 lkV.eq_1 lkV.eq_2 remp.eq_2 evP pvOk.eq_1 pvOk.eq_2 pvVal.eq_1 pvVal.eq_2 plOk.eq_1 plOk.eq_2 plOk.eq_3 plV.eq_1 plV.eq_2 plF.eq_1 plF.eq_2 plVal.eq_1 plVal.eq_2 plFz.eq_1 plFz.eq_2 lpOk.eq_1 lpOk.eq_2 lpVal.eq_1 lpVal.eq_2 lpFz.eq_1 lpFz.eq_2 stpOk.eq_1 stpOk.eq_2 stpSt.eq_1 stpSt.eq_2 stpArr.eq_1
section
/-
  The document's effects and messages, sizes, and lists that are one, on the plain machine.
-/
open Go.RowKit
set_option linter.unusedVariables false
set_option linter.unusedSimpArgs false
set_option maxRecDepth 100000
attribute [local go_sem ↓] runOp headOp
theorem gM {l : List Msg} {j : Nat} {x : Msg} (hx : l[j]? = some x) : (l.map Msg.a).getD j .und = .agg [.int .i64 x.stamp, .int .i64 x.kind, .str x.key, .str x.hi, .bool x.op, .str x.val] := by
  rw [List.getD_eq_getElem?_getD, List.getElem?_map, hx]; rfl
theorem wS {j : Nat} (h : j ≤ 1000000000000) : IntKind.i64.wrap ((j : Int) + 1) = ((j + 1 : Nat) : Int) := by rw [IntWalk.i64_in _ (by omega)]; rfl
theorem getM {l : List Msg} {j : Nat} (h : j < l.length) : ∃ x, l[j]? = some x := ⟨_, List.getElem?_eq_getElem h⟩
/-! ### percolate/percolateref03.Tail -/
/-! ### percolate/percolateref05.On -/
/-! ### percolate/percolateref05.Size -/
def r_rSize_0 : Reg := ⟨[], [⟨(.box 6 130 (.t 0)), (some 1), none, [], []⟩, ⟨(.mv (.c (.int .i64 0))), (some 2), none, [], []⟩], [1], [], false⟩
def t_rSize_1 : List ROp := [⟨(.faddr 1 (.t 1)), (some 3), none, [], []⟩, ⟨(.load 1 false (.t 3)), (some 4), none, [], []⟩, ⟨(.bin .eql (.t 4) (.c (.int .i64 4))), (some 5), none, [], []⟩]
def r_rSize_1 : Reg := ⟨[], t_rSize_1, [], [], false⟩
def r_rSize_2 : Reg := ⟨[], [⟨(.mv (.c (.int .i64 36))), (some 2), none, [], []⟩], [], [], false⟩
def t_rSize_3 : List ROp := [⟨(.faddr 2 (.t 1)), (some 6), none, [], []⟩, ⟨(.load 1 false (.t 6)), (some 7), none, [], []⟩, ⟨(.len true (.t 7)), (some 8), none, [], []⟩, ⟨(.bin .add (.c (.int .i64 4)) (.t 8)), (some 9), none, [], []⟩, ⟨(.faddr 5 (.t 1)), (some 10), none, [], []⟩, ⟨(.load 1 false (.t 10)), (some 11), none, [], []⟩, ⟨(.len true (.t 11)), (some 12), none, [], []⟩, ⟨(.bin .add (.t 9) (.t 12)), (some 13), none, [], []⟩, ⟨(.mv (.t 13)), (some 2), none, [], []⟩]
def r_rSize_3 : Reg := ⟨[], t_rSize_3, [], [], false⟩
def ir_rSize : IR := (.seq (.reg r_rSize_0)
  (.seq (.seq (.reg r_rSize_1)
  (.cond (.t 5) (.seq (.reg r_rSize_2)
  .ret)
  .skip))
  (.seq (.reg r_rSize_3)
  .ret)))
def res_rSize : List RDesc := [(.tmp 2)]
theorem e_rSize_0 (C : FuncId → List AV → AV → Prop) (σ : St) (K : St → Prop) : runReg C r_rSize_0 σ K = runOps C [⟨(.box 6 130 (.t 0)), (some 1), none, [], []⟩, ⟨(.mv (.c (.int .i64 0))), (some 2), none, [], []⟩] (σ.kills [1]) K := rfl
theorem e_rSize_1 (C : FuncId → List AV → AV → Prop) (σ : St) (K : St → Prop) : runReg C r_rSize_1 σ K = runOps C t_rSize_1 (σ.kills []) K := rfl
theorem e_rSize_2 (C : FuncId → List AV → AV → Prop) (σ : St) (K : St → Prop) : runReg C r_rSize_2 σ K = runOps C [⟨(.mv (.c (.int .i64 36))), (some 2), none, [], []⟩] (σ.kills []) K := rfl
theorem e_rSize_3 (C : FuncId → List AV → AV → Prop) (σ : St) (K : St → Prop) : runReg C r_rSize_3 σ K = runOps C t_rSize_3 (σ.kills []) K := rfl
theorem fn_rSize {args : List AV} {r : AV} (ha : args.length.ble Try.f181.ntmps = true) (h : run (AFn Try.prog) ir_rSize (endQ res_rSize r) (initSt args)) : AFn Try.prog 181 args r :=
  AFn.of_code (pv := false) (hint := fun _ => []) (c := Try.f181.body.getD .skip) (by kernel_rfl) (by kernel_rfl) Try.func181 (by kernel_rfl) (by kernel_rfl) (by kernel_rfl) (of_decide_eq_true (by kernel_rfl)) (Nat.le_of_ble_eq_true ha) (Nat.le_of_ble_eq_true (by kernel_rfl)) (run_ok h)
/-! ### percolate/percolateref18.Size -/
def r_r18Size_0 : Reg := ⟨[], [⟨(.mv (.c (.int .i64 0))), (some 2), none, [], []⟩], [], [], false⟩
def r_r18Size_1 : Reg := ⟨[], [⟨(.mv (.c (.int .i64 0))), (some 3), none, [], []⟩], [], [], false⟩
def r_r18Size_2 : Reg := ⟨[], [⟨(.mv (.c (.int .i64 0))), (some 4), none, [], []⟩], [], [], false⟩
def t_r18Size_3 : List ROp := [⟨(.mv (.t 4)), (some 5), none, [], []⟩, ⟨(.mv (.t 0)), (some 6), none, [], []⟩, ⟨(.len false (.t 6)), (some 7), none, [], []⟩, ⟨(.bin .lss (.t 5) (.t 7)), (some 8), none, [], []⟩]
def r_r18Size_3 : Reg := ⟨[], t_r18Size_3, [], [], false⟩
def t_r18Size_4 : List ROp := [⟨(.mv (.t 3)), (some 11), none, [16], []⟩, ⟨(.mv (.t 0)), (some 12), none, [16], []⟩, ⟨(.mv (.t 4)), (some 13), none, [16], []⟩, ⟨(.iaddr 6 (.t 12) (.t 13)), (some 14), none, [16], []⟩, ⟨(.load 6 true (.t 14)), (some 15), none, [16], []⟩, ⟨(.callv (.c (.clo 181 [] [])) [(.t 15)]), (some 16), none, [], []⟩, ⟨(.bin .add (.t 11) (.t 16)), (some 17), none, [], []⟩, ⟨(.mv (.t 17)), (some 3), none, [], []⟩]
def r_r18Size_4 : Reg := ⟨[], t_r18Size_4, [16], [], false⟩
def t_r18Size_5 : List ROp := [⟨(.mv (.t 4)), (some 9), none, [], []⟩, ⟨(.bin .add (.t 9) (.c (.int .i64 1))), (some 10), none, [], []⟩, ⟨(.mv (.t 10)), (some 4), none, [], []⟩]
def r_r18Size_5 : Reg := ⟨[], t_r18Size_5, [], [], false⟩
def r_r18Size_l6 : IR := (.seq (.seq (.reg r_r18Size_3)
  (.cond (.t 8) .skip
  (.exit 0)))
  (.seq (.block 1 (.reg r_r18Size_4))
  (.reg r_r18Size_5)))
def r_r18Size_7 : Reg := ⟨[], [⟨(.mv (.t 3)), (some 18), none, [], []⟩, ⟨(.mv (.t 18)), (some 2), none, [], []⟩], [], [], false⟩
def ir_r18Size : IR := (.seq (.reg r_r18Size_0)
  (.seq (.reg r_r18Size_1)
  (.seq (.seq (.reg r_r18Size_2)
  (.block 0 (.loop r_r18Size_l6)))
  (.seq (.reg r_r18Size_7)
  .ret))))
def res_r18Size : List RDesc := [(.tmp 2)]
theorem e_r18Size_0 (C : FuncId → List AV → AV → Prop) (σ : St) (K : St → Prop) : runReg C r_r18Size_0 σ K = runOps C [⟨(.mv (.c (.int .i64 0))), (some 2), none, [], []⟩] (σ.kills []) K := rfl
theorem e_r18Size_1 (C : FuncId → List AV → AV → Prop) (σ : St) (K : St → Prop) : runReg C r_r18Size_1 σ K = runOps C [⟨(.mv (.c (.int .i64 0))), (some 3), none, [], []⟩] (σ.kills []) K := rfl
theorem e_r18Size_2 (C : FuncId → List AV → AV → Prop) (σ : St) (K : St → Prop) : runReg C r_r18Size_2 σ K = runOps C [⟨(.mv (.c (.int .i64 0))), (some 4), none, [], []⟩] (σ.kills []) K := rfl
theorem e_r18Size_3 (C : FuncId → List AV → AV → Prop) (σ : St) (K : St → Prop) : runReg C r_r18Size_3 σ K = runOps C t_r18Size_3 (σ.kills []) K := rfl
theorem e_r18Size_4 (C : FuncId → List AV → AV → Prop) (σ : St) (K : St → Prop) : runReg C r_r18Size_4 σ K = runOps C t_r18Size_4 (σ.kills [16]) K := rfl
theorem e_r18Size_5 (C : FuncId → List AV → AV → Prop) (σ : St) (K : St → Prop) : runReg C r_r18Size_5 σ K = runOps C t_r18Size_5 (σ.kills []) K := rfl
theorem e_r18Size_7 (C : FuncId → List AV → AV → Prop) (σ : St) (K : St → Prop) : runReg C r_r18Size_7 σ K = runOps C [⟨(.mv (.t 3)), (some 18), none, [], []⟩, ⟨(.mv (.t 18)), (some 2), none, [], []⟩] (σ.kills []) K := rfl
theorem fn_r18Size {args : List AV} {r : AV} (ha : args.length.ble Try.f154.ntmps = true) (h : run (AFn Try.prog) ir_r18Size (endQ res_r18Size r) (initSt args)) : AFn Try.prog 154 args r :=
  AFn.of_code (pv := false) (hint := fun _ => []) (c := Try.f154.body.getD .skip) (by kernel_rfl) (by kernel_rfl) Try.func154 (by kernel_rfl) (by kernel_rfl) (by kernel_rfl) (of_decide_eq_true (by kernel_rfl)) (Nat.le_of_ble_eq_true ha) (Nat.le_of_ble_eq_true (by kernel_rfl)) (run_ok h)
attribute [local go_sem ↓] ir_rSize
attribute [local go_sem] res_rSize e_rSize_0 e_rSize_1 t_rSize_1 e_rSize_2 e_rSize_3 t_rSize_3
attribute [local go_sem ↓] ir_r18Size
attribute [local go_sem] res_r18Size e_r18Size_0 e_r18Size_1 e_r18Size_2 e_r18Size_3 t_r18Size_3 e_r18Size_4 t_r18Size_4 e_r18Size_5 t_r18Size_5 e_r18Size_7
def KOk (l : List Msg) : Prop := l.length ≤ 1000000 ∧ ∀ m, m ∈ l → m.key.size ≤ 1000000 ∧ m.hi.size ≤ 1000000 ∧ m.val.size ≤ 1000000
theorem refSize (m : Msg) (h1 : m.key.size ≤ 1000000) (h2 : m.val.size ≤ 1000000) : AFn Try.prog 181 [m.a] (.int .i64 (m.size : Int)) := by
  refine fn_rSize rfl ?_
  cases h : (m.kind == 4) with
  | true =>
    have h' : m.kind = 4 := by simpa using h
    simp (maxSteps := 4000000) only [go_sem, ↓reduceIte, reduceCtorEq, Nat.reduceEqDiff, Nat.reduceBEq, Nat.reduceAdd, Nat.reduceSub, Nat.reduceMul, Nat.reduceLT, Nat.reduceLeDiff, Nat.reduceBNe, Int.reduceBEq, Int.reduceBNe, Int.reduceLT, Int.reduceLE, Spn.a, Msg.a, Eff.a, h]
    simp [Msg.size, h']
  | false =>
    have h' : m.kind ≠ 4 := by simpa using h
    have w1 : IntKind.i64.wrap (4 + (m.key.size : Int)) = 4 + (m.key.size : Int) := IntWalk.i64_in _ (by omega)
    have w2 : IntKind.i64.wrap (4 + (m.key.size : Int) + (m.val.size : Int)) = 4 + (m.key.size : Int) + (m.val.size : Int) := IntWalk.i64_in _ (by omega)
    simp (maxSteps := 4000000) only [go_sem, ↓reduceIte, reduceCtorEq, Nat.reduceEqDiff, Nat.reduceBEq, Nat.reduceAdd, Nat.reduceSub, Nat.reduceMul, Nat.reduceLT, Nat.reduceLeDiff, Nat.reduceBNe, Int.reduceBEq, Int.reduceBNe, Int.reduceLT, Int.reduceLE, Spn.a, Msg.a, Eff.a, h, w1, w2]
    simp [Msg.size, h']
theorem take_one {l : List Msg} {j : Nat} {x : Msg} (hx : l[j]? = some x) : l.take (j + 1) = l.take j ++ [x] := by
  rw [List.take_add_one, hx]; rfl
theorem size_le (m : Msg) (h1 : m.key.size ≤ 1000000) (h2 : m.val.size ≤ 1000000) : m.size ≤ 2000036 := by
  unfold Msg.size; split <;> omega
theorem sizes_le : ∀ {l : List Msg}, (∀ m, m ∈ l → m.key.size ≤ 1000000 ∧ m.hi.size ≤ 1000000 ∧ m.val.size ≤ 1000000) → sizes l ≤ l.length * 2000036
  | [], _ => Nat.zero_le _
  | m :: l, h => by
    rw [sizes_cons, List.length_cons]
    have h1 := sizes_le (l := l) fun x hx => h x (List.mem_cons_of_mem _ hx)
    have h2 := size_le m (h m (List.mem_cons_self ..)).1 (h m (List.mem_cons_self ..)).2.2
    omega
theorem sizes_take {l : List Msg} (h : KOk l) (j : Nat) : sizes (l.take j) ≤ 2000036000000 := by
  have h1 := sizes_le (l := l.take j) fun x hx => h.2 x (List.mem_of_mem_take hx)
  have h2 := h.1
  have h3 : (l.take j).length ≤ l.length := by rw [List.length_take]; omega
  omega
def szInv (l : List Msg) (k : Nat) (σ : St) : Prop :=
  ∃ j : Nat, j ≤ l.length ∧ k = l.length - j ∧ σ.T 0 = .sl (l.map Msg.a) ∧ σ.T 3 = .int .i64 ((sizes (l.take j) : Nat) : Int) ∧ σ.T 4 = .int .i64 j
theorem ref18Size (l : List Msg) (hl : KOk l) : AFn Try.prog 154 [.sl (l.map Msg.a)] (.int .i64 (sizes l : Int)) := by
  refine fn_r18Size rfl ?_
  simp (maxSteps := 4000000) only [go_sem, ↓reduceIte, reduceCtorEq, Nat.reduceEqDiff, Nat.reduceBEq, Nat.reduceAdd, Nat.reduceSub, Nat.reduceMul, Nat.reduceLT, Nat.reduceLeDiff, Nat.reduceBNe, Int.reduceBEq, Int.reduceBNe, Int.reduceLT, Int.reduceLE, Spn.a, Msg.a, Eff.a]
  refine run_loop (szInv l) (k := l.length) ⟨0, by omega, rfl, ?_, ?_, ?_⟩ ?_
  · simp (maxSteps := 4000000) only [go_sem, ↓reduceIte, reduceCtorEq, Nat.reduceEqDiff, Nat.reduceBEq, Nat.reduceAdd, Nat.reduceSub, Nat.reduceMul, Nat.reduceLT, Nat.reduceLeDiff, Nat.reduceBNe, Int.reduceBEq, Int.reduceBNe, Int.reduceLT, Int.reduceLE, Spn.a, Msg.a, Eff.a]
  · simp (maxSteps := 4000000) only [go_sem, ↓reduceIte, reduceCtorEq, Nat.reduceEqDiff, Nat.reduceBEq, Nat.reduceAdd, Nat.reduceSub, Nat.reduceMul, Nat.reduceLT, Nat.reduceLeDiff, Nat.reduceBNe, Int.reduceBEq, Int.reduceBNe, Int.reduceLT, Int.reduceLE, Spn.a, Msg.a, Eff.a]
    rfl
  · simp (maxSteps := 4000000) only [go_sem, ↓reduceIte, reduceCtorEq, Nat.reduceEqDiff, Nat.reduceBEq, Nat.reduceAdd, Nat.reduceSub, Nat.reduceMul, Nat.reduceLT, Nat.reduceLeDiff, Nat.reduceBNe, Int.reduceBEq, Int.reduceBNe, Int.reduceLT, Int.reduceLE, Spn.a, Msg.a, Eff.a]
    rfl
  rintro k σ ⟨j, hj, rfl, t0, t3, t4⟩
  simp only [r_r18Size_l6]
  by_cases hlt : j < l.length
  · have hlt' : (j : Int) < (l.length : Int) := by omega
    obtain ⟨x, hx⟩ := getM hlt
    have hm := hl.2 x (List.mem_of_getElem? hx)
    have hw := wS (j := j) (by have := hl.1; omega)
    have hw2 : IntKind.i64.wrap (((sizes (l.take j) : Nat) : Int) + (x.size : Int)) = ((sizes (l.take (j + 1)) : Nat) : Int) := by
      rw [IntWalk.i64_in _ (by have := sizes_take hl j; have := size_le x hm.1 hm.2.2; omega), take_one hx, sizes_app, sizes_cons]; simp [sizes]
    simp (maxSteps := 4000000) only [go_sem, ↓reduceIte, reduceCtorEq, Nat.reduceEqDiff, Nat.reduceBEq, Nat.reduceAdd, Nat.reduceSub, Nat.reduceMul, Nat.reduceLT, Nat.reduceLeDiff, Nat.reduceBNe, Int.reduceBEq, Int.reduceBNe, Int.reduceLT, Int.reduceLE, Spn.a, Msg.a, Eff.a, t0, t3, t4, hlt', gM hx, List.length_map, Int.toNat_natCast]
    refine ⟨by omega, ?_⟩
    (first | refine calling (refSize x hm.1 hm.2.2) ?_ | refine callingH (refSize x hm.1 hm.2.2) ?_)
    simp (maxSteps := 4000000) only [go_sem, ↓reduceIte, reduceCtorEq, Nat.reduceEqDiff, Nat.reduceBEq, Nat.reduceAdd, Nat.reduceSub, Nat.reduceMul, Nat.reduceLT, Nat.reduceLeDiff, Nat.reduceBNe, Int.reduceBEq, Int.reduceBNe, Int.reduceLT, Int.reduceLE, Spn.a, Msg.a, Eff.a, t0, t3, t4, hw, hw2]
    refine ⟨l.length - (j + 1), by omega, j + 1, by omega, rfl, ?_, ?_, ?_⟩ <;>
      (simp (maxSteps := 4000000) only [go_sem, ↓reduceIte, reduceCtorEq, Nat.reduceEqDiff, Nat.reduceBEq, Nat.reduceAdd, Nat.reduceSub, Nat.reduceMul, Nat.reduceLT, Nat.reduceLeDiff, Nat.reduceBNe, Int.reduceBEq, Int.reduceBNe, Int.reduceLT, Int.reduceLE, Spn.a, Msg.a, Eff.a, t0, t3, t4, hw, hw2])
  · have hlt' : ¬ (j : Int) < (l.length : Int) := by omega
    simp (maxSteps := 4000000) only [go_sem, ↓reduceIte, reduceCtorEq, Nat.reduceEqDiff, Nat.reduceBEq, Nat.reduceAdd, Nat.reduceSub, Nat.reduceMul, Nat.reduceLT, Nat.reduceLeDiff, Nat.reduceBNe, Int.reduceBEq, Int.reduceBNe, Int.reduceLT, Int.reduceLE, Spn.a, Msg.a, Eff.a, t0, t3, t4, hlt', List.length_map]
    rw [List.take_of_length_le (by omega)]
end
section
/-
  Trees of the document: nodes found by their slots; keys that rise; ranges; messages cut and laid one behind the other: walked.
-/
open Go.RowKit
set_option linter.unusedVariables false
set_option linter.unusedSimpArgs false
set_option maxRecDepth 100000
attribute [local go_sem ↓] runOp headOp
def nul0 : ByteArray := ⟨#[]⟩
def Nd.zero : Nd := ⟨0, 0, [], [], nul0, false, 0, 0, [], []⟩
def Msg.zero : Msg := ⟨0, 0, nul0, nul0, false, nul0⟩
def findGo (slot : Int) : Nd → Nat → List Nd → Nd × Nat
  | o, n, [] => (o, n)
  | o, n, x :: l => if x.slot = slot then findGo slot x (n + 1) l else findGo slot o n l
def findF (l : List Nd) (slot : Int) : Nd × Bool := ((findGo slot Nd.zero 0 l).1, decide ((findGo slot Nd.zero 0 l).2 = 1))
/-! ### percolate/percolateref17.Find -/
def t_find_0 : List ROp := [⟨(.alloc 10 36 (.agg [(.int .i64 0), (.int .i64 0), (.sl []), (.sl []), (.str ⟨#[]⟩), (.bool false), (.int .i64 0), (.int .i64 0), (.sl []), (.sl [])])), (some 4), none, [], []⟩, ⟨(.mv (.c (.bool false))), (some 5), none, [], []⟩]
def r_find_0 : Reg := ⟨[], t_find_0, [4], [], false⟩
def t_find_1 : List ROp := [⟨(.bld [(.int .i64 0), (.int .i64 0), (.sl []), (.sl []), (.str ⟨#[]⟩), (.bool false), (.int .i64 0), (.int .i64 0), (.sl []), (.sl [])] []), (some 9), none, [6], []⟩, ⟨(.alloc 10 36 (.agg [(.int .i64 0), (.int .i64 0), (.sl []), (.sl []), (.str ⟨#[]⟩), (.bool false), (.int .i64 0), (.int .i64 0), (.sl []), (.sl [])])), (some 6), none, [], []⟩, ⟨(.store 10 (.t 6) (.t 9)), none, none, [], []⟩]
def r_find_1 : Reg := ⟨[], t_find_1, [6], [], false⟩
def r_find_2 : Reg := ⟨[], [⟨(.mv (.c (.int .i64 0))), (some 7), none, [], []⟩], [], [], false⟩
def r_find_3 : Reg := ⟨[], [⟨(.mv (.c (.int .i64 0))), (some 8), none, [], []⟩], [], [], false⟩
def t_find_4 : List ROp := [⟨(.mv (.t 8)), (some 10), none, [], []⟩, ⟨(.mv (.t 0)), (some 11), none, [], []⟩, ⟨(.len false (.t 11)), (some 12), none, [], []⟩, ⟨(.bin .lss (.t 10) (.t 12)), (some 13), none, [], []⟩]
def r_find_4 : Reg := ⟨[], t_find_4, [], [], false⟩
def t_find_5 : List ROp := [⟨(.mv (.t 0)), (some 16), none, [], []⟩, ⟨(.mv (.t 8)), (some 17), none, [], []⟩, ⟨(.iaddr 10 (.t 16) (.t 17)), (some 18), none, [], []⟩, ⟨(.faddr 0 (.t 18)), (some 19), none, [], []⟩, ⟨(.load 1 false (.t 19)), (some 20), none, [], []⟩, ⟨(.mv (.t 1)), (some 21), none, [], []⟩, ⟨(.bin .eql (.t 20) (.t 21)), (some 22), none, [], []⟩]
def r_find_5 : Reg := ⟨[], t_find_5, [], [], false⟩
def t_find_6 : List ROp := [⟨(.mv (.t 0)), (some 23), none, [], []⟩, ⟨(.mv (.t 8)), (some 24), none, [], []⟩, ⟨(.iaddr 10 (.t 23) (.t 24)), (some 25), none, [], []⟩, ⟨(.load 10 true (.t 25)), (some 26), none, [], []⟩, ⟨(.store 10 (.t 6) (.t 26)), none, none, [], []⟩]
def r_find_6 : Reg := ⟨[], t_find_6, [], [], false⟩
def t_find_7 : List ROp := [⟨(.mv (.t 7)), (some 27), none, [], []⟩, ⟨(.bin .add (.t 27) (.c (.int .i64 1))), (some 28), none, [], []⟩, ⟨(.mv (.t 28)), (some 7), none, [], []⟩]
def r_find_7 : Reg := ⟨[], t_find_7, [], [], false⟩
def t_find_8 : List ROp := [⟨(.mv (.t 8)), (some 14), none, [], []⟩, ⟨(.bin .add (.t 14) (.c (.int .i64 1))), (some 15), none, [], []⟩, ⟨(.mv (.t 15)), (some 8), none, [], []⟩]
def r_find_8 : Reg := ⟨[], t_find_8, [], [], false⟩
def r_find_l9 : IR := (.seq (.seq (.reg r_find_4)
  (.cond (.t 13) .skip
  (.exit 0)))
  (.seq (.block 1 (.seq (.reg r_find_5)
  (.cond (.t 22) (.seq (.reg r_find_6)
  (.reg r_find_7))
  .skip)))
  (.reg r_find_8)))
def t_find_10 : List ROp := [⟨(.load 10 true (.t 6)), (some 29), none, [], []⟩, ⟨(.mv (.t 7)), (some 30), none, [], []⟩, ⟨(.bin .eql (.t 30) (.c (.int .i64 1))), (some 31), none, [], []⟩, ⟨(.store 10 (.t 4) (.t 29)), none, none, [], []⟩, ⟨(.mv (.t 31)), (some 5), none, [], []⟩]
def r_find_10 : Reg := ⟨[], t_find_10, [], [], false⟩
def ir_find : IR := (.seq (.reg r_find_0)
  (.seq (.reg r_find_1)
  (.seq (.reg r_find_2)
  (.seq (.seq (.reg r_find_3)
  (.block 0 (.loop r_find_l9)))
  (.seq (.reg r_find_10)
  .ret)))))
def res_find : List RDesc := [(.cell 4 10 true), (.tmp 5)]
theorem e_find_0 (C : FuncId → List AV → AV → Prop) (σ : St) (K : St → Prop) : runReg C r_find_0 σ K = runOps C t_find_0 (σ.kills [4]) K := rfl
theorem e_find_1 (C : FuncId → List AV → AV → Prop) (σ : St) (K : St → Prop) : runReg C r_find_1 σ K = runOps C t_find_1 (σ.kills [6]) K := rfl
theorem e_find_2 (C : FuncId → List AV → AV → Prop) (σ : St) (K : St → Prop) : runReg C r_find_2 σ K = runOps C [⟨(.mv (.c (.int .i64 0))), (some 7), none, [], []⟩] (σ.kills []) K := rfl
theorem e_find_3 (C : FuncId → List AV → AV → Prop) (σ : St) (K : St → Prop) : runReg C r_find_3 σ K = runOps C [⟨(.mv (.c (.int .i64 0))), (some 8), none, [], []⟩] (σ.kills []) K := rfl
theorem e_find_4 (C : FuncId → List AV → AV → Prop) (σ : St) (K : St → Prop) : runReg C r_find_4 σ K = runOps C t_find_4 (σ.kills []) K := rfl
theorem e_find_5 (C : FuncId → List AV → AV → Prop) (σ : St) (K : St → Prop) : runReg C r_find_5 σ K = runOps C t_find_5 (σ.kills []) K := rfl
theorem e_find_6 (C : FuncId → List AV → AV → Prop) (σ : St) (K : St → Prop) : runReg C r_find_6 σ K = runOps C t_find_6 (σ.kills []) K := rfl
theorem e_find_7 (C : FuncId → List AV → AV → Prop) (σ : St) (K : St → Prop) : runReg C r_find_7 σ K = runOps C t_find_7 (σ.kills []) K := rfl
theorem e_find_8 (C : FuncId → List AV → AV → Prop) (σ : St) (K : St → Prop) : runReg C r_find_8 σ K = runOps C t_find_8 (σ.kills []) K := rfl
theorem e_find_10 (C : FuncId → List AV → AV → Prop) (σ : St) (K : St → Prop) : runReg C r_find_10 σ K = runOps C t_find_10 (σ.kills []) K := rfl
theorem fn_find {args : List AV} {r : AV} (ha : args.length.ble Try.f52.ntmps = true) (h : run (AFn Try.prog) ir_find (endQ res_find r) (initSt args)) : AFn Try.prog 52 args r :=
  AFn.of_code (pv := false) (hint := fun _ => []) (c := Try.f52.body.getD .skip) (by kernel_rfl) (by kernel_rfl) Try.func52 (by kernel_rfl) (by kernel_rfl) (by kernel_rfl) (of_decide_eq_true (by kernel_rfl)) (Nat.le_of_ble_eq_true ha) (Nat.le_of_ble_eq_true (by kernel_rfl)) (run_ok h)
/-! ### percolate/percolateref01.Rising -/
def r_rising_0 : Reg := ⟨[], [⟨(.mv (.c (.bool false))), (some 2), none, [], []⟩], [], [], false⟩
def r_rising_1 : Reg := ⟨[], [⟨(.mv (.c (.int .i64 1))), (some 3), none, [], []⟩], [], [], false⟩
def t_rising_2 : List ROp := [⟨(.mv (.t 3)), (some 4), none, [], []⟩, ⟨(.mv (.t 0)), (some 5), none, [], []⟩, ⟨(.len false (.t 5)), (some 6), none, [], []⟩, ⟨(.bin .lss (.t 4) (.t 6)), (some 7), none, [], []⟩]
def r_rising_2 : Reg := ⟨[], t_rising_2, [], [], false⟩
def t_rising_3 : List ROp := [⟨(.callv (.c (.clo 91 [] [])) [(.t 14), (.t 18)]), (some 19), none, [], []⟩, ⟨(.un .not (.t 19)), (some 20), none, [], []⟩]
def h_rising_3 : List ROp := [⟨(.mv (.t 0)), (some 10), none, [19], []⟩, ⟨(.mv (.t 3)), (some 11), none, [19], []⟩, ⟨(.bin .sub (.t 11) (.c (.int .i64 1))), (some 12), none, [19], []⟩, ⟨(.iaddr 1 (.t 10) (.t 12)), (some 13), none, [19], []⟩, ⟨(.load 1 false (.t 13)), (some 14), none, [19], []⟩, ⟨(.mv (.t 0)), (some 15), none, [19], []⟩, ⟨(.mv (.t 3)), (some 16), none, [19], []⟩, ⟨(.iaddr 1 (.t 15) (.t 16)), (some 17), none, [19], []⟩, ⟨(.load 1 false (.t 17)), (some 18), none, [19], []⟩]
def r_rising_3 : Reg := ⟨h_rising_3, t_rising_3, [19], [], true⟩
def r_rising_4 : Reg := ⟨[], [⟨(.mv (.c (.bool false))), (some 2), none, [], []⟩], [], [], false⟩
def t_rising_5 : List ROp := [⟨(.mv (.t 3)), (some 8), none, [], []⟩, ⟨(.bin .add (.t 8) (.c (.int .i64 1))), (some 9), none, [], []⟩, ⟨(.mv (.t 9)), (some 3), none, [], []⟩]
def r_rising_5 : Reg := ⟨[], t_rising_5, [], [], false⟩
def r_rising_l6 : IR := (.seq (.seq (.reg r_rising_2)
  (.cond (.t 7) .skip
  (.exit 0)))
  (.seq (.block 1 (.seq (.reg r_rising_3)
  (.cond (.t 20) (.seq (.reg r_rising_4)
  .ret)
  .skip)))
  (.reg r_rising_5)))
def r_rising_7 : Reg := ⟨[], [⟨(.mv (.c (.bool true))), (some 2), none, [], []⟩], [], [], false⟩
def ir_rising : IR := (.seq (.reg r_rising_0)
  (.seq (.seq (.reg r_rising_1)
  (.block 0 (.loop r_rising_l6)))
  (.seq (.reg r_rising_7)
  .ret)))
def res_rising : List RDesc := [(.tmp 2)]
theorem e_rising_0 (C : FuncId → List AV → AV → Prop) (σ : St) (K : St → Prop) : runReg C r_rising_0 σ K = runOps C [⟨(.mv (.c (.bool false))), (some 2), none, [], []⟩] (σ.kills []) K := rfl
theorem e_rising_1 (C : FuncId → List AV → AV → Prop) (σ : St) (K : St → Prop) : runReg C r_rising_1 σ K = runOps C [⟨(.mv (.c (.int .i64 1))), (some 3), none, [], []⟩] (σ.kills []) K := rfl
theorem e_rising_2 (C : FuncId → List AV → AV → Prop) (σ : St) (K : St → Prop) : runReg C r_rising_2 σ K = runOps C t_rising_2 (σ.kills []) K := rfl
theorem e_rising_3 (C : FuncId → List AV → AV → Prop) (σ : St) (K : St → Prop) : runReg C r_rising_3 σ K = runHead C [] t_rising_3 h_rising_3 (σ.kills [19]) K := rfl
theorem e_rising_4 (C : FuncId → List AV → AV → Prop) (σ : St) (K : St → Prop) : runReg C r_rising_4 σ K = runOps C [⟨(.mv (.c (.bool false))), (some 2), none, [], []⟩] (σ.kills []) K := rfl
theorem e_rising_5 (C : FuncId → List AV → AV → Prop) (σ : St) (K : St → Prop) : runReg C r_rising_5 σ K = runOps C t_rising_5 (σ.kills []) K := rfl
theorem e_rising_7 (C : FuncId → List AV → AV → Prop) (σ : St) (K : St → Prop) : runReg C r_rising_7 σ K = runOps C [⟨(.mv (.c (.bool true))), (some 2), none, [], []⟩] (σ.kills []) K := rfl
theorem fn_rising {args : List AV} {r : AV} (ha : args.length.ble Try.f90.ntmps = true) (h : run (AFn Try.prog) ir_rising (endQ res_rising r) (initSt args)) : AFn Try.prog 90 args r :=
  AFn.of_code (pv := false) (hint := fun _ => []) (c := Try.f90.body.getD .skip) (by kernel_rfl) (by kernel_rfl) Try.func90 (by kernel_rfl) (by kernel_rfl) (by kernel_rfl) (of_decide_eq_true (by kernel_rfl)) (Nat.le_of_ble_eq_true ha) (Nat.le_of_ble_eq_true (by kernel_rfl)) (run_ok h)
/-! ### percolate/percolateref15.Right -/
def r_right15_0 : Reg := ⟨[], [⟨(.mv (.c (.bool false))), (some 4), none, [], []⟩], [], [], false⟩
def t_right15_1 : List ROp := [⟨(.mv (.t 0)), (some 5), none, [6], []⟩, ⟨(.callv (.c (.clo 90 [] [])) [(.t 5)]), (some 6), none, [], []⟩, ⟨(.mv (.t 6)), (some 7), none, [], []⟩, ⟨(.mv (.t 1)), (some 8), (some (7, true)), [], []⟩, ⟨(.len false (.t 8)), (some 9), (some (7, true)), [], []⟩, ⟨(.mv (.t 0)), (some 10), (some (7, true)), [], []⟩, ⟨(.len false (.t 10)), (some 11), (some (7, true)), [], []⟩, ⟨(.bin .add (.t 11) (.c (.int .i64 1))), (some 12), (some (7, true)), [], []⟩, ⟨(.bin .eql (.t 9) (.t 12)), (some 13), (some (7, true)), [], []⟩, ⟨(.pick (.t 7) (.t 13) (.c (.bool false))), (some 14), none, [], []⟩, ⟨(.mv (.t 14)), (some 4), none, [], []⟩]
def r_right15_1 : Reg := ⟨[], t_right15_1, [6], [], false⟩
def ir_right15 : IR := (.seq (.reg r_right15_0)
  (.seq (.reg r_right15_1)
  .ret))
def res_right15 : List RDesc := [(.tmp 4)]
theorem e_right15_0 (C : FuncId → List AV → AV → Prop) (σ : St) (K : St → Prop) : runReg C r_right15_0 σ K = runOps C [⟨(.mv (.c (.bool false))), (some 4), none, [], []⟩] (σ.kills []) K := rfl
theorem e_right15_1 (C : FuncId → List AV → AV → Prop) (σ : St) (K : St → Prop) : runReg C r_right15_1 σ K = runOps C t_right15_1 (σ.kills [6]) K := rfl
theorem fn_right15 {args : List AV} {r : AV} (ha : args.length.ble Try.f53.ntmps = true) (h : run (AFn Try.prog) ir_right15 (endQ res_right15 r) (initSt args)) : AFn Try.prog 53 args r :=
  AFn.of_code (pv := false) (hint := fun _ => []) (c := Try.f53.body.getD .skip) (by kernel_rfl) (by kernel_rfl) Try.func53 (by kernel_rfl) (by kernel_rfl) (by kernel_rfl) (of_decide_eq_true (by kernel_rfl)) (Nat.le_of_ble_eq_true ha) (Nat.le_of_ble_eq_true (by kernel_rfl)) (run_ok h)
/-! ### percolate/percolateref15.Range -/
def r_range15_0 : Reg := ⟨[], [⟨(.alloc 3 38 (.agg [(.str ⟨#[]⟩), (.str ⟨#[]⟩), (.bool false)])), (some 4), none, [], []⟩], [4], [], false⟩
def t_range15_1 : List ROp := [⟨(.bld [(.str ⟨#[]⟩), (.str ⟨#[]⟩), (.bool false)] [⟨2, 1, (.c (.bool true))⟩]), (some 6), none, [5], []⟩, ⟨(.alloc 3 38 (.agg [(.str ⟨#[]⟩), (.str ⟨#[]⟩), (.bool false)])), (some 5), none, [], []⟩, ⟨(.store 3 (.t 5) (.t 6)), none, none, [], []⟩]
def r_range15_1 : Reg := ⟨[], t_range15_1, [5], [], false⟩
def t_range15_2 : List ROp := [⟨(.mv (.t 1)), (some 7), none, [], []⟩, ⟨(.bin .lss (.t 7) (.c (.int .i64 0))), (some 8), none, [], []⟩, ⟨(.mv (.t 8)), (some 9), none, [], []⟩, ⟨(.mv (.t 1)), (some 10), (some (9, false)), [], []⟩, ⟨(.mv (.t 0)), (some 11), (some (9, false)), [], []⟩, ⟨(.len false (.t 11)), (some 12), (some (9, false)), [], []⟩, ⟨(.bin .gtr (.t 10) (.t 12)), (some 13), (some (9, false)), [], []⟩, ⟨(.pick (.t 9) (.c (.bool true)) (.t 13)), (some 14), none, [], []⟩]
def r_range15_2 : Reg := ⟨[], t_range15_2, [], [], false⟩
def t_range15_3 : List ROp := [⟨(.bld [(.str ⟨#[]⟩), (.str ⟨#[]⟩), (.bool false)] []), (some 15), none, [], []⟩, ⟨(.store 3 (.t 4) (.t 15)), none, none, [], []⟩]
def r_range15_3 : Reg := ⟨[], t_range15_3, [], [], false⟩
def r_range15_4 : Reg := ⟨[], [⟨(.mv (.t 1)), (some 16), none, [], []⟩, ⟨(.bin .gtr (.t 16) (.c (.int .i64 0))), (some 17), none, [], []⟩], [], [], false⟩
def t_range15_5 : List ROp := [⟨(.mv (.t 0)), (some 18), none, [], []⟩, ⟨(.mv (.t 1)), (some 19), none, [], []⟩, ⟨(.bin .sub (.t 19) (.c (.int .i64 1))), (some 20), none, [], []⟩, ⟨(.iaddr 1 (.t 18) (.t 20)), (some 21), none, [], []⟩, ⟨(.load 1 false (.t 21)), (some 22), none, [], []⟩, ⟨(.faddr 0 (.t 5)), (some 23), none, [], []⟩, ⟨(.store 1 (.t 23) (.t 22)), none, none, [], []⟩]
def r_range15_5 : Reg := ⟨[], t_range15_5, [], [], false⟩
def t_range15_6 : List ROp := [⟨(.mv (.t 1)), (some 24), none, [], []⟩, ⟨(.mv (.t 0)), (some 25), none, [], []⟩, ⟨(.len false (.t 25)), (some 26), none, [], []⟩, ⟨(.bin .lss (.t 24) (.t 26)), (some 27), none, [], []⟩]
def r_range15_6 : Reg := ⟨[], t_range15_6, [], [], false⟩
def r_range15_7 : Reg := ⟨[], [⟨(.faddr 2 (.t 5)), (some 28), none, [], []⟩, ⟨(.store 1 (.t 28) (.c (.bool false))), none, none, [], []⟩], [], [], false⟩
def t_range15_8 : List ROp := [⟨(.mv (.t 0)), (some 29), none, [], []⟩, ⟨(.mv (.t 1)), (some 30), none, [], []⟩, ⟨(.iaddr 1 (.t 29) (.t 30)), (some 31), none, [], []⟩, ⟨(.load 1 false (.t 31)), (some 32), none, [], []⟩, ⟨(.faddr 1 (.t 5)), (some 33), none, [], []⟩, ⟨(.store 1 (.t 33) (.t 32)), none, none, [], []⟩]
def r_range15_8 : Reg := ⟨[], t_range15_8, [], [], false⟩
def t_range15_9 : List ROp := [⟨(.load 3 true (.t 5)), (some 34), none, [35], []⟩, ⟨(.callv (.c (.clo 92 [] [])) [(.t 34)]), (some 35), none, [], []⟩, ⟨(.store 3 (.t 4) (.t 35)), none, none, [], []⟩]
def r_range15_9 : Reg := ⟨[], t_range15_9, [35], [], false⟩
def ir_range15 : IR := (.seq (.reg r_range15_0)
  (.seq (.reg r_range15_1)
  (.seq (.seq (.reg r_range15_2)
  (.cond (.t 14) (.seq (.reg r_range15_3)
  .ret)
  .skip))
  (.seq (.seq (.reg r_range15_4)
  (.cond (.t 17) (.reg r_range15_5)
  .skip))
  (.seq (.seq (.reg r_range15_6)
  (.cond (.t 27) (.seq (.reg r_range15_7)
  (.reg r_range15_8))
  .skip))
  (.seq (.reg r_range15_9)
  .ret))))))
def res_range15 : List RDesc := [(.cell 4 3 true)]
theorem e_range15_0 (C : FuncId → List AV → AV → Prop) (σ : St) (K : St → Prop) : runReg C r_range15_0 σ K = runOps C [⟨(.alloc 3 38 (.agg [(.str ⟨#[]⟩), (.str ⟨#[]⟩), (.bool false)])), (some 4), none, [], []⟩] (σ.kills [4]) K := rfl
theorem e_range15_1 (C : FuncId → List AV → AV → Prop) (σ : St) (K : St → Prop) : runReg C r_range15_1 σ K = runOps C t_range15_1 (σ.kills [5]) K := rfl
theorem e_range15_2 (C : FuncId → List AV → AV → Prop) (σ : St) (K : St → Prop) : runReg C r_range15_2 σ K = runOps C t_range15_2 (σ.kills []) K := rfl
theorem e_range15_3 (C : FuncId → List AV → AV → Prop) (σ : St) (K : St → Prop) : runReg C r_range15_3 σ K = runOps C t_range15_3 (σ.kills []) K := rfl
theorem e_range15_4 (C : FuncId → List AV → AV → Prop) (σ : St) (K : St → Prop) : runReg C r_range15_4 σ K = runOps C [⟨(.mv (.t 1)), (some 16), none, [], []⟩, ⟨(.bin .gtr (.t 16) (.c (.int .i64 0))), (some 17), none, [], []⟩] (σ.kills []) K := rfl
theorem e_range15_5 (C : FuncId → List AV → AV → Prop) (σ : St) (K : St → Prop) : runReg C r_range15_5 σ K = runOps C t_range15_5 (σ.kills []) K := rfl
theorem e_range15_6 (C : FuncId → List AV → AV → Prop) (σ : St) (K : St → Prop) : runReg C r_range15_6 σ K = runOps C t_range15_6 (σ.kills []) K := rfl
theorem e_range15_7 (C : FuncId → List AV → AV → Prop) (σ : St) (K : St → Prop) : runReg C r_range15_7 σ K = runOps C [⟨(.faddr 2 (.t 5)), (some 28), none, [], []⟩, ⟨(.store 1 (.t 28) (.c (.bool false))), none, none, [], []⟩] (σ.kills []) K := rfl
theorem e_range15_8 (C : FuncId → List AV → AV → Prop) (σ : St) (K : St → Prop) : runReg C r_range15_8 σ K = runOps C t_range15_8 (σ.kills []) K := rfl
theorem e_range15_9 (C : FuncId → List AV → AV → Prop) (σ : St) (K : St → Prop) : runReg C r_range15_9 σ K = runOps C t_range15_9 (σ.kills [35]) K := rfl
theorem fn_range15 {args : List AV} {r : AV} (ha : args.length.ble Try.f55.ntmps = true) (h : run (AFn Try.prog) ir_range15 (endQ res_range15 r) (initSt args)) : AFn Try.prog 55 args r :=
  AFn.of_code (pv := false) (hint := fun _ => []) (c := Try.f55.body.getD .skip) (by kernel_rfl) (by kernel_rfl) Try.func55 (by kernel_rfl) (by kernel_rfl) (by kernel_rfl) (of_decide_eq_true (by kernel_rfl)) (Nat.le_of_ble_eq_true ha) (Nat.le_of_ble_eq_true (by kernel_rfl)) (run_ok h)
attribute [local go_sem ↓] ir_find
attribute [local go_sem] res_find e_find_0 t_find_0 e_find_1 t_find_1 e_find_2 e_find_3 e_find_4 t_find_4 e_find_5 t_find_5 e_find_6 t_find_6 e_find_7 t_find_7 e_find_8 t_find_8 e_find_10 t_find_10
attribute [local go_sem ↓] ir_rising
attribute [local go_sem] res_rising e_rising_0 e_rising_1 e_rising_2 t_rising_2 e_rising_3 t_rising_3 h_rising_3 e_rising_4 e_rising_5 t_rising_5 e_rising_7
attribute [local go_sem ↓] ir_right15
attribute [local go_sem] res_right15 e_right15_0 e_right15_1 t_right15_1
attribute [local go_sem ↓] ir_range15
attribute [local go_sem] res_range15 e_range15_0 e_range15_1 t_range15_1 e_range15_2 t_range15_2 e_range15_3 t_range15_3 e_range15_4 e_range15_5 t_range15_5 e_range15_6 t_range15_6 e_range15_7 e_range15_8 t_range15_8 e_range15_9 t_range15_9
def findInv (l : List Nd) (slot : Int) (R : Nd × Nat) (k : Nat) (σ : St) : Prop :=
  ∃ (j n : Nat) (o : Nd), j ≤ l.length ∧ k = l.length - j ∧ n ≤ j ∧ σ.T 0 = .sl (l.map Nd.a) ∧ σ.T 1 = .int .i64 slot ∧ σ.T 4 = .ptr 4 0 0 ∧ σ.H 4 = some ⟨10, 36, [Nd.zero.a], 0⟩ ∧
    σ.T 6 = .ptr 6 0 0 ∧ σ.H 6 = some ⟨10, 36, [o.a], 0⟩ ∧ σ.T 7 = .int .i64 n ∧ σ.T 8 = .int .i64 j ∧ findGo slot o n (l.drop j) = R
set_option maxHeartbeats 1000000 in
theorem find_ok (l : List Nd) (slot : Int) (hl : l.length ≤ 1000000000) : AFn Try.prog 52 [.sl (l.map Nd.a), .int .i64 slot] (.tup [(findF l slot).1.a, .bool (findF l slot).2]) := by
  refine fn_find rfl ?_
  unfold findF
  obtain ⟨R, hR⟩ : ∃ R, findGo slot Nd.zero 0 l = R := ⟨_, rfl⟩
  rw [hR]
  simp (maxSteps := 4000000) only [go_sem, ↓reduceIte, reduceCtorEq, Nat.reduceEqDiff, Nat.reduceBEq, Nat.reduceAdd, Nat.reduceSub, Nat.reduceMul, Nat.reduceLT, Nat.reduceLeDiff, Nat.reduceBNe, Int.reduceBEq, Int.reduceBNe, Int.reduceLT, Int.reduceLE, Spn.a, Msg.a, Par.a, Nd.a]
  refine run_loop (findInv l slot R) (k := l.length) ⟨0, 0, Nd.zero, by omega, rfl, by omega, rfl, rfl, ?_, ?_, ?_, ?_, rfl, rfl, hR⟩ ?_
  · simp (maxSteps := 4000000) only [go_sem, ↓reduceIte, reduceCtorEq, Nat.reduceEqDiff, Nat.reduceBEq, Nat.reduceAdd, Nat.reduceSub, Nat.reduceMul, Nat.reduceLT, Nat.reduceLeDiff, Nat.reduceBNe, Int.reduceBEq, Int.reduceBNe, Int.reduceLT, Int.reduceLE, Spn.a, Msg.a, Par.a, Nd.a]
  · simp (maxSteps := 4000000) only [go_sem, ↓reduceIte, reduceCtorEq, Nat.reduceEqDiff, Nat.reduceBEq, Nat.reduceAdd, Nat.reduceSub, Nat.reduceMul, Nat.reduceLT, Nat.reduceLeDiff, Nat.reduceBNe, Int.reduceBEq, Int.reduceBNe, Int.reduceLT, Int.reduceLE, Spn.a, Msg.a, Par.a, Nd.a]; rfl
  · simp (maxSteps := 4000000) only [go_sem, ↓reduceIte, reduceCtorEq, Nat.reduceEqDiff, Nat.reduceBEq, Nat.reduceAdd, Nat.reduceSub, Nat.reduceMul, Nat.reduceLT, Nat.reduceLeDiff, Nat.reduceBNe, Int.reduceBEq, Int.reduceBNe, Int.reduceLT, Int.reduceLE, Spn.a, Msg.a, Par.a, Nd.a]
  · simp (maxSteps := 4000000) only [go_sem, ↓reduceIte, reduceCtorEq, Nat.reduceEqDiff, Nat.reduceBEq, Nat.reduceAdd, Nat.reduceSub, Nat.reduceMul, Nat.reduceLT, Nat.reduceLeDiff, Nat.reduceBNe, Int.reduceBEq, Int.reduceBNe, Int.reduceLT, Int.reduceLE, Spn.a, Msg.a, Par.a, Nd.a]; rfl
  clear hR
  rintro k σ ⟨j, n, o, hj, rfl, hn, t0, t1, t4, h4, t6, h6, t7, t8, hr⟩
  simp only [r_find_l9]
  by_cases hlt : j < l.length
  · have hlt' : (j : Int) < (l.length : Int) := by omega
    obtain ⟨x, hx⟩ := get_lt hlt
    have hgj := at_map (f := Nd.a) hx
    simp only [Nd.a] at hgj h6 h4
    have hw := wrapS (j := j) (by omega)
    have hw' := wrapS (j := n) (by omega)
    rw [drop_at hx, findGo] at hr
    by_cases hs : x.slot = slot
    · have hs' : (x.slot == slot) = true := by simp [hs]
      rw [if_pos hs] at hr
      simp (maxSteps := 4000000) only [go_sem, ↓reduceIte, reduceCtorEq, Nat.reduceEqDiff, Nat.reduceBEq, Nat.reduceAdd, Nat.reduceSub, Nat.reduceMul, Nat.reduceLT, Nat.reduceLeDiff, Nat.reduceBNe, Int.reduceBEq, Int.reduceBNe, Int.reduceLT, Int.reduceLE, Spn.a, Msg.a, Par.a, Nd.a, t0, t1, t4, h4, t6, h6, t7, t8, hlt', hgj, hs', List.length_map, Int.toNat_natCast, hw, hw']
      (repeat refine And.intro (by omega) ?_)
      refine ⟨l.length - (j + 1), by omega, j + 1, n + 1, x, by omega, rfl, by omega, ?_, ?_, ?_, ?_, ?_, ?_, ?_, ?_, hr⟩
      · simp (maxSteps := 4000000) only [go_sem, ↓reduceIte, reduceCtorEq, Nat.reduceEqDiff, Nat.reduceBEq, Nat.reduceAdd, Nat.reduceSub, Nat.reduceMul, Nat.reduceLT, Nat.reduceLeDiff, Nat.reduceBNe, Int.reduceBEq, Int.reduceBNe, Int.reduceLT, Int.reduceLE, Spn.a, Msg.a, Par.a, Nd.a, t0]
      · simp (maxSteps := 4000000) only [go_sem, ↓reduceIte, reduceCtorEq, Nat.reduceEqDiff, Nat.reduceBEq, Nat.reduceAdd, Nat.reduceSub, Nat.reduceMul, Nat.reduceLT, Nat.reduceLeDiff, Nat.reduceBNe, Int.reduceBEq, Int.reduceBNe, Int.reduceLT, Int.reduceLE, Spn.a, Msg.a, Par.a, Nd.a, t1]
      · simp (maxSteps := 4000000) only [go_sem, ↓reduceIte, reduceCtorEq, Nat.reduceEqDiff, Nat.reduceBEq, Nat.reduceAdd, Nat.reduceSub, Nat.reduceMul, Nat.reduceLT, Nat.reduceLeDiff, Nat.reduceBNe, Int.reduceBEq, Int.reduceBNe, Int.reduceLT, Int.reduceLE, Spn.a, Msg.a, Par.a, Nd.a, t4]
      · simp (maxSteps := 4000000) only [go_sem, ↓reduceIte, reduceCtorEq, Nat.reduceEqDiff, Nat.reduceBEq, Nat.reduceAdd, Nat.reduceSub, Nat.reduceMul, Nat.reduceLT, Nat.reduceLeDiff, Nat.reduceBNe, Int.reduceBEq, Int.reduceBNe, Int.reduceLT, Int.reduceLE, Spn.a, Msg.a, Par.a, Nd.a, h4]
      · simp (maxSteps := 4000000) only [go_sem, ↓reduceIte, reduceCtorEq, Nat.reduceEqDiff, Nat.reduceBEq, Nat.reduceAdd, Nat.reduceSub, Nat.reduceMul, Nat.reduceLT, Nat.reduceLeDiff, Nat.reduceBNe, Int.reduceBEq, Int.reduceBNe, Int.reduceLT, Int.reduceLE, Spn.a, Msg.a, Par.a, Nd.a, t6]
      · simp (maxSteps := 4000000) only [go_sem, ↓reduceIte, reduceCtorEq, Nat.reduceEqDiff, Nat.reduceBEq, Nat.reduceAdd, Nat.reduceSub, Nat.reduceMul, Nat.reduceLT, Nat.reduceLeDiff, Nat.reduceBNe, Int.reduceBEq, Int.reduceBNe, Int.reduceLT, Int.reduceLE, Spn.a, Msg.a, Par.a, Nd.a]
      · simp (maxSteps := 4000000) only [go_sem, ↓reduceIte, reduceCtorEq, Nat.reduceEqDiff, Nat.reduceBEq, Nat.reduceAdd, Nat.reduceSub, Nat.reduceMul, Nat.reduceLT, Nat.reduceLeDiff, Nat.reduceBNe, Int.reduceBEq, Int.reduceBNe, Int.reduceLT, Int.reduceLE, Spn.a, Msg.a, Par.a, Nd.a, hw']
      · simp (maxSteps := 4000000) only [go_sem, ↓reduceIte, reduceCtorEq, Nat.reduceEqDiff, Nat.reduceBEq, Nat.reduceAdd, Nat.reduceSub, Nat.reduceMul, Nat.reduceLT, Nat.reduceLeDiff, Nat.reduceBNe, Int.reduceBEq, Int.reduceBNe, Int.reduceLT, Int.reduceLE, Spn.a, Msg.a, Par.a, Nd.a, hw]
    · have hs' : (x.slot == slot) = false := by simp [hs]
      rw [if_neg hs] at hr
      simp (maxSteps := 4000000) only [go_sem, ↓reduceIte, reduceCtorEq, Nat.reduceEqDiff, Nat.reduceBEq, Nat.reduceAdd, Nat.reduceSub, Nat.reduceMul, Nat.reduceLT, Nat.reduceLeDiff, Nat.reduceBNe, Int.reduceBEq, Int.reduceBNe, Int.reduceLT, Int.reduceLE, Spn.a, Msg.a, Par.a, Nd.a, t0, t1, t4, h4, t6, h6, t7, t8, hlt', hgj, hs', List.length_map, Int.toNat_natCast, hw]
      (repeat refine And.intro (by omega) ?_)
      refine ⟨l.length - (j + 1), by omega, j + 1, n, o, by omega, rfl, by omega, ?_, ?_, ?_, ?_, ?_, ?_, ?_, ?_, hr⟩
      · simp (maxSteps := 4000000) only [go_sem, ↓reduceIte, reduceCtorEq, Nat.reduceEqDiff, Nat.reduceBEq, Nat.reduceAdd, Nat.reduceSub, Nat.reduceMul, Nat.reduceLT, Nat.reduceLeDiff, Nat.reduceBNe, Int.reduceBEq, Int.reduceBNe, Int.reduceLT, Int.reduceLE, Spn.a, Msg.a, Par.a, Nd.a, t0]
      · simp (maxSteps := 4000000) only [go_sem, ↓reduceIte, reduceCtorEq, Nat.reduceEqDiff, Nat.reduceBEq, Nat.reduceAdd, Nat.reduceSub, Nat.reduceMul, Nat.reduceLT, Nat.reduceLeDiff, Nat.reduceBNe, Int.reduceBEq, Int.reduceBNe, Int.reduceLT, Int.reduceLE, Spn.a, Msg.a, Par.a, Nd.a, t1]
      · simp (maxSteps := 4000000) only [go_sem, ↓reduceIte, reduceCtorEq, Nat.reduceEqDiff, Nat.reduceBEq, Nat.reduceAdd, Nat.reduceSub, Nat.reduceMul, Nat.reduceLT, Nat.reduceLeDiff, Nat.reduceBNe, Int.reduceBEq, Int.reduceBNe, Int.reduceLT, Int.reduceLE, Spn.a, Msg.a, Par.a, Nd.a, t4]
      · simp (maxSteps := 4000000) only [go_sem, ↓reduceIte, reduceCtorEq, Nat.reduceEqDiff, Nat.reduceBEq, Nat.reduceAdd, Nat.reduceSub, Nat.reduceMul, Nat.reduceLT, Nat.reduceLeDiff, Nat.reduceBNe, Int.reduceBEq, Int.reduceBNe, Int.reduceLT, Int.reduceLE, Spn.a, Msg.a, Par.a, Nd.a, h4]
      · simp (maxSteps := 4000000) only [go_sem, ↓reduceIte, reduceCtorEq, Nat.reduceEqDiff, Nat.reduceBEq, Nat.reduceAdd, Nat.reduceSub, Nat.reduceMul, Nat.reduceLT, Nat.reduceLeDiff, Nat.reduceBNe, Int.reduceBEq, Int.reduceBNe, Int.reduceLT, Int.reduceLE, Spn.a, Msg.a, Par.a, Nd.a, t6]
      · simp (maxSteps := 4000000) only [go_sem, ↓reduceIte, reduceCtorEq, Nat.reduceEqDiff, Nat.reduceBEq, Nat.reduceAdd, Nat.reduceSub, Nat.reduceMul, Nat.reduceLT, Nat.reduceLeDiff, Nat.reduceBNe, Int.reduceBEq, Int.reduceBNe, Int.reduceLT, Int.reduceLE, Spn.a, Msg.a, Par.a, Nd.a, h6]
      · simp (maxSteps := 4000000) only [go_sem, ↓reduceIte, reduceCtorEq, Nat.reduceEqDiff, Nat.reduceBEq, Nat.reduceAdd, Nat.reduceSub, Nat.reduceMul, Nat.reduceLT, Nat.reduceLeDiff, Nat.reduceBNe, Int.reduceBEq, Int.reduceBNe, Int.reduceLT, Int.reduceLE, Spn.a, Msg.a, Par.a, Nd.a, t7]
      · simp (maxSteps := 4000000) only [go_sem, ↓reduceIte, reduceCtorEq, Nat.reduceEqDiff, Nat.reduceBEq, Nat.reduceAdd, Nat.reduceSub, Nat.reduceMul, Nat.reduceLT, Nat.reduceLeDiff, Nat.reduceBNe, Int.reduceBEq, Int.reduceBNe, Int.reduceLT, Int.reduceLE, Spn.a, Msg.a, Par.a, Nd.a, hw]
  · have hlt' : ¬ (j : Int) < (l.length : Int) := by omega
    rw [List.drop_eq_nil_of_le (by omega)] at hr
    subst hr
    simp only [Nd.a] at h4 h6
    have hd : ((n : Int) == 1) = decide (n = 1) := by
      by_cases h : n = 1
      · simp [h]
      · rw [decide_eq_false h]; simp; omega
    simp (maxSteps := 4000000) only [go_sem, ↓reduceIte, reduceCtorEq, Nat.reduceEqDiff, Nat.reduceBEq, Nat.reduceAdd, Nat.reduceSub, Nat.reduceMul, Nat.reduceLT, Nat.reduceLeDiff, Nat.reduceBNe, Int.reduceBEq, Int.reduceBNe, Int.reduceLT, Int.reduceLE, Spn.a, Msg.a, Par.a, Nd.a, t0, t1, t4, h4, t6, h6, t7, t8, hlt', List.length_map, findGo, hd]
    exact decide_eq_decide.2 Iff.rfl
/-- do texts rise? -/
def risingB : List ByteArray → Bool
  | x :: y :: l => lt x y && risingB (y :: l)
  | _ => true
def risInv (l : List ByteArray) (R : Bool) (k : Nat) (σ : St) : Prop :=
  ∃ j : Nat, 1 ≤ j ∧ j ≤ l.length ∧ k = l.length - j ∧ σ.T 0 = .sl (l.map .str) ∧ σ.T 3 = .int .i64 j ∧ risingB (l.drop (j - 1)) = R
theorem rising_ok (l : List ByteArray) (hl : l.length ≤ 1000000000) (hs : ∀ x, x ∈ l → x.size ≤ 9223372036854775807) : AFn Try.prog 90 [.sl (l.map .str)] (.bool (risingB l)) := by
  refine fn_rising rfl ?_
  obtain ⟨R, hR⟩ : ∃ R, risingB l = R := ⟨_, rfl⟩
  rw [hR]
  simp (maxSteps := 4000000) only [go_sem, ↓reduceIte, reduceCtorEq, Nat.reduceEqDiff, Nat.reduceBEq, Nat.reduceAdd, Nat.reduceSub, Nat.reduceMul, Nat.reduceLT, Nat.reduceLeDiff, Nat.reduceBNe, Int.reduceBEq, Int.reduceBNe, Int.reduceLT, Int.reduceLE, Spn.a, Msg.a, Par.a, Nd.a]
  by_cases h0 : l.length = 0
  · obtain rfl : l = [] := List.length_eq_zero_iff.1 h0
    subst hR
    refine run_loop (fun k σ => σ.T 0 = .sl [] ∧ σ.T 3 = .int .i64 1) (k := 0) ⟨rfl, rfl⟩ ?_
    rintro k σ ⟨t0, t3⟩
    simp only [r_rising_l6]
    have z : ¬ (1 : Int) < ((0 : Nat) : Int) := by omega
    simp (maxSteps := 4000000) only [go_sem, ↓reduceIte, reduceCtorEq, Nat.reduceEqDiff, Nat.reduceBEq, Nat.reduceAdd, Nat.reduceSub, Nat.reduceMul, Nat.reduceLT, Nat.reduceLeDiff, Nat.reduceBNe, Int.reduceBEq, Int.reduceBNe, Int.reduceLT, Int.reduceLE, Spn.a, Msg.a, Par.a, Nd.a, t0, t3, z, List.length_map, Int.ofNat_zero]
    rfl
  refine run_loop (risInv l R) (k := l.length - 1) ⟨1, by omega, by omega, rfl, rfl, rfl, hR⟩ ?_
  clear hR
  rintro k σ ⟨j, h1, hj, rfl, t0, t3, hr⟩
  simp only [r_rising_l6]
  by_cases hlt : j < l.length
  · have hlt' : (j : Int) < (l.length : Int) := by omega
    obtain ⟨y, hy⟩ := get_lt hlt
    obtain ⟨x, hx⟩ := get_lt (l := l) (j := j - 1) (by omega)
    have hgy := at_map (f := AV.str) hy
    have hgx := at_map (f := AV.str) hx
    have hw := wrapS (j := j) (by omega)
    have hm : IntKind.i64.wrap ((j : Int) - 1) = ((j - 1 : Nat) : Int) := by rw [IntWalk.i64_in _ (by omega)]; omega
    have hj' : ((j - 1 : Nat) : Int) < (l.length : Int) := by omega
    have cl := refLess x y (hs x (List.mem_of_getElem? hx)) (hs y (List.mem_of_getElem? hy))
    rw [drop_at hx, show j - 1 + 1 = j by omega, drop_at hy, risingB] at hr
    generalize lt x y = b at *
    cases b
    · simp only [Bool.false_and] at hr
      subst hr
      (repeat (first | simp (maxSteps := 4000000) only [go_sem, ↓reduceIte, reduceCtorEq, Nat.reduceEqDiff, Nat.reduceBEq, Nat.reduceAdd, Nat.reduceSub, Nat.reduceMul, Nat.reduceLT, Nat.reduceLeDiff, Nat.reduceBNe, Int.reduceBEq, Int.reduceBNe, Int.reduceLT, Int.reduceLE, Spn.a, Msg.a, Par.a, Nd.a, t0, t3, hlt', hgx, hgy, hm, hj', List.length_map, Int.toNat_natCast, hw] | refine calling (cl) ?_ | refine callingH (cl) ?_ | refine And.intro (by omega) ?_ | refine And.intro (fun d hd => by (repeat (rcases hd with rfl | hd; · exact ⟨rfl, rfl⟩)); cases hd) ?_))
    · simp only [Bool.true_and] at hr
      (repeat (first | simp (maxSteps := 4000000) only [go_sem, ↓reduceIte, reduceCtorEq, Nat.reduceEqDiff, Nat.reduceBEq, Nat.reduceAdd, Nat.reduceSub, Nat.reduceMul, Nat.reduceLT, Nat.reduceLeDiff, Nat.reduceBNe, Int.reduceBEq, Int.reduceBNe, Int.reduceLT, Int.reduceLE, Spn.a, Msg.a, Par.a, Nd.a, t0, t3, hlt', hgx, hgy, hm, hj', List.length_map, Int.toNat_natCast, hw] | refine calling (cl) ?_ | refine callingH (cl) ?_ | refine And.intro (by omega) ?_ | refine And.intro (fun d hd => by (repeat (rcases hd with rfl | hd; · exact ⟨rfl, rfl⟩)); cases hd) ?_))
      refine ⟨l.length - (j + 1), by omega, j + 1, by omega, by omega, rfl, ?_, ?_, by rw [Nat.add_sub_cancel, drop_at hy]; exact hr⟩
      · simp (maxSteps := 4000000) only [go_sem, ↓reduceIte, reduceCtorEq, Nat.reduceEqDiff, Nat.reduceBEq, Nat.reduceAdd, Nat.reduceSub, Nat.reduceMul, Nat.reduceLT, Nat.reduceLeDiff, Nat.reduceBNe, Int.reduceBEq, Int.reduceBNe, Int.reduceLT, Int.reduceLE, Spn.a, Msg.a, Par.a, Nd.a, t0]
      · simp (maxSteps := 4000000) only [go_sem, ↓reduceIte, reduceCtorEq, Nat.reduceEqDiff, Nat.reduceBEq, Nat.reduceAdd, Nat.reduceSub, Nat.reduceMul, Nat.reduceLT, Nat.reduceLeDiff, Nat.reduceBNe, Int.reduceBEq, Int.reduceBNe, Int.reduceLT, Int.reduceLE, Spn.a, Msg.a, Par.a, Nd.a, hw]
  · have hlt' : ¬ (j : Int) < (l.length : Int) := by omega
    obtain rfl : j = l.length := by omega
    obtain ⟨x, hx⟩ := get_lt (l := l) (j := l.length - 1) (by omega)
    rw [drop_at hx, show l.length - 1 + 1 = l.length by omega, List.drop_eq_nil_of_le (Nat.le_refl _)] at hr
    subst hr
    simp (maxSteps := 4000000) only [go_sem, ↓reduceIte, reduceCtorEq, Nat.reduceEqDiff, Nat.reduceBEq, Nat.reduceAdd, Nat.reduceSub, Nat.reduceMul, Nat.reduceLT, Nat.reduceLeDiff, Nat.reduceBNe, Int.reduceBEq, Int.reduceBNe, Int.reduceLT, Int.reduceLE, Spn.a, Msg.a, Par.a, Nd.a, t0, t3, hlt', List.length_map]
    rfl
def rightK (p : List ByteArray) (k : List Int) : Bool := risingB p && decide (k.length = p.length + 1)
theorem right15_ok (p : List ByteArray) (k : List Int) (hp : p.length ≤ 1000000000) (hs : ∀ x, x ∈ p → x.size ≤ 9223372036854775807) : AFn Try.prog 53 [.sl (p.map .str), .sl (k.map (.int .i64))] (.bool (rightK p k)) := by
  refine fn_right15 rfl ?_
  have c1 := rising_ok p hp hs
  have hw := wrapS (j := p.length) (by omega)
  unfold rightK
  have hd : ((k.length : Int) == ((p.length + 1 : Nat) : Int)) = decide (k.length = p.length + 1) := by
    by_cases h : k.length = p.length + 1
    · simp [h]
    · rw [decide_eq_false h]; simp; omega
  generalize risingB p = b at *
  cases b
  · (repeat (first | simp (maxSteps := 4000000) only [go_sem, ↓reduceIte, reduceCtorEq, Nat.reduceEqDiff, Nat.reduceBEq, Nat.reduceAdd, Nat.reduceSub, Nat.reduceMul, Nat.reduceLT, Nat.reduceLeDiff, Nat.reduceBNe, Int.reduceBEq, Int.reduceBNe, Int.reduceLT, Int.reduceLE, Spn.a, Msg.a, Par.a, Nd.a, List.length_map] | refine calling (c1) ?_ | refine callingH (c1) ?_ | refine And.intro (by omega) ?_ | refine And.intro (fun d hd => by (repeat (rcases hd with rfl | hd; · exact ⟨rfl, rfl⟩)); cases hd) ?_))
  · (repeat (first | simp (maxSteps := 4000000) only [go_sem, ↓reduceIte, reduceCtorEq, Nat.reduceEqDiff, Nat.reduceBEq, Nat.reduceAdd, Nat.reduceSub, Nat.reduceMul, Nat.reduceLT, Nat.reduceLeDiff, Nat.reduceBNe, Int.reduceBEq, Int.reduceBNe, Int.reduceLT, Int.reduceLE, Spn.a, Msg.a, Par.a, Nd.a, List.length_map, hw, hd] | refine calling (c1) ?_ | refine callingH (c1) ?_ | refine And.intro (by omega) ?_ | refine And.intro (fun d hd => by (repeat (rcases hd with rfl | hd; · exact ⟨rfl, rfl⟩)); cases hd) ?_))
/-- the texts of a kid -/
def rangeN (p : List ByteArray) (j : Nat) : Spn := (⟨if j = 0 then nul0 else p.getD (j - 1) nul0, if j < p.length then p.getD j nul0 else nul0, !decide (j < p.length)⟩ : Spn).norm
theorem getD_mem {l : List ByteArray} {j : Nat} {d : ByteArray} (h : j < l.length) : l.getD j d ∈ l := by
  rw [List.getD_eq_getElem?_getD, List.getElem?_eq_getElem h]; exact List.getElem_mem h
theorem range15_ok (p : List ByteArray) (j : Nat) (hp : p.length ≤ 1000000000) (hj : j ≤ p.length) (hs : ∀ x, x ∈ p → x.size ≤ 9223372036854775807) : AFn Try.prog 55 [.sl (p.map .str), .int .i64 j] (rangeN p j).a := by
  refine fn_range15 rfl ?_
  have hget : ∀ i, i < p.length → (p.map AV.str).getD i .und = .str (p.getD i nul0) := by
    intro i hi
    rw [List.getD_eq_getElem?_getD, List.getElem?_map, List.getD_eq_getElem?_getD, List.getElem?_eq_getElem hi]; rfl
  have n0 : ¬ (j : Int) < 0 := by omega
  have n1 : ¬ (p.length : Int) < (j : Int) := by omega
  have hm : j ≠ 0 → IntKind.i64.wrap ((j : Int) - 1) = ((j - 1 : Nat) : Int) := fun h => by rw [IntWalk.i64_in _ (by omega)]; omega
  have ok : ∀ i, i < p.length → (p.getD i nul0).size ≤ 9223372036854775807 := fun i hi => hs _ (getD_mem hi)
  have z : nul0.size ≤ 9223372036854775807 := by decide
  unfold rangeN
  by_cases h0 : j = 0
  · have p0 : ¬ (0 : Int) < (j : Int) := by omega
    rw [if_pos h0]
    by_cases h1 : j < p.length
    · have q1 : (j : Int) < (p.length : Int) := by omega
      have g1 := hget j h1
      rw [if_pos h1, decide_eq_true h1]
      have cN := refNorm ⟨nul0, p.getD j nul0, false⟩ ⟨z, ok j h1⟩
      generalize p.getD j nul0 = a at *
      (repeat (first | simp (maxSteps := 4000000) only [go_sem, ↓reduceIte, reduceCtorEq, Nat.reduceEqDiff, Nat.reduceBEq, Nat.reduceAdd, Nat.reduceSub, Nat.reduceMul, Nat.reduceLT, Nat.reduceLeDiff, Nat.reduceBNe, Int.reduceBEq, Int.reduceBNe, Int.reduceLT, Int.reduceLE, Spn.a, Msg.a, Par.a, Nd.a, List.length_map, n0, n1, p0, q1, g1, Int.toNat_natCast] | refine calling (cN) ?_ | refine callingH (cN) ?_ | refine And.intro (by omega) ?_ | refine And.intro (fun d hd => by (repeat (rcases hd with rfl | hd; · exact ⟨rfl, rfl⟩)); cases hd) ?_))
      all_goals rfl
    · have q1 : ¬ (j : Int) < (p.length : Int) := by omega
      rw [if_neg h1, decide_eq_false h1]
      have cN := refNorm ⟨nul0, nul0, true⟩ ⟨z, z⟩
      (repeat (first | simp (maxSteps := 4000000) only [go_sem, ↓reduceIte, reduceCtorEq, Nat.reduceEqDiff, Nat.reduceBEq, Nat.reduceAdd, Nat.reduceSub, Nat.reduceMul, Nat.reduceLT, Nat.reduceLeDiff, Nat.reduceBNe, Int.reduceBEq, Int.reduceBNe, Int.reduceLT, Int.reduceLE, Spn.a, Msg.a, Par.a, Nd.a, List.length_map, n0, n1, p0, q1, Int.toNat_natCast] | refine calling (cN) ?_ | refine callingH (cN) ?_ | refine And.intro (by omega) ?_ | refine And.intro (fun d hd => by (repeat (rcases hd with rfl | hd; · exact ⟨rfl, rfl⟩)); cases hd) ?_))
      all_goals rfl
  · have p0 : (0 : Int) < (j : Int) := by omega
    have hm := hm h0
    have g0 := hget (j - 1) (by omega)
    have q0 : ((j - 1 : Nat) : Int) < (p.length : Int) := by omega
    have o0 := ok (j - 1) (by omega)
    rw [if_neg h0]
    by_cases h1 : j < p.length
    · have q1 : (j : Int) < (p.length : Int) := by omega
      have g1 := hget j h1
      rw [if_pos h1, decide_eq_true h1]
      have cN := refNorm ⟨p.getD (j - 1) nul0, p.getD j nul0, false⟩ ⟨o0, ok j h1⟩
      generalize p.getD j nul0 = a at *
      generalize p.getD (j - 1) nul0 = b at *
      (repeat (first | simp (maxSteps := 4000000) only [go_sem, ↓reduceIte, reduceCtorEq, Nat.reduceEqDiff, Nat.reduceBEq, Nat.reduceAdd, Nat.reduceSub, Nat.reduceMul, Nat.reduceLT, Nat.reduceLeDiff, Nat.reduceBNe, Int.reduceBEq, Int.reduceBNe, Int.reduceLT, Int.reduceLE, Spn.a, Msg.a, Par.a, Nd.a, List.length_map, n0, n1, p0, q0, q1, g0, g1, hm, Int.toNat_natCast] | refine calling (cN) ?_ | refine callingH (cN) ?_ | refine And.intro (by omega) ?_ | refine And.intro (fun d hd => by (repeat (rcases hd with rfl | hd; · exact ⟨rfl, rfl⟩)); cases hd) ?_))
      all_goals rfl
    · have q1 : ¬ (j : Int) < (p.length : Int) := by omega
      rw [if_neg h1, decide_eq_false h1]
      have cN := refNorm ⟨p.getD (j - 1) nul0, nul0, true⟩ ⟨o0, z⟩
      generalize p.getD (j - 1) nul0 = b at *
      (repeat (first | simp (maxSteps := 4000000) only [go_sem, ↓reduceIte, reduceCtorEq, Nat.reduceEqDiff, Nat.reduceBEq, Nat.reduceAdd, Nat.reduceSub, Nat.reduceMul, Nat.reduceLT, Nat.reduceLeDiff, Nat.reduceBNe, Int.reduceBEq, Int.reduceBNe, Int.reduceLT, Int.reduceLE, Spn.a, Msg.a, Par.a, Nd.a, List.length_map, n0, n1, p0, q0, q1, g0, hm, Int.toNat_natCast] | refine calling (cN) ?_ | refine callingH (cN) ?_ | refine And.intro (by omega) ?_ | refine And.intro (fun d hd => by (repeat (rcases hd with rfl | hd; · exact ⟨rfl, rfl⟩)); cases hd) ?_))
      all_goals rfl
end
section
/-
  Trees of the document: their slots in order, and what is below what: the plain law.
-/
open Go.RowKit
set_option linter.unusedVariables false
set_option linter.unusedSimpArgs false
set_option maxRecDepth 100000
/-! ### Nodes whose slots stand in order -/
def ndAt (l : List Nd) (s : Int) : Option Nd := if 0 ≤ s then l[s.toNat]? else none
def InOrd (l : List Nd) : Prop := ∀ (j : Nat) (n : Nd), l[j]? = some n → n.slot = (j : Int)
theorem findGo_ord (s : Int) : ∀ (l : List Nd) (i : Nat) (o : Nd) (c : Nat), (∀ (j : Nat) (n : Nd), l[j]? = some n → n.slot = ((i + j : Nat) : Int)) →
    findGo s o c l = (((if (i : Int) ≤ s then l[(s - i).toNat]? else none).map fun n => (n, c + 1)).getD (o, c))
  | [], i, o, c, h => by
    rw [findGo]
    split <;> rfl
  | x :: l, i, o, c, h => by
    have hx : x.slot = (i : Int) := by have := h 0 x rfl; simpa using this
    have h' : ∀ (j : Nat) (n : Nd), l[j]? = some n → n.slot = ((i + 1 + j : Nat) : Int) := fun j n e => by
      have := h (j + 1) n (by simpa using e)
      rw [this]; omega
    rw [findGo, hx]
    by_cases hs : (i : Int) = s
    · rw [if_pos hs, findGo_ord s l (i + 1) x (c + 1) h', if_neg (by omega), if_pos (by omega), show (s - (i : Int)).toNat = 0 by omega]
      rfl
    · rw [if_neg hs, findGo_ord s l (i + 1) o c h']
      by_cases h2 : (i : Int) ≤ s
      · rw [if_pos h2, if_pos (by omega), show (s - (i : Int)).toNat = (s - ((i + 1 : Nat) : Int)).toNat + 1 by omega, List.getElem?_cons_succ]
      · rw [if_neg h2, if_neg (by omega)]
theorem findF_ord {l : List Nd} (h : InOrd l) (s : Int) : findF l s = (((ndAt l s).map fun n => (n, true)).getD (Nd.zero, false)) := by
  have e := findGo_ord s l 0 Nd.zero 0 (fun j n e => by rw [h j n e]; omega)
  unfold findF ndAt
  rw [e]
  by_cases h0 : 0 ≤ s
  · rw [if_pos h0, if_pos (by omega), show (s - ((0 : Nat) : Int)).toNat = s.toNat by omega]
    cases l[s.toNat]? <;> rfl
  · rw [if_neg h0, if_neg (by omega)]; rfl
theorem ndAt_slot {l : List Nd} (h : InOrd l) {s : Int} {n : Nd} (e : ndAt l s = some n) : n.slot = s ∧ n ∈ l ∧ 0 ≤ s ∧ s < l.length := by
  unfold ndAt at e
  by_cases h0 : 0 ≤ s
  · rw [if_pos h0] at e
    have h1 := h _ _ e
    have h2 := (List.getElem?_eq_some_iff.1 e).1
    exact ⟨by rw [h1]; omega, List.mem_of_getElem? e, h0, by omega⟩
  · rw [if_neg h0] at e; cases e
theorem ndAt_some {l : List Nd} {s : Int} (h0 : 0 ≤ s) (h1 : s < l.length) : ∃ n, ndAt l s = some n := by
  unfold ndAt
  rw [if_pos h0]
  exact ⟨l[s.toNat]'(by omega), List.getElem?_eq_getElem _⟩
/-! ### Steps, and what is below -/
def nxt (n : Nd) : List Int := n.kids ++ (if n.top then [] else [n.right])
def steps (l : List Nd) (s : Int) : List Int := ((ndAt l s).map nxt).getD []
def kidsAt (l : List Nd) (s : Int) : List Int := ((ndAt l s).map Nd.kids).getD []
structure Lad (l : List Nd) : Prop where
  ord : InOrd l
  len : l.length ≤ 200
  nk : ∀ n, n ∈ l → n.kids.length ≤ 2000
  kid : ∀ n, n ∈ l → ∀ k, k ∈ n.kids → 0 ≤ k ∧ k < l.length
  rt : ∀ n, n ∈ l → n.right < l.length
  top : ∀ n, n ∈ l → (0 ≤ n.right ↔ n.top = false)
theorem Lad.step {l : List Nd} (h : Lad l) {s x : Int} (hx : x ∈ steps l s) : 0 ≤ x ∧ x < l.length := by
  unfold steps at hx
  cases e : ndAt l s with
  | none => rw [e] at hx; cases hx
  | some n =>
    rw [e] at hx
    have hn := (ndAt_slot h.ord e).2.1
    rcases List.mem_append.1 (show x ∈ n.kids ++ _ from hx) with q | q
    · exact h.kid n hn x q
    · cases ht : n.top with
      | true => rw [ht] at q; cases q
      | false =>
        rw [ht] at q
        have : x = n.right := by simpa using q
        exact ⟨by rw [this]; exact (h.top n hn).2 ht, by rw [this]; exact h.rt n hn⟩
theorem Lad.steps_len {l : List Nd} (h : Lad l) (s : Int) : (steps l s).length ≤ 2001 := by
  unfold steps
  cases e : ndAt l s with
  | none => exact Nat.zero_le _
  | some n =>
    have := h.nk n (ndAt_slot h.ord e).2.1
    show (n.kids ++ _).length ≤ 2001
    rw [List.length_append]
    split <;> simp <;> omega
inductive Bel (l : List Nd) : Int → Int → Prop
  | one {a b : Int} : b ∈ steps l a → Bel l a b
  | more {a c b : Int} : Bel l a c → b ∈ steps l c → Bel l a b
theorem countP_less {α : Type} {p q : α → Bool} (hpq : ∀ x, q x = true → p x = true) {y : α} (h1 : p y = true) (h2 : q y = false) : ∀ {l : List α}, y ∈ l → l.countP q < l.countP p
  | x :: l, hy => by
    have hle : l.countP q ≤ l.countP p := List.countP_mono_left fun x _ h => hpq x h
    rw [List.countP_cons, List.countP_cons]
    rcases List.mem_cons.1 hy with e | e
    · subst e
      rw [h1, h2]; simp; omega
    · have ih := countP_less hpq h1 h2 e
      cases hq : q x with
      | true => rw [hpq x hq]; simp; omega
      | false => cases p x <;> simp <;> omega
/-- how many numbers are not met -/
def left (N : Nat) (met : List Int) : Nat := (List.range N).countP fun i : Nat => !met.contains (i : Int)
theorem left_add {N : Nat} {met : List Int} {x : Int} (h0 : 0 ≤ x) (h1 : x < N) (hx : met.contains x = false) : left N (met ++ [x]) + 1 ≤ left N met := by
  unfold left
  refine countP_less (y := x.toNat) (fun i hi => ?_) ?_ ?_ (List.mem_range.2 (by omega))
  · rw [Bool.not_eq_true', List.contains_eq_mem, decide_eq_false_iff_not] at hi ⊢
    exact fun h => hi (List.mem_append.2 (.inl h))
  · rw [show ((x.toNat : Nat) : Int) = x by omega, hx]; rfl
  · rw [show ((x.toNat : Nat) : Int) = x by omega]
    simp
/-- step by step, from the first one on -/
def goL (l : List Nd) : Nat → List Int → List Int → List Int
  | 0, met, _ => met
  | _ + 1, met, [] => met
  | f + 1, met, n :: todo => if met.contains n then goL l f met todo else goL l f (met ++ [n]) (todo ++ steps l n)
def mesL (l : List Nd) (met todo : List Int) : Nat := left l.length met * 2002 + todo.length
def belowL (l : List Nd) (a : Int) : List Int := goL l (mesL l [] (steps l a)) [] (steps l a)
theorem mesL_next {l : List Nd} (h : Lad l) {met todo : List Int} {n : Int} (h0 : 0 ≤ n ∧ n < l.length) (hn : met.contains n = false) : mesL l (met ++ [n]) (todo ++ steps l n) < mesL l met (n :: todo) := by
  have h1 := left_add (N := l.length) h0.1 h0.2 hn
  have h2 := h.steps_len n
  unfold mesL
  rw [List.length_append, List.length_cons]
  have h3 : (left l.length (met ++ [n]) + 1) * 2002 ≤ left l.length met * 2002 := Nat.mul_le_mul_right _ h1
  omega
theorem goL_mem {l : List Nd} (h : Lad l) (a : Int) : ∀ (f : Nat) (met todo : List Int), mesL l met todo ≤ f → (∀ x, x ∈ met → Bel l a x) → (∀ x, x ∈ todo → Bel l a x ∧ 0 ≤ x ∧ x < l.length) →
    (∀ x, x ∈ steps l a → x ∈ met ∨ x ∈ todo) → (∀ c, c ∈ met → ∀ x, x ∈ steps l c → x ∈ met ∨ x ∈ todo) → ∀ b, b ∈ goL l f met todo ↔ Bel l a b
  | 0, met, todo, hf, h1, h2, h3, h4, b => by
    have ht : todo = [] := by
      unfold mesL at hf
      exact List.length_eq_zero_iff.1 (by omega)
    subst ht
    rw [goL]
    refine ⟨h1 b, fun hb => ?_⟩
    induction hb with
    | one hb => rcases h3 _ hb with q | q
                · exact q
                · cases q
    | more _ hb ih => rcases h4 _ ih _ hb with q | q
                      · exact q
                      · cases q
  | f + 1, met, [], hf, h1, h2, h3, h4, b => by
    rw [goL]
    refine ⟨h1 b, fun hb => ?_⟩
    induction hb with
    | one hb => rcases h3 _ hb with q | q
                · exact q
                · cases q
    | more _ hb ih => rcases h4 _ ih _ hb with q | q
                      · exact q
                      · cases q
  | f + 1, met, n :: todo, hf, h1, h2, h3, h4, b => by
    rw [goL]
    have hn := h2 n (List.mem_cons_self ..)
    cases hc : met.contains n with
    | true =>
      rw [if_pos rfl]
      have hm : n ∈ met := by simpa using hc
      have lift : ∀ x, x ∈ met ∨ x ∈ n :: todo → x ∈ met ∨ x ∈ todo := fun x q => by
        rcases q with q | q
        · exact .inl q
        · rcases List.mem_cons.1 q with e | e
          · exact .inl (by rw [e]; exact hm)
          · exact .inr e
      refine goL_mem h a f met todo ?_ h1 (fun x hx => h2 x (List.mem_cons_of_mem _ hx)) (fun x hx => lift x (h3 x hx)) (fun c hc x hx => lift x (h4 c hc x hx)) b
      unfold mesL at hf ⊢
      rw [List.length_cons] at hf
      omega
    | false =>
      rw [if_neg (by decide)]
      have lift : ∀ x, x ∈ met ∨ x ∈ n :: todo → x ∈ met ++ [n] ∨ x ∈ todo ++ steps l n := fun x q => by
        rcases q with q | q
        · exact .inl (List.mem_append.2 (.inl q))
        · rcases List.mem_cons.1 q with e | e
          · exact .inl (List.mem_append.2 (.inr (by simp [e])))
          · exact .inr (List.mem_append.2 (.inl e))
      have hlt := mesL_next h (todo := todo) hn.2 hc
      refine goL_mem h a f (met ++ [n]) (todo ++ steps l n) (by omega) (fun x hx => ?_) (fun x hx => ?_) (fun x hx => lift x (h3 x hx)) (fun c hc x hx => ?_) b
      · rcases List.mem_append.1 hx with q | q
        · exact h1 x q
        · rw [show x = n by simpa using q]; exact hn.1
      · rcases List.mem_append.1 hx with q | q
        · exact h2 x (List.mem_cons_of_mem _ q)
        · exact ⟨.more hn.1 q, h.step q⟩
      · rcases List.mem_append.1 hc with q | q
        · exact lift x (h4 c q x hx)
        · rw [show c = n by simpa using q] at hx
          exact .inr (List.mem_append.2 (.inr hx))
theorem belowL_mem {l : List Nd} (h : Lad l) (a b : Int) : b ∈ belowL l a ↔ Bel l a b :=
  goL_mem h a _ _ _ (Nat.le_refl _) (fun x hx => by cases hx) (fun x hx => ⟨.one hx, h.step hx⟩) (fun x hx => .inr hx) (fun c hc => by cases hc) b
/-- the document's: from each that is met on -/
def addAll : List Int → List Int → List Int
  | met, [] => met
  | met, x :: xs => addAll (if met.contains x then met else met ++ [x]) xs
def goR (l : List Nd) (a : Int) : Nat → List Int → Nat → List Int
  | 0, met, _ => met
  | f + 1, met, i => match (a :: met)[i]? with
    | none => met
    | some c => goR l a f (addAll met (steps l c)) (i + 1)
def mesR (l : List Nd) (met : List Int) (i : Nat) : Nat := left l.length met + (met.length + 1 - i)
def belowR (l : List Nd) (a : Int) : List Int := goR l a (mesR l [] 0) [] 0
theorem addAll_pre : ∀ (xs met : List Int), ∃ ys, addAll met xs = met ++ ys ∧ ∀ y, y ∈ ys → y ∈ xs
  | [], met => ⟨[], by simp [addAll], fun y hy => by cases hy⟩
  | x :: xs, met => by
    rw [addAll]
    split
    · obtain ⟨ys, e1, e2⟩ := addAll_pre xs met
      exact ⟨ys, e1, fun y hy => List.mem_cons_of_mem _ (e2 y hy)⟩
    · obtain ⟨ys, e1, e2⟩ := addAll_pre xs (met ++ [x])
      refine ⟨x :: ys, by rw [e1, List.append_assoc]; rfl, fun y hy => ?_⟩
      rcases List.mem_cons.1 hy with e | e
      · rw [e]; exact List.mem_cons_self ..
      · exact List.mem_cons_of_mem _ (e2 y e)
theorem addAll_mem : ∀ (xs met : List Int) (x : Int), x ∈ xs → x ∈ addAll met xs
  | y :: xs, met, x, h => by
    rw [addAll]
    rcases List.mem_cons.1 h with e | e
    · subst e
      obtain ⟨ys, e1, _⟩ := addAll_pre xs (if met.contains x then met else met ++ [x])
      rw [e1]
      refine List.mem_append.2 (.inl ?_)
      split
      · rename_i hc; simpa using hc
      · simp
    · exact addAll_mem xs _ x e
theorem addAll_left {N : Nat} : ∀ (xs met : List Int), (∀ x, x ∈ xs → 0 ≤ x ∧ x < N) → left N (addAll met xs) + (addAll met xs).length ≤ left N met + met.length
  | [], met, _ => Nat.le_refl _
  | x :: xs, met, h => by
    rw [addAll]
    have ih := addAll_left xs (if met.contains x then met else met ++ [x]) (fun y hy => h y (List.mem_cons_of_mem _ hy))
    refine Nat.le_trans ih ?_
    cases hc : met.contains x with
    | true => exact Nat.le_refl _
    | false =>
      have h0 := h x (List.mem_cons_self ..)
      have := left_add (N := N) h0.1 h0.2 hc
      show left N (met ++ [x]) + (met ++ [x]).length ≤ _
      rw [List.length_append]
      simp only [List.length_cons, List.length_nil]
      omega
theorem mesR_next {l : List Nd} (h : Lad l) {a c : Int} {met : List Int} {i : Nat} (hc : (a :: met)[i]? = some c) : mesR l (addAll met (steps l c)) (i + 1) < mesR l met i := by
  have h1 := addAll_left (N := l.length) (steps l c) met (fun x hx => h.step hx)
  have h2 := (List.getElem?_eq_some_iff.1 hc).1
  rw [List.length_cons] at h2
  obtain ⟨ys, e1, _⟩ := addAll_pre (steps l c) met
  have h3 : met.length ≤ (addAll met (steps l c)).length := by rw [e1, List.length_append]; omega
  unfold mesR
  omega
theorem goR_mem {l : List Nd} (h : Lad l) (a : Int) : ∀ (f : Nat) (met : List Int) (i : Nat), mesR l met i ≤ f → (∀ x, x ∈ met → Bel l a x) → (∀ (j : Nat) (c : Int), j < i → (a :: met)[j]? = some c → ∀ x, x ∈ steps l c → x ∈ met) →
    ∀ b, b ∈ goR l a f met i ↔ Bel l a b := by
  have fin : ∀ (met : List Int) (i : Nat), (a :: met)[i]? = none → (∀ x, x ∈ met → Bel l a x) → (∀ (j : Nat) (c : Int), j < i → (a :: met)[j]? = some c → ∀ x, x ∈ steps l c → x ∈ met) → ∀ b, b ∈ met ↔ Bel l a b := by
    intro met i hi h1 h2 b
    have hlen := List.getElem?_eq_none_iff.1 hi
    refine ⟨h1 b, fun hb => ?_⟩
    induction hb with
    | one hb => exact h2 0 a (by rw [List.length_cons] at hlen; omega) rfl _ hb
    | more _ hb ih =>
      obtain ⟨j, hj⟩ := List.mem_iff_getElem?.1 ih
      have := (List.getElem?_eq_some_iff.1 hj).1
      exact h2 (j + 1) _ (by rw [List.length_cons] at hlen; omega) (by simpa using hj) _ hb
  intro f
  induction f with
  | zero =>
    intro met i hf h1 h2 b
    rw [goR]
    refine fin met i ?_ h1 h2 b
    unfold mesR at hf
    exact List.getElem?_eq_none_iff.2 (by rw [List.length_cons]; omega)
  | succ f ih =>
    intro met i hf h1 h2 b
    rw [goR]
    cases hc : (a :: met)[i]? with
    | none => exact fin met i hc h1 h2 b
    | some c =>
      have hlt := mesR_next h hc
      obtain ⟨ys, e1, e2⟩ := addAll_pre (steps l c) met
      have hb : c = a ∨ c ∈ met := by
        rcases List.mem_cons.1 (List.mem_of_getElem? hc) with q | q
        · exact .inl q
        · exact .inr q
      refine ih (addAll met (steps l c)) (i + 1) (by omega) (fun x hx => ?_) (fun j c' hj hc' x hx => ?_) b
      · rw [e1] at hx
        rcases List.mem_append.1 hx with q | q
        · exact h1 x q
        · rcases hb with e | e
          · rw [e] at e2; exact .one (e2 x q)
          · exact .more (h1 c e) (e2 x q)
      · by_cases hji : j = i
        · subst hji
          have hl := (List.getElem?_eq_some_iff.1 hc).1
          have : c' = c := by
            rw [e1, ← List.cons_append, List.getElem?_append_left hl, hc] at hc'
            cases hc'; rfl
          rw [this] at hx
          exact addAll_mem _ _ _ hx
        · have hl := (List.getElem?_eq_some_iff.1 hc).1
          have hc2 : (a :: met)[j]? = some c' := by
            rw [e1, ← List.cons_append, List.getElem?_append_left (by omega)] at hc'
            exact hc'
          rw [e1]
          exact List.mem_append.2 (.inl (h2 j c' (by omega) hc2 x hx))
theorem belowR_mem {l : List Nd} (h : Lad l) (a b : Int) : b ∈ belowR l a ↔ Bel l a b :=
  goR_mem h a _ _ _ (Nat.le_refl _) (fun x hx => by cases hx) (fun j c hj => absurd hj (by omega)) b
theorem below_same {l : List Nd} (h : Lad l) (a b : Int) : (belowL l a).contains b = (belowR l a).contains b := by
  rw [List.contains_eq_mem, List.contains_eq_mem]
  exact decide_eq_decide.2 ((belowL_mem h a b).trans (belowR_mem h a b).symm)
end
end Go.Proofs.Ythfdbjocpicbmaa
