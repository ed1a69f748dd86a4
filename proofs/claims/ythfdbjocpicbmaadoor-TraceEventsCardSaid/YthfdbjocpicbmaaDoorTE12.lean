/-
  Part 12 of a proof: NdB, PkU, TrJ, PkV, TrK.
-/
import Derived.SizedLaws
import Derived.Test.YthfdbjocpicbmaaDoorTE11
namespace Go.Proofs.YthfdbjocpicbmaaDoor
attribute [local go_sem] ev0 ev1 ev2 ev3 ev4 evA stHOk.eq_1 stHOk.eq_2 stHSt.eq_1 stHSt.eq_2 okV valV fzV okF valF okBld valBld mxOk.eq_1 mxOk.eq_2 mxVal.eq_1 mxVal.eq_2 cellFit.eq_1 cellFit.eq_2 cellFit.eq_3 cellEq.eq_1 cellEq.eq_2 cellEq.eq_3 upd_at AV.flatB AV.flatBs binIok binIV binSok binSV cellsOk.eq_1 cellsOk.eq_2 cellsVal.eq_1 cellsVal.eq_2 objCells.eq_1 objCells.eq_2 objZ.eq_1 objZ.eq_2 objProt.eq_1 objProt.eq_2 oneObj ptrOk.eq_1 ptrOk.eq_2 ptrOk.eq_3 ptrCells.eq_1 ptrCells.eq_2 ptrCells.eq_3 lenOk.eq_1 lenOk.eq_2 lenOk.eq_3 lenOk.eq_4 lenVal.eq_1 lenVal.eq_2 lenVal.eq_3 lenVal.eq_4 faOk.eq_1 faOk.eq_2 faOk.eq_3 faVal.eq_1 faVal.eq_2 faVal.eq_3 iaOk.eq_1 iaOk.eq_2 iaOk.eq_3 iaVal.eq_1 iaVal.eq_2 iaVal.eq_3 slcLen.eq_1 slcLen.eq_2 slcLen.eq_3 slcLen.eq_4 bdOk.eq_1 bdOk.eq_2 bdVal.eq_1 bdVal.eq_2 slcOk.eq_1 slcOk.eq_2 slcOk.eq_3 slcOk.eq_4 slcVal.eq_1 slcVal.eq_2 slcVal.eq_3 slcVal.eq_4 slcFz.eq_1 slcFz.eq_2 byOk.eq_1 byOk.eq_2 byOk.eq_3 byOk.eq_4 byOk.eq_5 byOk.eq_6 byOk.eq_7 byOk.eq_8 byVal.eq_1 byVal.eq_2 byVal.eq_3 byFz.eq_1 byFz.eq_2 byFz.eq_3 byOks byVals byFzs allOne resSt.eq_1 resSt.eq_2 resName.eq_1 resName.eq_2 stOk.eq_1 stOk.eq_2 stArr.eq_1 stArr.eq_2 stSt.eq_1 stSt.eq_2 AV.patch nameOk_none gB.eq_1 gB.eq_2 gB.eq_3 gIs.eq_1 gIs.eq_2 gIs.eq_3 retV resV resVs evalV cellsV St.byval List.getD_cons_zero List.getD_cons_succ List.getD_nil List.map_cons List.map_nil List.length_cons List.length_nil List.take_succ_cons List.take_zero List.drop_succ_cons List.drop_zero List.headD_cons List.set_cons_zero List.append_nil List.nil_append List.cons_append List.contains_cons List.contains_nil List.elem_cons List.elem_nil List.all_cons List.all_nil List.getElem?_cons_zero List.getElem?_cons_succ List.filterMap_cons List.filterMap_nil Option.isSome_some Option.isSome_none Option.map_some Option.map_none Option.some.injEq AV.int.injEq AV.bool.injEq AV.str.injEq AV.tup.injEq AV.agg.injEq AV.sl.injEq List.cons.injEq Bool.false_eq_true Bool.true_eq_false Bool.not_true Bool.not_false Bool.and_true Bool.true_and Bool.or_false Bool.or_true Bool.false_or Bool.true_or Bool.or_self Bool.and_self Bool.not_eq_true' Bool.not_eq_false' Bool.not_not beq_self_eq_true true_and and_true false_and and_false and_self not_true_eq_false not_false_eq_true forall_const true_implies false_implies implies_true imp_self Nat.lt_add_one Nat.le_refl Nat.zero_le Nat.add_zero Nat.zero_add decide_true decide_false decide_eq_true_eq decide_eq_false_iff_not exists_eq_left exists_eq_left' ge_iff_le gt_iff_lt ite_branch ite_branch' nilOk.eq_1 nilOk.eq_2 nilMay.eq_1 nilMay.eq_2 AV.isSl.eq_1 objTy'.eq_1 objTy'.eq_2 apSt.eq_1 apArr.eq_1 apArr.eq_2 slOf.eq_1 fitsV List.mem_cons List.not_mem_nil Bool.false_and Bool.and_false primOk.eq_1 primOk.eq_2 primOk.eq_3 primOk.eq_4 primOk.eq_5 primVal.eq_1 primVal.eq_2 primVal.eq_3 primVal.eq_4 primVal.eq_5 mOk.eq_1 mOk.eq_2 mVal.eq_1 mVal.eq_2 mFz.eq_1 mFz.eq_2 mOks mVals mFzs mCalOk.eq_1 mCalOk.eq_2 mFn.eq_1 mFn.eq_2 mArgs.eq_1 mArgs.eq_2 ckOk.eq_1 ckOk.eq_2 cloOk.eq_1 ptrAt.eq_1 sh.eq_1 sh.eq_2 sh.eq_3 sh.eq_4 sh.eq_5 sh.eq_6 retM shH_small evM entOk.eq_1 entOk.eq_2 ents.eq_1 ents.eq_2 kI.eq_1 mpOk.eq_1 mpR.eq_1 lkV.eq_1 lkV.eq_2 remp.eq_2 evP pvOk.eq_1 pvOk.eq_2 pvVal.eq_1 pvVal.eq_2 plOk.eq_1 plOk.eq_2 plV.eq_1 plV.eq_2 plF.eq_1 plF.eq_2 plVal.eq_1 plVal.eq_2 plFz.eq_1 plFz.eq_2 lpOk.eq_1 lpOk.eq_2 lpVal.eq_1 lpVal.eq_2 lpFz.eq_1 lpFz.eq_2 stpOk.eq_1 stpOk.eq_2 stpSt.eq_1 stpSt.eq_2 stpArr.eq_1
section
/-
  Are nodes few, with few things? The document's Light, walked.
-/
open Go.RowKit
set_option linter.unusedVariables false
set_option linter.unusedSimpArgs false
set_option maxRecDepth 100000
attribute [local go_sem ↓] runOp headOp
def sumN {α : Type} (f : α → Nat) : List α → Nat
  | [] => 0
  | x :: l => f x + sumN f l
theorem sumN_at {α : Type} {f : α → Nat} {l : List α} {j : Nat} {x : α} (h : l[j]? = some x) : sumN f (l.drop j) = f x + sumN f (l.drop (j + 1)) := by
  rw [drop_at h]; rfl
theorem sumN_mem {α : Type} {f : α → Nat} : ∀ {l : List α} {x : α}, x ∈ l → f x ≤ sumN f l
  | y :: l, x, h => by
    show _ ≤ f y + sumN f l
    rcases List.mem_cons.1 h with rfl | h
    · omega
    · have := sumN_mem (f := f) h; omega
theorem sumN_len {α : Type} {f : α → Nat} (hf : ∀ x, 1 ≤ f x) : ∀ l : List α, l.length ≤ sumN f l
  | [] => Nat.le_refl _
  | x :: l => by
    have := sumN_len hf l
    have := hf x
    show l.length + 1 ≤ f x + sumN f l
    omega
def Par.bulk (p : Par) : Nat := 1 + p.key.size + p.val.size
def Msg.bulk (m : Msg) : Nat := 1 + m.key.size + m.hi.size + m.val.size
def strBulk (s : ByteArray) : Nat := s.size + 1
def longInv (l : List AV) (most : Int) (rest : Nat → Nat) (r : Bool) (k : Nat) (σ : St) : Prop :=
  ∃ (j n : Nat), j ≤ l.length ∧ k = l.length - j ∧ σ.T 0 = .sl l ∧ σ.T 1 = .int .i64 most ∧ σ.T 5 = .int .i64 n ∧ σ.T 6 = .int .i64 j ∧ n ≤ 900000000000000 ∧ decide (((n + rest j : Nat) : Int) ≤ most) = r
/-! ### percolate/percolateref09.Long -/
def r_rLong9_0 : Reg := ⟨[], [⟨(.mv (.c (.bool false))), (some 4), none, [], []⟩], [], [], false⟩
def r_rLong9_1 : Reg := ⟨[], [⟨(.mv (.c (.int .i64 0))), (some 5), none, [], []⟩], [], [], false⟩
def r_rLong9_2 : Reg := ⟨[], [⟨(.mv (.c (.int .i64 0))), (some 6), none, [], []⟩], [], [], false⟩
def t_rLong9_3 : List ROp := [⟨(.mv (.t 6)), (some 7), none, [], []⟩, ⟨(.mv (.t 0)), (some 8), none, [], []⟩, ⟨(.len false (.t 8)), (some 9), none, [], []⟩, ⟨(.bin .lss (.t 7) (.t 9)), (some 10), none, [], []⟩, ⟨(.mv (.t 10)), (some 11), none, [], []⟩, ⟨(.mv (.t 5)), (some 12), (some (11, true)), [], []⟩, ⟨(.mv (.t 1)), (some 13), (some (11, true)), [], []⟩, ⟨(.bin .leq (.t 12) (.t 13)), (some 14), (some (11, true)), [], []⟩, ⟨(.pick (.t 11) (.t 14) (.c (.bool false))), (some 15), none, [], []⟩]
def r_rLong9_3 : Reg := ⟨[], t_rLong9_3, [], [], false⟩
def h_rLong9_4 : List ROp := [⟨(.mv (.t 5)), (some 18), none, [], []⟩, ⟨(.mv (.t 0)), (some 19), none, [], []⟩, ⟨(.mv (.t 6)), (some 20), none, [], []⟩, ⟨(.iaddr 2 (.t 19) (.t 20)), (some 21), none, [], []⟩, ⟨(.faddr 0 (.t 21)), (some 22), none, [], []⟩, ⟨(.load 1 false (.t 22)), (some 23), none, [], []⟩, ⟨(.len true (.t 23)), (some 24), none, [], []⟩, ⟨(.bin .add (.c (.int .i64 1)) (.t 24)), (some 25), none, [], []⟩, ⟨(.mv (.t 0)), (some 26), none, [], []⟩, ⟨(.mv (.t 6)), (some 27), none, [], []⟩, ⟨(.iaddr 2 (.t 26) (.t 27)), (some 28), none, [], []⟩, ⟨(.faddr 1 (.t 28)), (some 29), none, [], []⟩, ⟨(.load 1 false (.t 29)), (some 30), none, [], []⟩, ⟨(.len true (.t 30)), (some 31), none, [], []⟩, ⟨(.bin .add (.t 25) (.t 31)), (some 32), none, [], []⟩]
def r_rLong9_4 : Reg := ⟨h_rLong9_4, [⟨(.bin .add (.t 18) (.t 32)), (some 33), none, [], []⟩, ⟨(.mv (.t 33)), (some 5), none, [], []⟩], [], [], true⟩
def t_rLong9_5 : List ROp := [⟨(.mv (.t 6)), (some 16), none, [], []⟩, ⟨(.bin .add (.t 16) (.c (.int .i64 1))), (some 17), none, [], []⟩, ⟨(.mv (.t 17)), (some 6), none, [], []⟩]
def r_rLong9_5 : Reg := ⟨[], t_rLong9_5, [], [], false⟩
def r_rLong9_l6 : IR := (.seq (.seq (.reg r_rLong9_3)
  (.cond (.t 15) .skip
  (.exit 0)))
  (.seq (.block 1 (.reg r_rLong9_4))
  (.reg r_rLong9_5)))
def t_rLong9_7 : List ROp := [⟨(.mv (.t 5)), (some 34), none, [], []⟩, ⟨(.mv (.t 1)), (some 35), none, [], []⟩, ⟨(.bin .leq (.t 34) (.t 35)), (some 36), none, [], []⟩, ⟨(.mv (.t 36)), (some 4), none, [], []⟩]
def r_rLong9_7 : Reg := ⟨[], t_rLong9_7, [], [], false⟩
def ir_rLong9 : IR := (.seq (.reg r_rLong9_0)
  (.seq (.reg r_rLong9_1)
  (.seq (.seq (.reg r_rLong9_2)
  (.block 0 (.loop r_rLong9_l6)))
  (.seq (.reg r_rLong9_7)
  .ret))))
def res_rLong9 : List RDesc := [(.tmp 4)]
theorem e_rLong9_0 (C : FuncId → List AV → AV → Prop) (σ : St) (K : St → Prop) : runReg C r_rLong9_0 σ K = runOps C [⟨(.mv (.c (.bool false))), (some 4), none, [], []⟩] (σ.kills []) K := rfl
theorem e_rLong9_1 (C : FuncId → List AV → AV → Prop) (σ : St) (K : St → Prop) : runReg C r_rLong9_1 σ K = runOps C [⟨(.mv (.c (.int .i64 0))), (some 5), none, [], []⟩] (σ.kills []) K := rfl
theorem e_rLong9_2 (C : FuncId → List AV → AV → Prop) (σ : St) (K : St → Prop) : runReg C r_rLong9_2 σ K = runOps C [⟨(.mv (.c (.int .i64 0))), (some 6), none, [], []⟩] (σ.kills []) K := rfl
theorem e_rLong9_3 (C : FuncId → List AV → AV → Prop) (σ : St) (K : St → Prop) : runReg C r_rLong9_3 σ K = runOps C t_rLong9_3 (σ.kills []) K := rfl
theorem e_rLong9_4 (C : FuncId → List AV → AV → Prop) (σ : St) (K : St → Prop) : runReg C r_rLong9_4 σ K = runHead C [] [⟨(.bin .add (.t 18) (.t 32)), (some 33), none, [], []⟩, ⟨(.mv (.t 33)), (some 5), none, [], []⟩] h_rLong9_4 (σ.kills []) K := rfl
theorem e_rLong9_5 (C : FuncId → List AV → AV → Prop) (σ : St) (K : St → Prop) : runReg C r_rLong9_5 σ K = runOps C t_rLong9_5 (σ.kills []) K := rfl
theorem e_rLong9_7 (C : FuncId → List AV → AV → Prop) (σ : St) (K : St → Prop) : runReg C r_rLong9_7 σ K = runOps C t_rLong9_7 (σ.kills []) K := rfl
theorem fn_rLong9 {args : List AV} {r : AV} (ha : args.length.ble Tryd.f38.ntmps = true) (h : run (AFn Tryd.prog) ir_rLong9 (endQ res_rLong9 r) (initSt args)) : AFn Tryd.prog 38 args r :=
  AFn.of_code (pv := false) (hint := fun _ => []) (c := Tryd.f38.body.getD .skip) (by kernel_rfl) (by kernel_rfl) Tryd.func38 (by kernel_rfl) (by kernel_rfl) (by kernel_rfl) (of_decide_eq_true (by kernel_rfl)) (Nat.le_of_ble_eq_true ha) (Nat.le_of_ble_eq_true (by kernel_rfl)) (run_ok h)
/-! ### percolate/percolateref05.Few -/
/-! ### percolate/percolateref01.Long -/
attribute [local go_sem ↓] ir_rLong9
attribute [local go_sem] res_rLong9 e_rLong9_0 e_rLong9_1 e_rLong9_2 e_rLong9_3 t_rLong9_3 e_rLong9_4 h_rLong9_4 e_rLong9_5 t_rLong9_5 e_rLong9_7 t_rLong9_7
theorem rLong9_ok (l : List Par) (most : Int) (h1 : 0 ≤ most) (h2 : most ≤ 1000000) (hs : ∀ m, m ∈ l → m.key.size ≤ 281474976710656 ∧ m.val.size ≤ 281474976710656) (hl : l.length ≤ 281474976710656) :
    AFn Tryd.prog 38 [.sl (l.map Par.a), .int .i64 most] (.bool (decide ((sumN Par.bulk l : Int) ≤ most))) := by
  refine fn_rLong9 rfl ?_
  simp (maxSteps := 4000000) only [go_sem, ↓reduceIte, reduceCtorEq, Nat.reduceEqDiff, Nat.reduceBEq, Nat.reduceAdd, Nat.reduceSub, Nat.reduceMul, Nat.reduceLT, Nat.reduceLeDiff, Nat.reduceBNe, Int.reduceBEq, Int.reduceBNe, Int.reduceLT, Int.reduceLE, Msg.a, Par.a, Nd.a]
  refine run_loop (longInv (l.map Par.a) most (fun j => sumN Par.bulk (l.drop j)) (decide ((sumN Par.bulk l : Int) ≤ most))) (k := (l.map Par.a).length) ⟨0, 0, by omega, rfl, rfl, rfl, rfl, rfl, by omega, ?_⟩ ?_
  · simp
  rintro k σ ⟨j, n, hj, rfl, t0, t1, t5, t6, hn2, hr⟩
  rw [List.length_map] at hj
  simp only [r_rLong9_l6]
  by_cases hlt : j < l.length
  · have hlt' : (j : Int) < (l.length : Int) := by omega
    by_cases hm : (n : Int) ≤ most
    · obtain ⟨x, hx⟩ := get_lt hlt
      have hgj := at_map (f := Par.a) hx
      simp only [Par.a] at hgj
      have hw := wrapS (j := j) (by omega)
      obtain ⟨s1, s3⟩ := hs x (List.mem_of_getElem? hx)
      have w1 : IntKind.i64.wrap (1 + (x.key.size : Int)) = 1 + (x.key.size : Int) := IntWalk.i64_in _ (by omega)
      have w3 : IntKind.i64.wrap (1 + (x.key.size : Int) + (x.val.size : Int)) = 1 + (x.key.size : Int) + (x.val.size : Int) := IntWalk.i64_in _ (by omega)
      have w4 : IntKind.i64.wrap ((n : Int) + (1 + (x.key.size : Int) + (x.val.size : Int))) = ((n + x.bulk : Nat) : Int) := by
        rw [IntWalk.i64_in _ (by omega)]; unfold Par.bulk; omega
      simp only [sumN_at hx] at hr
      simp (maxSteps := 4000000) only [go_sem, ↓reduceIte, reduceCtorEq, Nat.reduceEqDiff, Nat.reduceBEq, Nat.reduceAdd, Nat.reduceSub, Nat.reduceMul, Nat.reduceLT, Nat.reduceLeDiff, Nat.reduceBNe, Int.reduceBEq, Int.reduceBNe, Int.reduceLT, Int.reduceLE, Msg.a, Par.a, Nd.a, t0, t1, t5, t6, hlt', hm, hgj, List.length_map, Int.toNat_natCast, w1, w3, w4, hw]
      (repeat refine And.intro (by omega) ?_)
      refine ⟨l.length - (j + 1), by omega, j + 1, n + x.bulk, by rw [List.length_map]; omega, by rw [List.length_map], ?_, ?_, ?_, ?_, by unfold Par.bulk; omega, ?_⟩
      · simp (maxSteps := 4000000) only [go_sem, ↓reduceIte, reduceCtorEq, Nat.reduceEqDiff, Nat.reduceBEq, Nat.reduceAdd, Nat.reduceSub, Nat.reduceMul, Nat.reduceLT, Nat.reduceLeDiff, Nat.reduceBNe, Int.reduceBEq, Int.reduceBNe, Int.reduceLT, Int.reduceLE, Msg.a, Par.a, Nd.a, t0, t1, t5, t6]
      · simp (maxSteps := 4000000) only [go_sem, ↓reduceIte, reduceCtorEq, Nat.reduceEqDiff, Nat.reduceBEq, Nat.reduceAdd, Nat.reduceSub, Nat.reduceMul, Nat.reduceLT, Nat.reduceLeDiff, Nat.reduceBNe, Int.reduceBEq, Int.reduceBNe, Int.reduceLT, Int.reduceLE, Msg.a, Par.a, Nd.a, t0, t1, t5, t6]
      · simp (maxSteps := 4000000) only [go_sem, ↓reduceIte, reduceCtorEq, Nat.reduceEqDiff, Nat.reduceBEq, Nat.reduceAdd, Nat.reduceSub, Nat.reduceMul, Nat.reduceLT, Nat.reduceLeDiff, Nat.reduceBNe, Int.reduceBEq, Int.reduceBNe, Int.reduceLT, Int.reduceLE, Msg.a, Par.a, Nd.a, t0, t1, t5, t6]
      · simp (maxSteps := 4000000) only [go_sem, ↓reduceIte, reduceCtorEq, Nat.reduceEqDiff, Nat.reduceBEq, Nat.reduceAdd, Nat.reduceSub, Nat.reduceMul, Nat.reduceLT, Nat.reduceLeDiff, Nat.reduceBNe, Int.reduceBEq, Int.reduceBNe, Int.reduceLT, Int.reduceLE, Msg.a, Par.a, Nd.a, t0, t1, t5, t6]
      · rw [← hr, Nat.add_assoc]
    · simp (maxSteps := 4000000) only [go_sem, ↓reduceIte, reduceCtorEq, Nat.reduceEqDiff, Nat.reduceBEq, Nat.reduceAdd, Nat.reduceSub, Nat.reduceMul, Nat.reduceLT, Nat.reduceLeDiff, Nat.reduceBNe, Int.reduceBEq, Int.reduceBNe, Int.reduceLT, Int.reduceLE, Msg.a, Par.a, Nd.a, t0, t1, t5, t6, hlt', hm, List.length_map]
      have : ¬ ((n + sumN Par.bulk (l.drop j) : Nat) : Int) ≤ most := by omega
      simp only [decide_eq_false this] at hr
      exact of_decide_eq_false hr.symm
  · have hlt' : ¬ (j : Int) < (l.length : Int) := by omega
    simp (maxSteps := 4000000) only [go_sem, ↓reduceIte, reduceCtorEq, Nat.reduceEqDiff, Nat.reduceBEq, Nat.reduceAdd, Nat.reduceSub, Nat.reduceMul, Nat.reduceLT, Nat.reduceLeDiff, Nat.reduceBNe, Int.reduceBEq, Int.reduceBNe, Int.reduceLT, Int.reduceLE, Msg.a, Par.a, Nd.a, t0, t1, t5, t6, hlt', List.length_map]
    rw [← hr]
    show decide (((n + sumN Par.bulk (l.drop j) : Nat) : Int) ≤ most) = _
    rw [List.drop_eq_nil_of_le (by omega)]
    exact decide_eq_decide.2 Iff.rfl
/-! ### Light -/
def Nd.light (most : Int) (x : Nd) : Bool := decide ((sumN Par.bulk x.rows : Int) ≤ most) && decide ((sumN strBulk x.pivots : Int) ≤ most) && decide ((x.kids.length : Int) ≤ most) && decide ((sumN Msg.bulk x.msgs : Int) ≤ most) && decide ((x.high.size : Int) ≤ most)
/-! ### percolate/percolateref17.Light -/
end
section
/-
  Layer 7: the document's line, and the law OpLines.
-/
open Go.RowKit
set_option linter.unusedVariables false
set_option linter.unusedSimpArgs false
set_option maxRecDepth 100000
attribute [local go_sem ↓] runOp headOp
/-! ### percolate/percolateref07.Line -/
def r_rLine_0 : Reg := ⟨[], [⟨(.box 6 43 (.t 0)), (some 1), none, [], []⟩, ⟨(.mv (.c (.str ⟨#[]⟩))), (some 2), none, [], []⟩], [1], [], false⟩
def t_rLine_1 : List ROp := [⟨(.load 6 true (.t 1)), (some 4), none, [5], []⟩, ⟨(.callv (.c (.clo 65 [] [])) [(.t 4)]), (some 5), none, [], []⟩, ⟨(.un .not (.t 5)), (some 6), none, [], []⟩]
def r_rLine_1 : Reg := ⟨[], t_rLine_1, [5], [], false⟩
def r_rLine_2 : Reg := ⟨[], [⟨(.mv (.c (.str ⟨#[98, 97, 100]⟩))), (some 2), none, [], []⟩], [], [], false⟩
def h_rLine_3 : List ROp := [⟨(.bsl 1 9 [(.c (.str ⟨#[112, 117, 116]⟩)), (.c (.str ⟨#[97, 100, 100]⟩)), (.c (.str ⟨#[100, 101, 108]⟩)), (.c (.str ⟨#[119, 105, 112, 101]⟩)), (.c (.str ⟨#[103, 101, 116]⟩)), (.c (.str ⟨#[115, 99, 97, 110]⟩))]), (some 7), none, [16], []⟩, ⟨(.faddr 0 (.t 1)), (some 8), none, [7, 16], []⟩, ⟨(.load 1 false (.t 8)), (some 9), none, [7, 16], []⟩, ⟨(.bin .sub (.t 9) (.c (.int .i64 1))), (some 10), none, [7, 16], []⟩, ⟨(.iaddr 1 (.t 7) (.t 10)), (some 11), none, [16], []⟩, ⟨(.load 1 false (.t 11)), (some 12), none, [16], []⟩, ⟨(.bin .add (.t 12) (.c (.str ⟨#[32]⟩))), (some 13), none, [16], []⟩, ⟨(.faddr 1 (.t 1)), (some 14), none, [7, 16], []⟩, ⟨(.load 1 false (.t 14)), (some 15), none, [7, 16], []⟩, ⟨(.callv (.c (.clo 33 [] [])) [(.t 15)]), (some 16), none, [7], []⟩]
def r_rLine_3 : Reg := ⟨h_rLine_3, [⟨(.bin .add (.t 13) (.t 16)), (some 17), none, [], []⟩, ⟨(.mv (.t 17)), (some 3), none, [], []⟩], [7, 16], [], true⟩
def t_rLine_4 : List ROp := [⟨(.faddr 0 (.t 1)), (some 18), none, [], []⟩, ⟨(.load 1 false (.t 18)), (some 19), none, [], []⟩, ⟨(.bin .leq (.t 19) (.c (.int .i64 2))), (some 20), none, [], []⟩]
def r_rLine_4 : Reg := ⟨[], t_rLine_4, [], [], false⟩
def t_rLine_5 : List ROp := [⟨(.mv (.t 3)), (some 21), none, [24], []⟩, ⟨(.faddr 4 (.t 1)), (some 22), none, [24], []⟩, ⟨(.load 1 false (.t 22)), (some 23), none, [24], []⟩, ⟨(.callv (.c (.clo 33 [] [])) [(.t 23)]), (some 24), none, [], []⟩, ⟨(.bin .add (.c (.str ⟨#[32]⟩)) (.t 24)), (some 25), none, [], []⟩, ⟨(.bin .add (.t 21) (.t 25)), (some 26), none, [], []⟩, ⟨(.mv (.t 26)), (some 3), none, [], []⟩]
def r_rLine_5 : Reg := ⟨[], t_rLine_5, [24], [], false⟩
def t_rLine_6 : List ROp := [⟨(.faddr 0 (.t 1)), (some 27), none, [], []⟩, ⟨(.load 1 false (.t 27)), (some 28), none, [], []⟩, ⟨(.bin .eql (.t 28) (.c (.int .i64 4))), (some 29), none, [], []⟩, ⟨(.mv (.t 29)), (some 30), none, [], []⟩, ⟨(.faddr 0 (.t 1)), (some 31), (some (30, false)), [], []⟩, ⟨(.load 1 false (.t 31)), (some 32), (some (30, false)), [], []⟩, ⟨(.bin .eql (.t 32) (.c (.int .i64 6))), (some 33), (some (30, false)), [], []⟩, ⟨(.pick (.t 30) (.c (.bool true)) (.t 33)), (some 34), none, [], []⟩]
def r_rLine_6 : Reg := ⟨[], t_rLine_6, [], [], false⟩
def r_rLine_7 : Reg := ⟨[], [⟨(.faddr 3 (.t 1)), (some 35), none, [], []⟩, ⟨(.load 1 false (.t 35)), (some 36), none, [], []⟩], [], [], false⟩
def t_rLine_8 : List ROp := [⟨(.mv (.t 3)), (some 37), none, [], []⟩, ⟨(.bin .add (.t 37) (.c (.str ⟨#[32, 42]⟩))), (some 38), none, [], []⟩, ⟨(.mv (.t 38)), (some 3), none, [], []⟩]
def r_rLine_8 : Reg := ⟨[], t_rLine_8, [], [], false⟩
def t_rLine_9 : List ROp := [⟨(.mv (.t 3)), (some 39), none, [42], []⟩, ⟨(.faddr 2 (.t 1)), (some 40), none, [42], []⟩, ⟨(.load 1 false (.t 40)), (some 41), none, [42], []⟩, ⟨(.callv (.c (.clo 33 [] [])) [(.t 41)]), (some 42), none, [], []⟩, ⟨(.bin .add (.c (.str ⟨#[32]⟩)) (.t 42)), (some 43), none, [], []⟩, ⟨(.bin .add (.t 39) (.t 43)), (some 44), none, [], []⟩, ⟨(.mv (.t 44)), (some 3), none, [], []⟩]
def r_rLine_9 : Reg := ⟨[], t_rLine_9, [42], [], false⟩
def t_rLine_10 : List ROp := [⟨(.faddr 0 (.t 1)), (some 45), none, [], []⟩, ⟨(.load 1 false (.t 45)), (some 46), none, [], []⟩, ⟨(.bin .eql (.t 46) (.c (.int .i64 6))), (some 47), none, [], []⟩]
def r_rLine_10 : Reg := ⟨[], t_rLine_10, [], [], false⟩
def t_rLine_11 : List ROp := [⟨(.mv (.t 3)), (some 48), none, [51], []⟩, ⟨(.faddr 5 (.t 1)), (some 49), none, [51], []⟩, ⟨(.load 1 false (.t 49)), (some 50), none, [51], []⟩, ⟨(.callv (.c (.clo 32 [] [])) [(.t 50)]), (some 51), none, [], []⟩, ⟨(.bin .add (.c (.str ⟨#[32]⟩)) (.t 51)), (some 52), none, [], []⟩, ⟨(.bin .add (.t 48) (.t 52)), (some 53), none, [], []⟩, ⟨(.mv (.t 53)), (some 3), none, [], []⟩]
def r_rLine_11 : Reg := ⟨[], t_rLine_11, [51], [], false⟩
def r_rLine_12 : Reg := ⟨[], [⟨(.mv (.t 3)), (some 54), none, [], []⟩, ⟨(.mv (.t 54)), (some 2), none, [], []⟩], [], [], false⟩
def ir_rLine : IR := (.seq (.reg r_rLine_0)
  (.seq (.seq (.reg r_rLine_1)
  (.cond (.t 6) (.seq (.reg r_rLine_2)
  .ret)
  .skip))
  (.seq (.reg r_rLine_3)
  (.seq (.seq (.reg r_rLine_4)
  (.cond (.t 20) (.reg r_rLine_5)
  .skip))
  (.seq (.seq (.reg r_rLine_6)
  (.cond (.t 34) (.seq (.reg r_rLine_7)
  (.cond (.t 36) (.reg r_rLine_8)
  (.reg r_rLine_9)))
  .skip))
  (.seq (.seq (.reg r_rLine_10)
  (.cond (.t 47) (.reg r_rLine_11)
  .skip))
  (.seq (.reg r_rLine_12)
  .ret)))))))
def res_rLine : List RDesc := [(.tmp 2)]
theorem e_rLine_0 (C : FuncId → List AV → AV → Prop) (σ : St) (K : St → Prop) : runReg C r_rLine_0 σ K = runOps C [⟨(.box 6 43 (.t 0)), (some 1), none, [], []⟩, ⟨(.mv (.c (.str ⟨#[]⟩))), (some 2), none, [], []⟩] (σ.kills [1]) K := rfl
theorem e_rLine_1 (C : FuncId → List AV → AV → Prop) (σ : St) (K : St → Prop) : runReg C r_rLine_1 σ K = runOps C t_rLine_1 (σ.kills [5]) K := rfl
theorem e_rLine_2 (C : FuncId → List AV → AV → Prop) (σ : St) (K : St → Prop) : runReg C r_rLine_2 σ K = runOps C [⟨(.mv (.c (.str ⟨#[98, 97, 100]⟩))), (some 2), none, [], []⟩] (σ.kills []) K := rfl
theorem e_rLine_3 (C : FuncId → List AV → AV → Prop) (σ : St) (K : St → Prop) : runReg C r_rLine_3 σ K = runHead C [] [⟨(.bin .add (.t 13) (.t 16)), (some 17), none, [], []⟩, ⟨(.mv (.t 17)), (some 3), none, [], []⟩] h_rLine_3 (σ.kills [7, 16]) K := rfl
theorem e_rLine_4 (C : FuncId → List AV → AV → Prop) (σ : St) (K : St → Prop) : runReg C r_rLine_4 σ K = runOps C t_rLine_4 (σ.kills []) K := rfl
theorem e_rLine_5 (C : FuncId → List AV → AV → Prop) (σ : St) (K : St → Prop) : runReg C r_rLine_5 σ K = runOps C t_rLine_5 (σ.kills [24]) K := rfl
theorem e_rLine_6 (C : FuncId → List AV → AV → Prop) (σ : St) (K : St → Prop) : runReg C r_rLine_6 σ K = runOps C t_rLine_6 (σ.kills []) K := rfl
theorem e_rLine_7 (C : FuncId → List AV → AV → Prop) (σ : St) (K : St → Prop) : runReg C r_rLine_7 σ K = runOps C [⟨(.faddr 3 (.t 1)), (some 35), none, [], []⟩, ⟨(.load 1 false (.t 35)), (some 36), none, [], []⟩] (σ.kills []) K := rfl
theorem e_rLine_8 (C : FuncId → List AV → AV → Prop) (σ : St) (K : St → Prop) : runReg C r_rLine_8 σ K = runOps C t_rLine_8 (σ.kills []) K := rfl
theorem e_rLine_9 (C : FuncId → List AV → AV → Prop) (σ : St) (K : St → Prop) : runReg C r_rLine_9 σ K = runOps C t_rLine_9 (σ.kills [42]) K := rfl
theorem e_rLine_10 (C : FuncId → List AV → AV → Prop) (σ : St) (K : St → Prop) : runReg C r_rLine_10 σ K = runOps C t_rLine_10 (σ.kills []) K := rfl
theorem e_rLine_11 (C : FuncId → List AV → AV → Prop) (σ : St) (K : St → Prop) : runReg C r_rLine_11 σ K = runOps C t_rLine_11 (σ.kills [51]) K := rfl
theorem e_rLine_12 (C : FuncId → List AV → AV → Prop) (σ : St) (K : St → Prop) : runReg C r_rLine_12 σ K = runOps C [⟨(.mv (.t 3)), (some 54), none, [], []⟩, ⟨(.mv (.t 54)), (some 2), none, [], []⟩] (σ.kills []) K := rfl
theorem fn_rLine {args : List AV} {r : AV} (ha : args.length.ble Tryd.f63.ntmps = true) (h : run (AFn Tryd.prog) ir_rLine (endQ res_rLine r) (initSt args)) : AFn Tryd.prog 63 args r :=
  AFn.of_code (pv := false) (hint := fun _ => []) (c := Tryd.f63.body.getD .skip) (by kernel_rfl) (by kernel_rfl) Tryd.func63 (by kernel_rfl) (by kernel_rfl) (by kernel_rfl) (of_decide_eq_true (by kernel_rfl)) (Nat.le_of_ble_eq_true ha) (Nat.le_of_ble_eq_true (by kernel_rfl)) (run_ok h)
attribute [local go_sem ↓] ir_rLine
attribute [local go_sem] res_rLine e_rLine_0 e_rLine_1 t_rLine_1 e_rLine_2 e_rLine_3 h_rLine_3 e_rLine_4 t_rLine_4 e_rLine_5 t_rLine_5 e_rLine_6 t_rLine_6 e_rLine_7 e_rLine_8 t_rLine_8 e_rLine_9 t_rLine_9 e_rLine_10 t_rLine_10 e_rLine_11 t_rLine_11 e_rLine_12
theorem rLine_no (o : Opr) (h : o.key.size ≤ 9000000000) (hh : o.hi.size ≤ 9000000000) (hr : o.right = false) : AFn Tryd.prog 63 [o.a] (.str ⟨#[98, 97, 100]⟩) := by
  refine fn_rLine rfl ?_
  have hR := rRight_ok o h hh
  rw [hr] at hR
  simp (maxSteps := 4000000) only [go_sem, ↓reduceIte, reduceCtorEq, Nat.reduceEqDiff, Nat.reduceBEq, Nat.reduceAdd, Nat.reduceSub, Nat.reduceMul, Nat.reduceLT, Nat.reduceLeDiff, Nat.reduceBNe, Int.reduceBEq, Int.reduceBNe, Int.reduceLT, Int.reduceLE, Opr.a, Spn.a, nul]
  (first | refine calling hR ?_ | refine callingH hR ?_)
  simp (maxSteps := 4000000) only [go_sem, ↓reduceIte, reduceCtorEq, Nat.reduceEqDiff, Nat.reduceBEq, Nat.reduceAdd, Nat.reduceSub, Nat.reduceMul, Nat.reduceLT, Nat.reduceLeDiff, Nat.reduceBNe, Int.reduceBEq, Int.reduceBNe, Int.reduceLT, Int.reduceLE, Opr.a, Spn.a, nul]
set_option maxHeartbeats 4000000 in
theorem rLine_ok (o : Opr) (hr : o.right = true) : AFn Tryd.prog 63 [o.a] (.str (lineO o)) := by
  refine fn_rLine rfl ?_
  have hR := fun h1 h2 => rRight_ok o h1 h2
  rw [hr] at hR
  obtain ⟨hk1, hk6, hkey, hhi, hval, p1, p2, p3, p4⟩ := right_parts hr
  obtain ⟨kind, key, hi, op, val, lim⟩ := o
  simp only at hk1 hk6 hkey hhi hval p1 p2 p3 p4 hR
  have hR := hR (by omega) (by omega)
  have q1 := quoteF_size key
  have q2 := quoteF_size hi
  have q3 := quoteF_size val
  have z3 : ∀ a b c : UInt8, (#[a, b, c] : Array UInt8).size = 3 := fun _ _ _ => rfl
  have z4 : ∀ a b c d : UInt8, (#[a, b, c, d] : Array UInt8).size = 4 := fun _ _ _ _ => rfl
  have z1 : ∀ a : UInt8, (#[a] : Array UInt8).size = 1 := fun _ => rfl
  have z2 : ∀ a b : UInt8, (#[a, b] : Array UInt8).size = 2 := fun _ _ => rfl
  have s32 : (⟨#[32]⟩ : ByteArray) ++ (⟨#[42]⟩ : ByteArray) = ⟨#[32, 42]⟩ := by decide +kernel
  have sd : lim ≤ 64 → 1 ≤ lim → (decS lim).size ≤ 1000 := fun h1 h2 => by
    have := Lib.itoa_length_le lim (by omega) (by omega)
    rw [decS_size]; omega
  have hk : kind = 1 ∨ kind = 2 ∨ kind = 3 ∨ kind = 4 ∨ kind = 5 ∨ kind = 6 := by omega
  rcases hk with rfl | rfl | rfl | rfl | rfl | rfl
  · -- kind 1
    have tw : IntKind.i64.wrap (1 - 1) = 0 := by rfl
    have tn : Int.toNat 0 = 0 := rfl
    have e : lineO ⟨1, key, hi, op, val, lim⟩ = joinB [(⟨#[112, 117, 116]⟩ : ByteArray), quoteF key, quoteF val] ⟨#[32]⟩ := rfl
    rw [e, joinB3]
    (repeat (first | simp (maxSteps := 4000000) only [go_sem, ↓reduceIte, reduceCtorEq, Nat.reduceEqDiff, Nat.reduceBEq, Nat.reduceAdd, Nat.reduceSub, Nat.reduceMul, Nat.reduceLT, Nat.reduceLeDiff, Nat.reduceBNe, Int.reduceBEq, Int.reduceBNe, Int.reduceLT, Int.reduceLE, Opr.a, Spn.a, nul, tw, tn, z1, z2, z3, z4, ByteArray.size_append] | refine calling (hR) ?_ | refine callingH (hR) ?_ | refine calling (rQuote_ok key (by omega)) ?_ | refine callingH (rQuote_ok key (by omega)) ?_ | refine calling (rQuote_ok val (by omega)) ?_ | refine callingH (rQuote_ok val (by omega)) ?_ | refine calling (rQuote_ok hi (by omega)) ?_ | refine callingH (rQuote_ok hi (by omega)) ?_ | refine calling (rDec_ok lim ⟨by omega, by omega⟩) ?_ | refine callingH (rDec_ok lim ⟨by omega, by omega⟩) ?_ | refine And.intro (by omega) ?_ | refine And.intro (fun d hd => by (repeat (rcases hd with rfl | hd; · exact ⟨rfl, rfl⟩)); cases hd) ?_))
    all_goals omega
  · -- kind 2
    have tw : IntKind.i64.wrap (2 - 1) = 1 := by rfl
    have tn : Int.toNat 1 = 1 := rfl
    have e : lineO ⟨2, key, hi, op, val, lim⟩ = joinB [(⟨#[97, 100, 100]⟩ : ByteArray), quoteF key, quoteF val] ⟨#[32]⟩ := rfl
    rw [e, joinB3]
    (repeat (first | simp (maxSteps := 4000000) only [go_sem, ↓reduceIte, reduceCtorEq, Nat.reduceEqDiff, Nat.reduceBEq, Nat.reduceAdd, Nat.reduceSub, Nat.reduceMul, Nat.reduceLT, Nat.reduceLeDiff, Nat.reduceBNe, Int.reduceBEq, Int.reduceBNe, Int.reduceLT, Int.reduceLE, Opr.a, Spn.a, nul, tw, tn, z1, z2, z3, z4, ByteArray.size_append] | refine calling (hR) ?_ | refine callingH (hR) ?_ | refine calling (rQuote_ok key (by omega)) ?_ | refine callingH (rQuote_ok key (by omega)) ?_ | refine calling (rQuote_ok val (by omega)) ?_ | refine callingH (rQuote_ok val (by omega)) ?_ | refine calling (rQuote_ok hi (by omega)) ?_ | refine callingH (rQuote_ok hi (by omega)) ?_ | refine calling (rDec_ok lim ⟨by omega, by omega⟩) ?_ | refine callingH (rDec_ok lim ⟨by omega, by omega⟩) ?_ | refine And.intro (by omega) ?_ | refine And.intro (fun d hd => by (repeat (rcases hd with rfl | hd; · exact ⟨rfl, rfl⟩)); cases hd) ?_))
    all_goals omega
  · -- kind 3
    have tw : IntKind.i64.wrap (3 - 1) = 2 := by rfl
    have tn : Int.toNat 2 = 2 := rfl
    have e : lineO ⟨3, key, hi, op, val, lim⟩ = joinB [(⟨#[100, 101, 108]⟩ : ByteArray), quoteF key] ⟨#[32]⟩ := rfl
    rw [e, joinB2]
    (repeat (first | simp (maxSteps := 4000000) only [go_sem, ↓reduceIte, reduceCtorEq, Nat.reduceEqDiff, Nat.reduceBEq, Nat.reduceAdd, Nat.reduceSub, Nat.reduceMul, Nat.reduceLT, Nat.reduceLeDiff, Nat.reduceBNe, Int.reduceBEq, Int.reduceBNe, Int.reduceLT, Int.reduceLE, Opr.a, Spn.a, nul, tw, tn, z1, z2, z3, z4, ByteArray.size_append] | refine calling (hR) ?_ | refine callingH (hR) ?_ | refine calling (rQuote_ok key (by omega)) ?_ | refine callingH (rQuote_ok key (by omega)) ?_ | refine calling (rQuote_ok val (by omega)) ?_ | refine callingH (rQuote_ok val (by omega)) ?_ | refine calling (rQuote_ok hi (by omega)) ?_ | refine callingH (rQuote_ok hi (by omega)) ?_ | refine calling (rDec_ok lim ⟨by omega, by omega⟩) ?_ | refine callingH (rDec_ok lim ⟨by omega, by omega⟩) ?_ | refine And.intro (by omega) ?_ | refine And.intro (fun d hd => by (repeat (rcases hd with rfl | hd; · exact ⟨rfl, rfl⟩)); cases hd) ?_))
    all_goals omega
  · -- kind 4
    have tw : IntKind.i64.wrap (4 - 1) = 3 := by rfl
    have tn : Int.toNat 3 = 3 := rfl
    cases op with
    | true =>
      have e : lineO ⟨4, key, hi, true, val, lim⟩ = joinB [(⟨#[119, 105, 112, 101]⟩ : ByteArray), quoteF key, (⟨#[42]⟩ : ByteArray)] ⟨#[32]⟩ := rfl
      rw [e, joinB3, s32]
      (repeat (first | simp (maxSteps := 4000000) only [go_sem, ↓reduceIte, reduceCtorEq, Nat.reduceEqDiff, Nat.reduceBEq, Nat.reduceAdd, Nat.reduceSub, Nat.reduceMul, Nat.reduceLT, Nat.reduceLeDiff, Nat.reduceBNe, Int.reduceBEq, Int.reduceBNe, Int.reduceLT, Int.reduceLE, Opr.a, Spn.a, nul, tw, tn, z1, z2, z3, z4, ByteArray.size_append] | refine calling (hR) ?_ | refine callingH (hR) ?_ | refine calling (rQuote_ok key (by omega)) ?_ | refine callingH (rQuote_ok key (by omega)) ?_ | refine calling (rQuote_ok val (by omega)) ?_ | refine callingH (rQuote_ok val (by omega)) ?_ | refine calling (rQuote_ok hi (by omega)) ?_ | refine callingH (rQuote_ok hi (by omega)) ?_ | refine calling (rDec_ok lim ⟨by omega, by omega⟩) ?_ | refine callingH (rDec_ok lim ⟨by omega, by omega⟩) ?_ | refine And.intro (by omega) ?_ | refine And.intro (fun d hd => by (repeat (rcases hd with rfl | hd; · exact ⟨rfl, rfl⟩)); cases hd) ?_))
      all_goals omega
    | false =>
      have e : lineO ⟨4, key, hi, false, val, lim⟩ = joinB [(⟨#[119, 105, 112, 101]⟩ : ByteArray), quoteF key, quoteF hi] ⟨#[32]⟩ := rfl
      rw [e, joinB3]
      (repeat (first | simp (maxSteps := 4000000) only [go_sem, ↓reduceIte, reduceCtorEq, Nat.reduceEqDiff, Nat.reduceBEq, Nat.reduceAdd, Nat.reduceSub, Nat.reduceMul, Nat.reduceLT, Nat.reduceLeDiff, Nat.reduceBNe, Int.reduceBEq, Int.reduceBNe, Int.reduceLT, Int.reduceLE, Opr.a, Spn.a, nul, tw, tn, z1, z2, z3, z4, ByteArray.size_append] | refine calling (hR) ?_ | refine callingH (hR) ?_ | refine calling (rQuote_ok key (by omega)) ?_ | refine callingH (rQuote_ok key (by omega)) ?_ | refine calling (rQuote_ok val (by omega)) ?_ | refine callingH (rQuote_ok val (by omega)) ?_ | refine calling (rQuote_ok hi (by omega)) ?_ | refine callingH (rQuote_ok hi (by omega)) ?_ | refine calling (rDec_ok lim ⟨by omega, by omega⟩) ?_ | refine callingH (rDec_ok lim ⟨by omega, by omega⟩) ?_ | refine And.intro (by omega) ?_ | refine And.intro (fun d hd => by (repeat (rcases hd with rfl | hd; · exact ⟨rfl, rfl⟩)); cases hd) ?_))
      all_goals omega
  · -- kind 5
    have tw : IntKind.i64.wrap (5 - 1) = 4 := by rfl
    have tn : Int.toNat 4 = 4 := rfl
    have e : lineO ⟨5, key, hi, op, val, lim⟩ = joinB [(⟨#[103, 101, 116]⟩ : ByteArray), quoteF key] ⟨#[32]⟩ := rfl
    rw [e, joinB2]
    (repeat (first | simp (maxSteps := 4000000) only [go_sem, ↓reduceIte, reduceCtorEq, Nat.reduceEqDiff, Nat.reduceBEq, Nat.reduceAdd, Nat.reduceSub, Nat.reduceMul, Nat.reduceLT, Nat.reduceLeDiff, Nat.reduceBNe, Int.reduceBEq, Int.reduceBNe, Int.reduceLT, Int.reduceLE, Opr.a, Spn.a, nul, tw, tn, z1, z2, z3, z4, ByteArray.size_append] | refine calling (hR) ?_ | refine callingH (hR) ?_ | refine calling (rQuote_ok key (by omega)) ?_ | refine callingH (rQuote_ok key (by omega)) ?_ | refine calling (rQuote_ok val (by omega)) ?_ | refine callingH (rQuote_ok val (by omega)) ?_ | refine calling (rQuote_ok hi (by omega)) ?_ | refine callingH (rQuote_ok hi (by omega)) ?_ | refine calling (rDec_ok lim ⟨by omega, by omega⟩) ?_ | refine callingH (rDec_ok lim ⟨by omega, by omega⟩) ?_ | refine And.intro (by omega) ?_ | refine And.intro (fun d hd => by (repeat (rcases hd with rfl | hd; · exact ⟨rfl, rfl⟩)); cases hd) ?_))
    all_goals omega
  · -- kind 6
    have tw : IntKind.i64.wrap (6 - 1) = 5 := by rfl
    have tn : Int.toNat 5 = 5 := rfl
    have l12 : 1 ≤ lim ∧ lim ≤ 64 := by simpa using p4
    have sd := sd l12.2 l12.1
    cases op with
    | true =>
      have e : lineO ⟨6, key, hi, true, val, lim⟩ = joinB [(⟨#[115, 99, 97, 110]⟩ : ByteArray), quoteF key, (⟨#[42]⟩ : ByteArray), decS lim] ⟨#[32]⟩ := rfl
      rw [e, joinB4, s32]
      (repeat (first | simp (maxSteps := 4000000) only [go_sem, ↓reduceIte, reduceCtorEq, Nat.reduceEqDiff, Nat.reduceBEq, Nat.reduceAdd, Nat.reduceSub, Nat.reduceMul, Nat.reduceLT, Nat.reduceLeDiff, Nat.reduceBNe, Int.reduceBEq, Int.reduceBNe, Int.reduceLT, Int.reduceLE, Opr.a, Spn.a, nul, tw, tn, z1, z2, z3, z4, ByteArray.size_append] | refine calling (hR) ?_ | refine callingH (hR) ?_ | refine calling (rQuote_ok key (by omega)) ?_ | refine callingH (rQuote_ok key (by omega)) ?_ | refine calling (rQuote_ok val (by omega)) ?_ | refine callingH (rQuote_ok val (by omega)) ?_ | refine calling (rQuote_ok hi (by omega)) ?_ | refine callingH (rQuote_ok hi (by omega)) ?_ | refine calling (rDec_ok lim ⟨by omega, by omega⟩) ?_ | refine callingH (rDec_ok lim ⟨by omega, by omega⟩) ?_ | refine And.intro (by omega) ?_ | refine And.intro (fun d hd => by (repeat (rcases hd with rfl | hd; · exact ⟨rfl, rfl⟩)); cases hd) ?_))
      all_goals omega
    | false =>
      have e : lineO ⟨6, key, hi, false, val, lim⟩ = joinB [(⟨#[115, 99, 97, 110]⟩ : ByteArray), quoteF key, quoteF hi, decS lim] ⟨#[32]⟩ := rfl
      rw [e, joinB4]
      (repeat (first | simp (maxSteps := 4000000) only [go_sem, ↓reduceIte, reduceCtorEq, Nat.reduceEqDiff, Nat.reduceBEq, Nat.reduceAdd, Nat.reduceSub, Nat.reduceMul, Nat.reduceLT, Nat.reduceLeDiff, Nat.reduceBNe, Int.reduceBEq, Int.reduceBNe, Int.reduceLT, Int.reduceLE, Opr.a, Spn.a, nul, tw, tn, z1, z2, z3, z4, ByteArray.size_append] | refine calling (hR) ?_ | refine callingH (hR) ?_ | refine calling (rQuote_ok key (by omega)) ?_ | refine callingH (rQuote_ok key (by omega)) ?_ | refine calling (rQuote_ok val (by omega)) ?_ | refine callingH (rQuote_ok val (by omega)) ?_ | refine calling (rQuote_ok hi (by omega)) ?_ | refine callingH (rQuote_ok hi (by omega)) ?_ | refine calling (rDec_ok lim ⟨by omega, by omega⟩) ?_ | refine callingH (rDec_ok lim ⟨by omega, by omega⟩) ?_ | refine And.intro (by omega) ?_ | refine And.intro (fun d hd => by (repeat (rcases hd with rfl | hd; · exact ⟨rfl, rfl⟩)); cases hd) ?_))
      all_goals omega
theorem rLineX (o : Opr) (h : o.key.size ≤ 9000000000) (hh : o.hi.size ≤ 9000000000) : AFn Tryd.prog 63 [o.a] (.str (lineX o)) := by
  unfold lineX
  cases hr : o.right with
  | true => exact rLine_ok o hr
  | false => exact rLine_no o h hh hr
end
section
/-
  An event's line: what the code and the document answer for it: walked.
-/
open Go.RowKit Go.Lib
set_option linter.unusedVariables false
set_option linter.unusedSimpArgs false
set_option maxRecDepth 100000
attribute [local go_sem ↓] runOp headOp
theorem cutE_size (s : ByteArray) : (cutE s).1.size ≤ s.size ∧ (cutE s).2.size ≤ s.size := by
  unfold cutE
  rw [sz_list s]
  unfold Lib.cut
  split
  · exact ⟨by show (List.toArray _).size ≤ _; rw [List.size_toArray, List.length_take]; omega, by show (List.toArray _).size ≤ _; rw [List.size_toArray, List.length_drop]; omega⟩
  · exact ⟨by show (List.toArray _).size ≤ _; rw [List.size_toArray]; exact Nat.le_refl _, by show (List.toArray _).size ≤ _; rw [List.size_toArray]; exact Nat.zero_le _⟩
theorem cut_ok (s : ByteArray) (hs : s.size ≤ 1000000) : AFn Tryd.prog 130 [.str s, .str (⟨#[61]⟩ : ByteArray)] (.tup [.str (cutE s).1, .str (cutE s).2, .bool (Lib.cut s.data.toList [61]).2.2]) :=
  .flat2 (by kernel_rfl) str_flat str_flat (fun Q base w => .tup [_, _, _] [.string (cutE s).1, .string (cutE s).2, .bool (Lib.cut s.data.toList [61]).2.2] rfl fun j c v hc hv => by
    match j with
    | 0 => cases hc; cases hv; exact .str _
    | 1 => cases hc; cases hv; exact .str _
    | 2 => cases hc; cases hv; exact .bool _
    | j + 3 => simp at hc) fun w hG => by
    obtain ⟨m, hm⟩ := hG.cell0
    refine (Tryd.strings_Cut s (⟨#[61]⟩ : ByteArray) m w (by omega) hm).mono ?_
    rintro e w' ⟨rfl, n, rfl⟩
    exact ⟨rfl, below_of_drewN _ _ _⟩
/-! ### percolate/trace.pair -/
def r_pair_0 : Reg := ⟨[], [⟨(.alloc 2 77 (.agg [(.str ⟨#[]⟩), (.str ⟨#[]⟩)])), (some 2), none, [], []⟩], [2], [], false⟩
def t_pair_1 : List ROp := [⟨(.mv (.t 0)), (some 8), none, [9], []⟩, ⟨(.callv (.c (.clo 130 [] [])) [(.t 8), (.c (.str ⟨#[61]⟩))]), (some 9), none, [], []⟩, ⟨(.mv (.t 9)), (some 7), none, [], []⟩, ⟨(.ext 0 (.t 7)), (some 10), none, [], []⟩, ⟨(.ext 1 (.t 7)), (some 11), none, [], []⟩, ⟨(.ext 2 (.t 7)), (some 12), none, [], []⟩, ⟨(.mv (.t 10)), (some 3), none, [], []⟩, ⟨(.mv (.t 11)), (some 4), none, [], []⟩, ⟨(.mv (.t 12)), (some 5), none, [], []⟩]
def r_pair_1 : Reg := ⟨[], t_pair_1, [9], [], false⟩
def r_pair_2 : Reg := ⟨[], [⟨(.alloc 2 77 (.agg [(.str ⟨#[]⟩), (.str ⟨#[]⟩)])), (some 6), none, [], []⟩], [6], [], false⟩
def t_pair_3 : List ROp := [⟨(.mv (.t 3)), (some 14), none, [15], []⟩, ⟨(.callv (.c (.clo 97 [] [])) [(.t 14)]), (some 15), none, [], []⟩, ⟨(.mv (.t 15)), (some 13), none, [], []⟩, ⟨(.ext 0 (.t 13)), (some 16), none, [], []⟩, ⟨(.ext 1 (.t 13)), (some 17), none, [], []⟩, ⟨(.faddr 0 (.t 6)), (some 18), none, [], []⟩, ⟨(.store 1 (.t 18) (.t 16)), none, none, [], []⟩]
def r_pair_3 : Reg := ⟨[], t_pair_3, [15], [], false⟩
def t_pair_4 : List ROp := [⟨(.mv (.t 4)), (some 20), none, [21], []⟩, ⟨(.callv (.c (.clo 97 [] [])) [(.t 20)]), (some 21), none, [], []⟩, ⟨(.mv (.t 21)), (some 19), none, [], []⟩, ⟨(.ext 0 (.t 19)), (some 22), none, [], []⟩, ⟨(.ext 1 (.t 19)), (some 23), none, [], []⟩, ⟨(.faddr 1 (.t 6)), (some 24), none, [], []⟩, ⟨(.store 1 (.t 24) (.t 22)), none, none, [], []⟩]
def r_pair_4 : Reg := ⟨[], t_pair_4, [21], [], false⟩
def r_pair_5 : Reg := ⟨[], [⟨(.load 2 true (.t 6)), (some 25), none, [], []⟩, ⟨(.store 2 (.t 2) (.t 25)), none, none, [], []⟩], [], [], false⟩
def ir_pair : IR := (.seq (.reg r_pair_0)
  (.seq (.reg r_pair_1)
  (.seq (.reg r_pair_2)
  (.seq (.reg r_pair_3)
  (.seq (.reg r_pair_4)
  (.seq (.reg r_pair_5)
  .ret))))))
def res_pair : List RDesc := [(.cell 2 2 true)]
theorem e_pair_0 (C : FuncId → List AV → AV → Prop) (σ : St) (K : St → Prop) : runReg C r_pair_0 σ K = runOps C [⟨(.alloc 2 77 (.agg [(.str ⟨#[]⟩), (.str ⟨#[]⟩)])), (some 2), none, [], []⟩] (σ.kills [2]) K := rfl
theorem e_pair_1 (C : FuncId → List AV → AV → Prop) (σ : St) (K : St → Prop) : runReg C r_pair_1 σ K = runOps C t_pair_1 (σ.kills [9]) K := rfl
theorem e_pair_2 (C : FuncId → List AV → AV → Prop) (σ : St) (K : St → Prop) : runReg C r_pair_2 σ K = runOps C [⟨(.alloc 2 77 (.agg [(.str ⟨#[]⟩), (.str ⟨#[]⟩)])), (some 6), none, [], []⟩] (σ.kills [6]) K := rfl
theorem e_pair_3 (C : FuncId → List AV → AV → Prop) (σ : St) (K : St → Prop) : runReg C r_pair_3 σ K = runOps C t_pair_3 (σ.kills [15]) K := rfl
theorem e_pair_4 (C : FuncId → List AV → AV → Prop) (σ : St) (K : St → Prop) : runReg C r_pair_4 σ K = runOps C t_pair_4 (σ.kills [21]) K := rfl
theorem e_pair_5 (C : FuncId → List AV → AV → Prop) (σ : St) (K : St → Prop) : runReg C r_pair_5 σ K = runOps C [⟨(.load 2 true (.t 6)), (some 25), none, [], []⟩, ⟨(.store 2 (.t 2) (.t 25)), none, none, [], []⟩] (σ.kills []) K := rfl
theorem fn_pair {args : List AV} {r : AV} (ha : args.length.ble Tryd.f98.ntmps = true) (h : run (AFn Tryd.prog) ir_pair (endQ res_pair r) (initSt args)) : AFn Tryd.prog 98 args r :=
  AFn.of_code (pv := false) (hint := fun _ => []) (c := Tryd.f98.body.getD .skip) (by kernel_rfl) (by kernel_rfl) Tryd.func98 (by kernel_rfl) (by kernel_rfl) (by kernel_rfl) (of_decide_eq_true (by kernel_rfl)) (Nat.le_of_ble_eq_true ha) (Nat.le_of_ble_eq_true (by kernel_rfl)) (run_ok h)
attribute [local go_sem ↓] ir_pair
attribute [local go_sem] res_pair e_pair_0 e_pair_1 t_pair_1 e_pair_2 e_pair_3 t_pair_3 e_pair_4 t_pair_4 e_pair_5
theorem pair_ok (s : ByteArray) (hs : s.size ≤ 1000000) : AFn Tryd.prog 98 [.str s] (pairP s).a := by
  refine fn_pair rfl ?_
  obtain ⟨z1, z2⟩ := cutE_size s
  have c1 := cut_ok s hs
  have c2 := unq_ok (cutE s).1 (by omega)
  have c3 := unq_ok (cutE s).2 (by omega)
  rw [uqF_shape] at c2 c3
  (repeat (first | simp (maxSteps := 4000000) only [go_sem, ↓reduceIte, reduceCtorEq, Nat.reduceEqDiff, Nat.reduceBEq, Nat.reduceAdd, Nat.reduceSub, Nat.reduceMul, Nat.reduceLT, Nat.reduceLeDiff, Nat.reduceBNe, Int.reduceBEq, Int.reduceBNe, Int.reduceLT, Int.reduceLE, Par.a, Opr.a, Ans.a, Evt.a, nul, pairP] | refine calling (c1) ?_ | refine callingH (c1) ?_ | refine calling (c2) ?_ | refine callingH (c2) ?_ | refine calling (c3) ?_ | refine callingH (c3) ?_ | refine And.intro (by omega) ?_ | refine And.intro (fun d hd => by (repeat (rcases hd with rfl | hd; · exact ⟨rfl, rfl⟩)); cases hd) ?_))
end
section
/-
  Layer 7: the law OpLines.
-/
open Go.RowKit
set_option linter.unusedVariables false
set_option linter.unusedSimpArgs false
set_option maxRecDepth 100000
theorem lineX_size (o : Opr) : (lineX o).size ≤ 100000 := by
  unfold lineX
  cases hr : o.right with
  | false => show (⟨#[98, 97, 100]⟩ : ByteArray).size ≤ _; decide
  | true =>
    rw [if_pos rfl]
    obtain ⟨hk1, hk6, hkey, hhi, hval, p1, p2, p3, p4⟩ := right_parts hr
    have q1 := quoteF_size o.key
    have q2 := quoteF_size o.hi
    have q3 := quoteF_size o.val
    have hl : (lineW o).length ≤ 4 := by
      unfold lineW
      simp only [List.length_append, List.length_cons, List.length_nil]
      split <;> (repeat' split) <;> simp <;> (try split <;> simp)
    have hs : ∀ x, x ∈ lineW o → x.size ≤ 1000 := by
      intro x hx
      unfold lineW at hx
      rcases List.mem_append.1 hx with h | h
      · rcases List.mem_append.1 h with h | h
        · rcases List.mem_cons.1 h with rfl | h
          · unfold kindW
            repeat' split
            all_goals decide
          · rw [List.mem_singleton.1 h]; omega
        · split at h
          · rw [List.mem_singleton.1 h]; omega
          · split at h
            · split at h
              · rw [List.mem_singleton.1 h]; decide
              · rw [List.mem_singleton.1 h]; omega
            · simp at h
      · split at h
        · rename_i h6
          rw [h6] at p4
          have l12 : 1 ≤ o.lim ∧ o.lim ≤ 64 := by simpa using p4
          rw [List.mem_singleton.1 h, decS_size]
          have := Lib.itoa_length_le o.lim (by omega) (by omega)
          omega
        · simp at h
    unfold lineO
    generalize lineW o = l at hl hs
    have h1 := join_len (⟨#[32]⟩ : ByteArray).data.toList (l.map (·.data.toList))
    have h2 : ∀ l : List ByteArray, (∀ x, x ∈ l → x.size ≤ 1000) → ((l.map (·.data.toList)).map fun x => x.length + 1).sum ≤ l.length * 1001 := by
      intro l
      induction l with
      | nil => intro _; simp
      | cons y r ih =>
        intro hx
        have a := ih (fun x hxm => hx x (List.mem_cons_of_mem _ hxm))
        have b := hx y (List.mem_cons_self ..)
        have c : y.data.toList.length = y.size := by rw [Array.length_toList]; rfl
        simp only [List.map_cons, List.sum_cons, List.length_cons]
        rw [c]
        omega
    have h3 := h2 l hs
    have e1 : (fun x : List UInt8 => x.length + (⟨#[32]⟩ : ByteArray).data.toList.length) = fun x => x.length + 1 := rfl
    rw [e1] at h1
    show (Lib.join _ _).length ≤ _
    have : l.length * 1001 ≤ 4 * 1001 := Nat.mul_le_mul_right _ hl
    omega
def Opr.vals (o : Opr) : List Value := [.int .i64 o.kind, .string o.key, .string o.hi, .bool o.op, .string o.val, .int .i64 o.lim]
section
open Go.ChangeShapes Go.WideShapes Go.ChangeAt
end
theorem Opr.vr (o : Opr) (Q : Nat → Nat → Prop) (w : World) : VR Q w o.a (.agg o.vals.toArray) := by
  refine .agg _ _ rfl fun j c v hc hv => ?_
  match j with
  | 0 => cases hc; cases hv; exact .int _ _
  | 1 => cases hc; cases hv; exact .str _
  | 2 => cases hc; cases hv; exact .str _
  | 3 => cases hc; cases hv; exact .bool _
  | 4 => cases hc; cases hv; exact .str _
  | 5 => cases hc; cases hv; exact .int _ _
  | n + 6 => simp at hc
end
section
/-
  An answer's and an event's line: the code and the document, walked; whether two events are one.
-/
open Go.RowKit Go.Lib
set_option linter.unusedVariables false
set_option linter.unusedSimpArgs false
set_option maxRecDepth 100000
attribute [local go_sem ↓] runOp headOp
theorem sumN_take {α : Type} (f : α → Nat) : ∀ (l : List α) (j : Nat), sumN f (l.take j) ≤ sumN f l
  | [], j => by rw [List.take_nil]; exact Nat.le_refl _
  | x :: l, 0 => Nat.zero_le _
  | x :: l, j + 1 => by
    have := sumN_take f l j
    show f x + sumN f (l.take j) ≤ f x + sumN f l
    omega
theorem catF_bulk : ∀ l : List Par, (catF (fun p : Par => (⟨#[32]⟩ : ByteArray) ++ p.w) l).size ≤ 4 * sumN Par.bulk l
  | [] => Nat.zero_le _
  | p :: l => by
    have h := catF_bulk l
    have q1 := quoteF_size p.key
    have q2 := quoteF_size p.val
    have e1 : (⟨#[32]⟩ : ByteArray).size = 1 := rfl
    have e2 : (⟨#[61]⟩ : ByteArray).size = 1 := rfl
    show (((⟨#[32]⟩ : ByteArray) ++ p.w) ++ catF (fun p : Par => (⟨#[32]⟩ : ByteArray) ++ p.w) l).size ≤ 4 * (p.bulk + sumN Par.bulk l)
    unfold Par.w Par.bulk at *
    simp only [ByteArray.size_append, e1, e2] at *
    omega
def prsS : ByteArray := ⟨#[112, 97, 105, 114, 115, 32]⟩
def outP (l : List Par) (j : Nat) : ByteArray := prsS ++ decS l.length ++ catF (fun p : Par => (⟨#[32]⟩ : ByteArray) ++ p.w) (l.take j)
theorem outP_zero (l : List Par) : outP l 0 = (⟨#[112, 97, 105, 114, 115, 32]⟩ : ByteArray) ++ decS l.length := ba_nil _
theorem outP_next {l : List Par} {j : Nat} {x : Par} (h : l[j]? = some x) : outP l j ++ ((⟨#[32]⟩ : ByteArray) ++ quoteF x.key ++ (⟨#[61]⟩ : ByteArray) ++ quoteF x.val) = outP l (j + 1) := by
  unfold outP
  rw [take_at h, catF_snoc]
  unfold Par.w
  simp only [ba_assoc]
theorem outP_size (l : List Par) (j : Nat) (hl : l.length ≤ 1000000) : (outP l j).size ≤ 40 + 4 * sumN Par.bulk l := by
  have d := decS_small l.length (by omega) (by omega)
  have c := catF_bulk (l.take j)
  have t := sumN_take Par.bulk l j
  have e : prsS.size = 6 := rfl
  unfold outP
  rw [ByteArray.size_append, ByteArray.size_append, e]
  omega
theorem outP_line (l : List Par) : outP l l.length = joinB (prsB :: decS l.length :: l.map Par.w) (⟨#[32]⟩ : ByteArray) := by
  have e : prsB ++ (⟨#[32]⟩ : ByteArray) = prsS := by decide +kernel
  rw [joinB_cat]
  show prsS ++ decS l.length ++ catF _ (l.take l.length) = prsB ++ (((⟨#[32]⟩ : ByteArray) ++ decS l.length) ++ catF (fun y => (⟨#[32]⟩ : ByteArray) ++ y) (l.map Par.w))
  rw [List.take_length, catF_map, ← e]
  simp only [ba_assoc]
theorem ansL_size (o : Opr) (a : Ans) (he : inI a.err) (hv : a.val.size ≤ 1000000) (hp : sumN Par.bulk a.prs ≤ 1000000) : (ansL o a).size ≤ 5000000 := by
  have hn := sumN_len (f := Par.bulk) (fun x => by unfold Par.bulk; omega) a.prs
  have q0 := quoteF_size a.val
  have d0 := decS_small a.err he.1 he.2
  have d1 := outP_size a.prs a.prs.length (by omega)
  have e1 : (⟨#[32]⟩ : ByteArray).size = 1 := rfl
  have e2 : hasB.size = 3 := rfl
  have e3 : noneB.size = 4 := rfl
  have e4 : okB.size = 2 := rfl
  have e5 : errB.size = 5 := rfl
  have j1 : ∀ b : ByteArray, joinB [b] (⟨#[32]⟩ : ByteArray) = b := fun b => by rw [joinB_cat]; exact ba_nil _
  unfold ansL ansW
  split
  · split
    · split
      · rw [joinB2, ByteArray.size_append, ByteArray.size_append]; omega
      · rw [j1]; omega
    · split
      · rw [← outP_line]; omega
      · rw [j1]; omega
  · rw [joinB2, ByteArray.size_append, ByteArray.size_append]; omega
/-! ### percolate/answer.Line -/
def t_aLine_0 : List ROp := [⟨(.box 6 43 (.t 0)), (some 2), none, [3], []⟩, ⟨(.box 4 46 (.t 1)), (some 3), none, [], []⟩, ⟨(.mv (.c (.str ⟨#[]⟩))), (some 4), none, [], []⟩]
def r_aLine_0 : Reg := ⟨[], t_aLine_0, [2, 3], [], false⟩
def t_aLine_1 : List ROp := [⟨(.faddr 0 (.t 3)), (some 9), none, [], []⟩, ⟨(.load 1 false (.t 9)), (some 10), none, [], []⟩, ⟨(.bin .neq (.t 10) (.c (.int .i64 0))), (some 11), none, [], []⟩, ⟨(.mv (.t 11)), (some 8), none, [], []⟩]
def r_aLine_1 : Reg := ⟨[], t_aLine_1, [], [], false⟩
def t_aLine_2 : List ROp := [⟨(.faddr 0 (.t 3)), (some 12), none, [14], []⟩, ⟨(.load 1 false (.t 12)), (some 13), none, [14], []⟩, ⟨(.callv (.c (.clo 46 [] [])) [(.t 13)]), (some 14), none, [], []⟩, ⟨(.bin .add (.c (.str ⟨#[101, 114, 114, 111, 114, 32]⟩)) (.t 14)), (some 15), none, [], []⟩, ⟨(.mv (.t 15)), (some 4), none, [], []⟩]
def r_aLine_2 : Reg := ⟨[], t_aLine_2, [14], [], false⟩
def t_aLine_3 : List ROp := [⟨(.faddr 0 (.t 2)), (some 17), none, [], []⟩, ⟨(.load 1 false (.t 17)), (some 18), none, [], []⟩, ⟨(.bin .eql (.t 18) (.c (.int .i64 5))), (some 19), none, [], []⟩, ⟨(.mv (.t 19)), (some 20), none, [], []⟩, ⟨(.faddr 1 (.t 3)), (some 21), (some (20, true)), [], []⟩, ⟨(.load 1 false (.t 21)), (some 22), (some (20, true)), [], []⟩, ⟨(.pick (.t 20) (.t 22) (.c (.bool false))), (some 23), none, [], []⟩, ⟨(.mv (.t 23)), (some 16), none, [], []⟩]
def r_aLine_3 : Reg := ⟨[], t_aLine_3, [], [], false⟩
def t_aLine_4 : List ROp := [⟨(.faddr 2 (.t 3)), (some 24), none, [26], []⟩, ⟨(.load 1 false (.t 24)), (some 25), none, [26], []⟩, ⟨(.callv (.c (.clo 70 [] [])) [(.t 25)]), (some 26), none, [], []⟩, ⟨(.bin .add (.c (.str ⟨#[104, 97, 115, 32]⟩)) (.t 26)), (some 27), none, [], []⟩, ⟨(.mv (.t 27)), (some 4), none, [], []⟩]
def r_aLine_4 : Reg := ⟨[], t_aLine_4, [26], [], false⟩
def t_aLine_5 : List ROp := [⟨(.faddr 0 (.t 2)), (some 29), none, [], []⟩, ⟨(.load 1 false (.t 29)), (some 30), none, [], []⟩, ⟨(.bin .eql (.t 30) (.c (.int .i64 5))), (some 31), none, [], []⟩, ⟨(.mv (.t 31)), (some 28), none, [], []⟩]
def r_aLine_5 : Reg := ⟨[], t_aLine_5, [], [], false⟩
def r_aLine_6 : Reg := ⟨[], [⟨(.mv (.c (.str ⟨#[110, 111, 110, 101]⟩))), (some 4), none, [], []⟩], [], [], false⟩
def t_aLine_7 : List ROp := [⟨(.faddr 0 (.t 2)), (some 33), none, [], []⟩, ⟨(.load 1 false (.t 33)), (some 34), none, [], []⟩, ⟨(.bin .eql (.t 34) (.c (.int .i64 6))), (some 35), none, [], []⟩, ⟨(.mv (.t 35)), (some 32), none, [], []⟩]
def r_aLine_7 : Reg := ⟨[], t_aLine_7, [], [], false⟩
def t_aLine_8 : List ROp := [⟨(.faddr 3 (.t 3)), (some 36), none, [39], []⟩, ⟨(.load 1 false (.t 36)), (some 37), none, [39], []⟩, ⟨(.len false (.t 37)), (some 38), none, [39], []⟩, ⟨(.callv (.c (.clo 46 [] [])) [(.t 38)]), (some 39), none, [], []⟩, ⟨(.bin .add (.c (.str ⟨#[112, 97, 105, 114, 115, 32]⟩)) (.t 39)), (some 40), none, [], []⟩, ⟨(.mv (.t 40)), (some 5), none, [], []⟩]
def r_aLine_8 : Reg := ⟨[], t_aLine_8, [39], [], false⟩
def t_aLine_9 : List ROp := [⟨(.faddr 3 (.t 3)), (some 41), none, [], []⟩, ⟨(.load 1 false (.t 41)), (some 42), none, [], []⟩, ⟨(.len false (.t 42)), (some 43), none, [], []⟩, ⟨(.mv (.c (.int .i64 0))), (some 44), none, [], []⟩]
def r_aLine_9 : Reg := ⟨[], t_aLine_9, [], [], false⟩
def r_aLine_10 : Reg := ⟨[], [⟨(.bin .lss (.t 44) (.t 43)), (some 45), none, [], []⟩], [], [], false⟩
def t_aLine_11 : List ROp := [⟨(.iaddr 2 (.t 42) (.t 44)), (some 46), none, [7], []⟩, ⟨(.load 2 true (.t 46)), (some 47), none, [7], []⟩, ⟨(.alloc 2 77 (.agg [(.str ⟨#[]⟩), (.str ⟨#[]⟩)])), (some 7), none, [], []⟩, ⟨(.store 2 (.t 7) (.t 47)), none, none, [], []⟩]
def r_aLine_11 : Reg := ⟨[], t_aLine_11, [7], [], false⟩
def h_aLine_12 : List ROp := [⟨(.mv (.t 5)), (some 48), none, [51, 56], []⟩, ⟨(.faddr 0 (.t 7)), (some 49), none, [51, 56], []⟩, ⟨(.load 1 false (.t 49)), (some 50), none, [51, 56], []⟩, ⟨(.callv (.c (.clo 70 [] [])) [(.t 50)]), (some 51), none, [56], []⟩, ⟨(.bin .add (.c (.str ⟨#[32]⟩)) (.t 51)), (some 52), none, [56], []⟩, ⟨(.bin .add (.t 52) (.c (.str ⟨#[61]⟩))), (some 53), none, [56], []⟩, ⟨(.faddr 1 (.t 7)), (some 54), none, [51, 56], []⟩, ⟨(.load 1 false (.t 54)), (some 55), none, [51, 56], []⟩, ⟨(.callv (.c (.clo 70 [] [])) [(.t 55)]), (some 56), none, [], []⟩, ⟨(.bin .add (.t 53) (.t 56)), (some 57), none, [], []⟩]
def r_aLine_12 : Reg := ⟨h_aLine_12, [⟨(.bin .add (.t 48) (.t 57)), (some 58), none, [], []⟩, ⟨(.mv (.t 58)), (some 5), none, [], []⟩], [51, 56], [], true⟩
def r_aLine_13 : Reg := ⟨[], [⟨(.bin .add (.t 44) (.c (.int .i64 1))), (some 59), none, [], []⟩, ⟨(.mv (.t 59)), (some 44), none, [], []⟩], [], [], false⟩
def r_aLine_l14 : IR := (.seq (.reg r_aLine_10)
  (.seq (.cond (.t 45) .skip
  (.exit 1))
  (.seq (.block 2 (.seq (.reg r_aLine_11)
  (.reg r_aLine_12)))
  (.reg r_aLine_13))))
def r_aLine_15 : Reg := ⟨[], [⟨(.mv (.t 5)), (some 60), none, [], []⟩, ⟨(.mv (.t 60)), (some 4), none, [], []⟩], [], [], false⟩
def r_aLine_16 : Reg := ⟨[], [⟨(.mv (.c (.str ⟨#[111, 107]⟩))), (some 4), none, [], []⟩], [], [], false⟩
def ir_aLine : IR := (.seq (.reg r_aLine_0)
  (.seq (.block 0 (.seq (.reg r_aLine_1)
  (.cond (.t 8) (.seq (.reg r_aLine_2)
  .ret)
  (.seq (.reg r_aLine_3)
  (.cond (.t 16) (.seq (.reg r_aLine_4)
  .ret)
  (.seq (.reg r_aLine_5)
  (.cond (.t 28) (.seq (.reg r_aLine_6)
  .ret)
  (.seq (.reg r_aLine_7)
  (.cond (.t 32) (.seq (.reg r_aLine_8)
  (.seq (.seq (.reg r_aLine_9)
  (.block 1 (.loop r_aLine_l14)))
  (.seq (.reg r_aLine_15)
  .ret)))
  .skip)))))))))
  (.seq (.reg r_aLine_16)
  .ret)))
def res_aLine : List RDesc := [(.tmp 4)]
theorem e_aLine_0 (C : FuncId → List AV → AV → Prop) (σ : St) (K : St → Prop) : runReg C r_aLine_0 σ K = runOps C t_aLine_0 (σ.kills [2, 3]) K := rfl
theorem e_aLine_1 (C : FuncId → List AV → AV → Prop) (σ : St) (K : St → Prop) : runReg C r_aLine_1 σ K = runOps C t_aLine_1 (σ.kills []) K := rfl
theorem e_aLine_2 (C : FuncId → List AV → AV → Prop) (σ : St) (K : St → Prop) : runReg C r_aLine_2 σ K = runOps C t_aLine_2 (σ.kills [14]) K := rfl
theorem e_aLine_3 (C : FuncId → List AV → AV → Prop) (σ : St) (K : St → Prop) : runReg C r_aLine_3 σ K = runOps C t_aLine_3 (σ.kills []) K := rfl
theorem e_aLine_4 (C : FuncId → List AV → AV → Prop) (σ : St) (K : St → Prop) : runReg C r_aLine_4 σ K = runOps C t_aLine_4 (σ.kills [26]) K := rfl
theorem e_aLine_5 (C : FuncId → List AV → AV → Prop) (σ : St) (K : St → Prop) : runReg C r_aLine_5 σ K = runOps C t_aLine_5 (σ.kills []) K := rfl
theorem e_aLine_6 (C : FuncId → List AV → AV → Prop) (σ : St) (K : St → Prop) : runReg C r_aLine_6 σ K = runOps C [⟨(.mv (.c (.str ⟨#[110, 111, 110, 101]⟩))), (some 4), none, [], []⟩] (σ.kills []) K := rfl
theorem e_aLine_7 (C : FuncId → List AV → AV → Prop) (σ : St) (K : St → Prop) : runReg C r_aLine_7 σ K = runOps C t_aLine_7 (σ.kills []) K := rfl
theorem e_aLine_8 (C : FuncId → List AV → AV → Prop) (σ : St) (K : St → Prop) : runReg C r_aLine_8 σ K = runOps C t_aLine_8 (σ.kills [39]) K := rfl
theorem e_aLine_9 (C : FuncId → List AV → AV → Prop) (σ : St) (K : St → Prop) : runReg C r_aLine_9 σ K = runOps C t_aLine_9 (σ.kills []) K := rfl
theorem e_aLine_10 (C : FuncId → List AV → AV → Prop) (σ : St) (K : St → Prop) : runReg C r_aLine_10 σ K = runOps C [⟨(.bin .lss (.t 44) (.t 43)), (some 45), none, [], []⟩] (σ.kills []) K := rfl
theorem e_aLine_11 (C : FuncId → List AV → AV → Prop) (σ : St) (K : St → Prop) : runReg C r_aLine_11 σ K = runOps C t_aLine_11 (σ.kills [7]) K := rfl
theorem e_aLine_12 (C : FuncId → List AV → AV → Prop) (σ : St) (K : St → Prop) : runReg C r_aLine_12 σ K = runHead C [] [⟨(.bin .add (.t 48) (.t 57)), (some 58), none, [], []⟩, ⟨(.mv (.t 58)), (some 5), none, [], []⟩] h_aLine_12 (σ.kills [51, 56]) K := rfl
theorem e_aLine_13 (C : FuncId → List AV → AV → Prop) (σ : St) (K : St → Prop) : runReg C r_aLine_13 σ K = runOps C [⟨(.bin .add (.t 44) (.c (.int .i64 1))), (some 59), none, [], []⟩, ⟨(.mv (.t 59)), (some 44), none, [], []⟩] (σ.kills []) K := rfl
theorem e_aLine_15 (C : FuncId → List AV → AV → Prop) (σ : St) (K : St → Prop) : runReg C r_aLine_15 σ K = runOps C [⟨(.mv (.t 5)), (some 60), none, [], []⟩, ⟨(.mv (.t 60)), (some 4), none, [], []⟩] (σ.kills []) K := rfl
theorem e_aLine_16 (C : FuncId → List AV → AV → Prop) (σ : St) (K : St → Prop) : runReg C r_aLine_16 σ K = runOps C [⟨(.mv (.c (.str ⟨#[111, 107]⟩))), (some 4), none, [], []⟩] (σ.kills []) K := rfl
theorem fn_aLine {args : List AV} {r : AV} (ha : args.length.ble Tryd.f51.ntmps = true) (h : run (AFn Tryd.prog) ir_aLine (endQ res_aLine r) (initSt args)) : AFn Tryd.prog 51 args r :=
  AFn.of_code (pv := false) (hint := fun _ => []) (c := Tryd.f51.body.getD .skip) (by kernel_rfl) (by kernel_rfl) Tryd.func51 (by kernel_rfl) (by kernel_rfl) (by kernel_rfl) (of_decide_eq_true (by kernel_rfl)) (Nat.le_of_ble_eq_true ha) (Nat.le_of_ble_eq_true (by kernel_rfl)) (run_ok h)
/-! ### percolate/percolateref10.Line -/
def t_r10Line_0 : List ROp := [⟨(.box 6 43 (.t 0)), (some 2), none, [3], []⟩, ⟨(.box 4 46 (.t 1)), (some 3), none, [], []⟩, ⟨(.mv (.c (.str ⟨#[]⟩))), (some 4), none, [], []⟩]
def r_r10Line_0 : Reg := ⟨[], t_r10Line_0, [2, 3], [], false⟩
def t_r10Line_1 : List ROp := [⟨(.faddr 0 (.t 3)), (some 7), none, [], []⟩, ⟨(.load 1 false (.t 7)), (some 8), none, [], []⟩, ⟨(.bin .neq (.t 8) (.c (.int .i64 0))), (some 9), none, [], []⟩]
def r_r10Line_1 : Reg := ⟨[], t_r10Line_1, [], [], false⟩
def t_r10Line_2 : List ROp := [⟨(.faddr 0 (.t 3)), (some 10), none, [12], []⟩, ⟨(.load 1 false (.t 10)), (some 11), none, [12], []⟩, ⟨(.callv (.c (.clo 32 [] [])) [(.t 11)]), (some 12), none, [], []⟩, ⟨(.bin .add (.c (.str ⟨#[101, 114, 114, 111, 114, 32]⟩)) (.t 12)), (some 13), none, [], []⟩, ⟨(.mv (.t 13)), (some 4), none, [], []⟩]
def r_r10Line_2 : Reg := ⟨[], t_r10Line_2, [12], [], false⟩
def t_r10Line_3 : List ROp := [⟨(.faddr 0 (.t 2)), (some 14), none, [], []⟩, ⟨(.load 1 false (.t 14)), (some 15), none, [], []⟩, ⟨(.bin .eql (.t 15) (.c (.int .i64 5))), (some 16), none, [], []⟩]
def r_r10Line_3 : Reg := ⟨[], t_r10Line_3, [], [], false⟩
def t_r10Line_4 : List ROp := [⟨(.faddr 1 (.t 3)), (some 17), none, [], []⟩, ⟨(.load 1 false (.t 17)), (some 18), none, [], []⟩, ⟨(.un .not (.t 18)), (some 19), none, [], []⟩]
def r_r10Line_4 : Reg := ⟨[], t_r10Line_4, [], [], false⟩
def r_r10Line_5 : Reg := ⟨[], [⟨(.mv (.c (.str ⟨#[110, 111, 110, 101]⟩))), (some 4), none, [], []⟩], [], [], false⟩
def t_r10Line_6 : List ROp := [⟨(.faddr 2 (.t 3)), (some 20), none, [22], []⟩, ⟨(.load 1 false (.t 20)), (some 21), none, [22], []⟩, ⟨(.callv (.c (.clo 33 [] [])) [(.t 21)]), (some 22), none, [], []⟩, ⟨(.bin .add (.c (.str ⟨#[104, 97, 115, 32]⟩)) (.t 22)), (some 23), none, [], []⟩, ⟨(.mv (.t 23)), (some 4), none, [], []⟩]
def r_r10Line_6 : Reg := ⟨[], t_r10Line_6, [22], [], false⟩
def t_r10Line_7 : List ROp := [⟨(.faddr 0 (.t 2)), (some 24), none, [], []⟩, ⟨(.load 1 false (.t 24)), (some 25), none, [], []⟩, ⟨(.bin .neq (.t 25) (.c (.int .i64 6))), (some 26), none, [], []⟩]
def r_r10Line_7 : Reg := ⟨[], t_r10Line_7, [], [], false⟩
def r_r10Line_8 : Reg := ⟨[], [⟨(.mv (.c (.str ⟨#[111, 107]⟩))), (some 4), none, [], []⟩], [], [], false⟩
def t_r10Line_9 : List ROp := [⟨(.faddr 3 (.t 3)), (some 27), none, [30], []⟩, ⟨(.load 1 false (.t 27)), (some 28), none, [30], []⟩, ⟨(.len false (.t 28)), (some 29), none, [30], []⟩, ⟨(.callv (.c (.clo 32 [] [])) [(.t 29)]), (some 30), none, [], []⟩, ⟨(.bin .add (.c (.str ⟨#[112, 97, 105, 114, 115, 32]⟩)) (.t 30)), (some 31), none, [], []⟩, ⟨(.mv (.t 31)), (some 5), none, [], []⟩]
def r_r10Line_9 : Reg := ⟨[], t_r10Line_9, [30], [], false⟩
def r_r10Line_10 : Reg := ⟨[], [⟨(.mv (.c (.int .i64 0))), (some 6), none, [], []⟩], [], [], false⟩
def t_r10Line_11 : List ROp := [⟨(.mv (.t 6)), (some 32), none, [], []⟩, ⟨(.faddr 3 (.t 3)), (some 33), none, [], []⟩, ⟨(.load 1 false (.t 33)), (some 34), none, [], []⟩, ⟨(.len false (.t 34)), (some 35), none, [], []⟩, ⟨(.bin .lss (.t 32) (.t 35)), (some 36), none, [], []⟩]
def r_r10Line_11 : Reg := ⟨[], t_r10Line_11, [], [], false⟩
def h_r10Line_12 : List ROp := [⟨(.mv (.t 5)), (some 39), none, [46, 55], []⟩, ⟨(.faddr 3 (.t 3)), (some 40), none, [46, 55], []⟩, ⟨(.load 1 false (.t 40)), (some 41), none, [46, 55], []⟩, ⟨(.mv (.t 6)), (some 42), none, [46, 55], []⟩, ⟨(.iaddr 2 (.t 41) (.t 42)), (some 43), none, [46, 55], []⟩, ⟨(.faddr 0 (.t 43)), (some 44), none, [46, 55], []⟩, ⟨(.load 1 false (.t 44)), (some 45), none, [46, 55], []⟩, ⟨(.callv (.c (.clo 33 [] [])) [(.t 45)]), (some 46), none, [55], []⟩, ⟨(.bin .add (.c (.str ⟨#[32]⟩)) (.t 46)), (some 47), none, [55], []⟩, ⟨(.bin .add (.t 47) (.c (.str ⟨#[61]⟩))), (some 48), none, [55], []⟩, ⟨(.faddr 3 (.t 3)), (some 49), none, [46, 55], []⟩, ⟨(.load 1 false (.t 49)), (some 50), none, [46, 55], []⟩, ⟨(.mv (.t 6)), (some 51), none, [46, 55], []⟩, ⟨(.iaddr 2 (.t 50) (.t 51)), (some 52), none, [46, 55], []⟩, ⟨(.faddr 1 (.t 52)), (some 53), none, [46, 55], []⟩, ⟨(.load 1 false (.t 53)), (some 54), none, [46, 55], []⟩, ⟨(.callv (.c (.clo 33 [] [])) [(.t 54)]), (some 55), none, [], []⟩, ⟨(.bin .add (.t 48) (.t 55)), (some 56), none, [], []⟩]
def r_r10Line_12 : Reg := ⟨h_r10Line_12, [⟨(.bin .add (.t 39) (.t 56)), (some 57), none, [], []⟩, ⟨(.mv (.t 57)), (some 5), none, [], []⟩], [46, 55], [], true⟩
def t_r10Line_13 : List ROp := [⟨(.mv (.t 6)), (some 37), none, [], []⟩, ⟨(.bin .add (.t 37) (.c (.int .i64 1))), (some 38), none, [], []⟩, ⟨(.mv (.t 38)), (some 6), none, [], []⟩]
def r_r10Line_13 : Reg := ⟨[], t_r10Line_13, [], [], false⟩
def r_r10Line_l14 : IR := (.seq (.seq (.reg r_r10Line_11)
  (.cond (.t 36) .skip
  (.exit 0)))
  (.seq (.block 1 (.reg r_r10Line_12))
  (.reg r_r10Line_13)))
def r_r10Line_15 : Reg := ⟨[], [⟨(.mv (.t 5)), (some 58), none, [], []⟩, ⟨(.mv (.t 58)), (some 4), none, [], []⟩], [], [], false⟩
def ir_r10Line : IR := (.seq (.reg r_r10Line_0)
  (.seq (.seq (.reg r_r10Line_1)
  (.cond (.t 9) (.seq (.reg r_r10Line_2)
  .ret)
  .skip))
  (.seq (.seq (.reg r_r10Line_3)
  (.cond (.t 16) (.seq (.seq (.reg r_r10Line_4)
  (.cond (.t 19) (.seq (.reg r_r10Line_5)
  .ret)
  .skip))
  (.seq (.reg r_r10Line_6)
  .ret))
  .skip))
  (.seq (.seq (.reg r_r10Line_7)
  (.cond (.t 26) (.seq (.reg r_r10Line_8)
  .ret)
  .skip))
  (.seq (.reg r_r10Line_9)
  (.seq (.seq (.reg r_r10Line_10)
  (.block 0 (.loop r_r10Line_l14)))
  (.seq (.reg r_r10Line_15)
  .ret)))))))
def res_r10Line : List RDesc := [(.tmp 4)]
theorem e_r10Line_0 (C : FuncId → List AV → AV → Prop) (σ : St) (K : St → Prop) : runReg C r_r10Line_0 σ K = runOps C t_r10Line_0 (σ.kills [2, 3]) K := rfl
theorem e_r10Line_1 (C : FuncId → List AV → AV → Prop) (σ : St) (K : St → Prop) : runReg C r_r10Line_1 σ K = runOps C t_r10Line_1 (σ.kills []) K := rfl
theorem e_r10Line_2 (C : FuncId → List AV → AV → Prop) (σ : St) (K : St → Prop) : runReg C r_r10Line_2 σ K = runOps C t_r10Line_2 (σ.kills [12]) K := rfl
theorem e_r10Line_3 (C : FuncId → List AV → AV → Prop) (σ : St) (K : St → Prop) : runReg C r_r10Line_3 σ K = runOps C t_r10Line_3 (σ.kills []) K := rfl
theorem e_r10Line_4 (C : FuncId → List AV → AV → Prop) (σ : St) (K : St → Prop) : runReg C r_r10Line_4 σ K = runOps C t_r10Line_4 (σ.kills []) K := rfl
theorem e_r10Line_5 (C : FuncId → List AV → AV → Prop) (σ : St) (K : St → Prop) : runReg C r_r10Line_5 σ K = runOps C [⟨(.mv (.c (.str ⟨#[110, 111, 110, 101]⟩))), (some 4), none, [], []⟩] (σ.kills []) K := rfl
theorem e_r10Line_6 (C : FuncId → List AV → AV → Prop) (σ : St) (K : St → Prop) : runReg C r_r10Line_6 σ K = runOps C t_r10Line_6 (σ.kills [22]) K := rfl
theorem e_r10Line_7 (C : FuncId → List AV → AV → Prop) (σ : St) (K : St → Prop) : runReg C r_r10Line_7 σ K = runOps C t_r10Line_7 (σ.kills []) K := rfl
theorem e_r10Line_8 (C : FuncId → List AV → AV → Prop) (σ : St) (K : St → Prop) : runReg C r_r10Line_8 σ K = runOps C [⟨(.mv (.c (.str ⟨#[111, 107]⟩))), (some 4), none, [], []⟩] (σ.kills []) K := rfl
theorem e_r10Line_9 (C : FuncId → List AV → AV → Prop) (σ : St) (K : St → Prop) : runReg C r_r10Line_9 σ K = runOps C t_r10Line_9 (σ.kills [30]) K := rfl
theorem e_r10Line_10 (C : FuncId → List AV → AV → Prop) (σ : St) (K : St → Prop) : runReg C r_r10Line_10 σ K = runOps C [⟨(.mv (.c (.int .i64 0))), (some 6), none, [], []⟩] (σ.kills []) K := rfl
theorem e_r10Line_11 (C : FuncId → List AV → AV → Prop) (σ : St) (K : St → Prop) : runReg C r_r10Line_11 σ K = runOps C t_r10Line_11 (σ.kills []) K := rfl
theorem e_r10Line_12 (C : FuncId → List AV → AV → Prop) (σ : St) (K : St → Prop) : runReg C r_r10Line_12 σ K = runHead C [] [⟨(.bin .add (.t 39) (.t 56)), (some 57), none, [], []⟩, ⟨(.mv (.t 57)), (some 5), none, [], []⟩] h_r10Line_12 (σ.kills [46, 55]) K := rfl
theorem e_r10Line_13 (C : FuncId → List AV → AV → Prop) (σ : St) (K : St → Prop) : runReg C r_r10Line_13 σ K = runOps C t_r10Line_13 (σ.kills []) K := rfl
theorem e_r10Line_15 (C : FuncId → List AV → AV → Prop) (σ : St) (K : St → Prop) : runReg C r_r10Line_15 σ K = runOps C [⟨(.mv (.t 5)), (some 58), none, [], []⟩, ⟨(.mv (.t 58)), (some 4), none, [], []⟩] (σ.kills []) K := rfl
theorem fn_r10Line {args : List AV} {r : AV} (ha : args.length.ble Tryd.f62.ntmps = true) (h : run (AFn Tryd.prog) ir_r10Line (endQ res_r10Line r) (initSt args)) : AFn Tryd.prog 62 args r :=
  AFn.of_code (pv := false) (hint := fun _ => []) (c := Tryd.f62.body.getD .skip) (by kernel_rfl) (by kernel_rfl) Tryd.func62 (by kernel_rfl) (by kernel_rfl) (by kernel_rfl) (of_decide_eq_true (by kernel_rfl)) (Nat.le_of_ble_eq_true ha) (Nat.le_of_ble_eq_true (by kernel_rfl)) (run_ok h)
attribute [local go_sem ↓] ir_aLine
attribute [local go_sem] res_aLine e_aLine_0 t_aLine_0 e_aLine_1 t_aLine_1 e_aLine_2 t_aLine_2 e_aLine_3 t_aLine_3 e_aLine_4 t_aLine_4 e_aLine_5 t_aLine_5 e_aLine_6 e_aLine_7 t_aLine_7 e_aLine_8 t_aLine_8 e_aLine_9 t_aLine_9 e_aLine_10 e_aLine_11 t_aLine_11 e_aLine_12 h_aLine_12 e_aLine_13 e_aLine_15 e_aLine_16
attribute [local go_sem ↓] ir_r10Line
attribute [local go_sem] res_r10Line e_r10Line_0 t_r10Line_0 e_r10Line_1 t_r10Line_1 e_r10Line_2 t_r10Line_2 e_r10Line_3 t_r10Line_3 e_r10Line_4 t_r10Line_4 e_r10Line_5 e_r10Line_6 t_r10Line_6 e_r10Line_7 t_r10Line_7 e_r10Line_8 e_r10Line_9 t_r10Line_9 e_r10Line_10 e_r10Line_11 t_r10Line_11 e_r10Line_12 h_r10Line_12 e_r10Line_13 t_r10Line_13 e_r10Line_15
def alInv (l : List Par) (k : Nat) (σ : St) : Prop :=
  ∃ j : Nat, j ≤ l.length ∧ k = l.length - j ∧ σ.T 42 = .sl (l.map Par.a) ∧ σ.T 43 = .int .i64 l.length ∧ σ.T 44 = .int .i64 j ∧ σ.T 5 = .str (outP l j)
theorem ansL_err (o : Opr) (a : Ans) (h : a.err ≠ 0) : ansL o a = (⟨#[101, 114, 114, 111, 114, 32]⟩ : ByteArray) ++ decS a.err := by
  have e : errB ++ (⟨#[32]⟩ : ByteArray) = ⟨#[101, 114, 114, 111, 114, 32]⟩ := by decide +kernel
  unfold ansL ansW
  rw [if_neg h, joinB2, e]
theorem ansL_has (o : Opr) (a : Ans) (h : a.err = 0) (h5 : o.kind = 5) (hh : a.has = true) : ansL o a = (⟨#[104, 97, 115, 32]⟩ : ByteArray) ++ quoteF a.val := by
  have e : hasB ++ (⟨#[32]⟩ : ByteArray) = ⟨#[104, 97, 115, 32]⟩ := by decide +kernel
  unfold ansL ansW
  rw [if_pos h, if_pos h5, hh, if_pos rfl, joinB2, e]
theorem ansL_none (o : Opr) (a : Ans) (h : a.err = 0) (h5 : o.kind = 5) (hh : a.has = false) : ansL o a = ⟨#[110, 111, 110, 101]⟩ := by
  unfold ansL ansW
  rw [if_pos h, if_pos h5, hh, if_neg (by simp), joinB_cat]
  exact ba_nil _
theorem ansL_prs (o : Opr) (a : Ans) (h : a.err = 0) (h6 : o.kind = 6) : ansL o a = outP a.prs a.prs.length := by
  unfold ansL ansW
  rw [if_pos h, if_neg (by omega), if_pos h6, outP_line]
theorem ansL_ok (o : Opr) (a : Ans) (h : a.err = 0) (h5 : o.kind ≠ 5) (h6 : o.kind ≠ 6) : ansL o a = ⟨#[111, 107]⟩ := by
  unfold ansL ansW
  rw [if_pos h, if_neg h5, if_neg h6, joinB_cat]
  exact ba_nil _
set_option maxHeartbeats 1000000 in
theorem aLine_ok (o : Opr) (a : Ans) (he : inI a.err) (hv : a.val.size ≤ 1000000) (hp : sumN Par.bulk a.prs ≤ 1000000) : AFn Tryd.prog 51 [o.a, a.a] (.str (ansL o a)) := by
  refine fn_aLine rfl ?_
  have hn := sumN_len (f := Par.bulk) (fun x => by unfold Par.bulk; omega) a.prs
  have q0 := quoteF_size a.val
  have d0 := decS_small a.err he.1 he.2
  have d1 := decS_small a.prs.length (by omega) (by omega)
  have c1 := dec_ok a.err he
  have c2 := quote_ok a.val hv
  have c3 := dec_ok a.prs.length ⟨by omega, by omega⟩
  have k1 := ansL_err o a
  have k2 := ansL_has o a
  have k3 := ansL_none o a
  have k4 := ansL_prs o a
  have k5 := ansL_ok o a
  generalize ansL o a = R at *
  obtain ⟨kind, key, hi, op, val, lim⟩ := o
  obtain ⟨err, has, v, prs⟩ := a
  simp only at he hv hp hn q0 d0 d1 c1 c2 c3 k1 k2 k3 k4 k5
  by_cases e0 : err = 0
  case neg =>
    have b0 : (err != 0) = true := by simp [e0]
    rw [k1 e0]
    (repeat (first | simp (maxSteps := 4000000) only [go_sem, ↓reduceIte, reduceCtorEq, Nat.reduceEqDiff, Nat.reduceBEq, Nat.reduceAdd, Nat.reduceSub, Nat.reduceMul, Nat.reduceLT, Nat.reduceLeDiff, Nat.reduceBNe, Int.reduceBEq, Int.reduceBNe, Int.reduceLT, Int.reduceLE, Par.a, Opr.a, Ans.a, Evt.a, nul, b0, ByteArray.size_append, List.size_toArray, List.length_cons, List.length_nil] | refine calling (c1) ?_ | refine callingH (c1) ?_ | refine And.intro (by omega) ?_ | refine And.intro (fun d hd => by (repeat (rcases hd with rfl | hd; · exact ⟨rfl, rfl⟩)); cases hd) ?_))
    all_goals omega
  have b0 : (err != 0) = false := by simp [e0]
  by_cases e5 : kind = 5
  · have b5 : (kind == 5) = true := by simp [e5]
    cases has with
    | true =>
      rw [k2 e0 e5 rfl]
      (repeat (first | simp (maxSteps := 4000000) only [go_sem, ↓reduceIte, reduceCtorEq, Nat.reduceEqDiff, Nat.reduceBEq, Nat.reduceAdd, Nat.reduceSub, Nat.reduceMul, Nat.reduceLT, Nat.reduceLeDiff, Nat.reduceBNe, Int.reduceBEq, Int.reduceBNe, Int.reduceLT, Int.reduceLE, Par.a, Opr.a, Ans.a, Evt.a, nul, b0, b5, ByteArray.size_append, List.size_toArray, List.length_cons, List.length_nil] | refine calling (c2) ?_ | refine callingH (c2) ?_ | refine And.intro (by omega) ?_ | refine And.intro (fun d hd => by (repeat (rcases hd with rfl | hd; · exact ⟨rfl, rfl⟩)); cases hd) ?_))
      all_goals omega
    | false =>
      rw [k3 e0 e5 rfl]
      simp (maxSteps := 4000000) only [go_sem, ↓reduceIte, reduceCtorEq, Nat.reduceEqDiff, Nat.reduceBEq, Nat.reduceAdd, Nat.reduceSub, Nat.reduceMul, Nat.reduceLT, Nat.reduceLeDiff, Nat.reduceBNe, Int.reduceBEq, Int.reduceBNe, Int.reduceLT, Int.reduceLE, Par.a, Opr.a, Ans.a, Evt.a, nul, b0, b5]
  have b5 : (kind == 5) = false := by simp [e5]
  by_cases e6 : kind = 6
  case neg =>
    have b6 : (kind == 6) = false := by simp [e6]
    rw [k5 e0 e5 e6]
    simp (maxSteps := 4000000) only [go_sem, ↓reduceIte, reduceCtorEq, Nat.reduceEqDiff, Nat.reduceBEq, Nat.reduceAdd, Nat.reduceSub, Nat.reduceMul, Nat.reduceLT, Nat.reduceLeDiff, Nat.reduceBNe, Int.reduceBEq, Int.reduceBNe, Int.reduceLT, Int.reduceLE, Par.a, Opr.a, Ans.a, Evt.a, nul, b0, b5, b6]
  have b6 : (kind == 6) = true := by simp [e6]
  rw [k4 e0 e6]
  (repeat (first | simp (maxSteps := 4000000) only [go_sem, ↓reduceIte, reduceCtorEq, Nat.reduceEqDiff, Nat.reduceBEq, Nat.reduceAdd, Nat.reduceSub, Nat.reduceMul, Nat.reduceLT, Nat.reduceLeDiff, Nat.reduceBNe, Int.reduceBEq, Int.reduceBNe, Int.reduceLT, Int.reduceLE, Par.a, Opr.a, Ans.a, Evt.a, nul, b0, b5, b6, ByteArray.size_append, List.size_toArray, List.length_cons, List.length_nil, List.length_map] | refine calling (c3) ?_ | refine callingH (c3) ?_ | refine And.intro (by omega) ?_ | refine And.intro (fun d hd => by (repeat (rcases hd with rfl | hd; · exact ⟨rfl, rfl⟩)); cases hd) ?_))
  refine run_loop (alInv prs) (k := prs.length) ⟨0, by omega, rfl, rfl, ?_, rfl, ?_⟩ ?_
  · simp (maxSteps := 4000000) only [go_sem, ↓reduceIte, reduceCtorEq, Nat.reduceEqDiff, Nat.reduceBEq, Nat.reduceAdd, Nat.reduceSub, Nat.reduceMul, Nat.reduceLT, Nat.reduceLeDiff, Nat.reduceBNe, Int.reduceBEq, Int.reduceBNe, Int.reduceLT, Int.reduceLE, Par.a, Opr.a, Ans.a, Evt.a, nul, List.length_map]
  · rw [outP_zero]; rfl
  rintro k σ ⟨j, hj, rfl, t42, t43, t44, t5⟩
  simp only [r_aLine_l14]
  by_cases hlt : j < prs.length
  · have hlt' : (j : Int) < (prs.length : Int) := by omega
    obtain ⟨x, hx⟩ := get_lt hlt
    have hgj := at_map (f := Par.a) hx
    simp only [Par.a] at hgj
    have hw := wrapS (j := j) (by omega)
    have hs := sumN_mem (f := Par.bulk) (List.mem_of_getElem? hx)
    have q1 := quoteF_size x.key
    have q2 := quoteF_size x.val
    have hb : x.bulk = 1 + x.key.size + x.val.size := rfl
    have hz := outP_size prs j (by omega)
    have d1 := quote_ok x.key (by omega)
    have d2 := quote_ok x.val (by omega)
    have hnx := outP_next hx
    (repeat (first | simp (maxSteps := 4000000) only [go_sem, ↓reduceIte, reduceCtorEq, Nat.reduceEqDiff, Nat.reduceBEq, Nat.reduceAdd, Nat.reduceSub, Nat.reduceMul, Nat.reduceLT, Nat.reduceLeDiff, Nat.reduceBNe, Int.reduceBEq, Int.reduceBNe, Int.reduceLT, Int.reduceLE, Par.a, Opr.a, Ans.a, Evt.a, nul, t42, t43, t44, t5, hlt', hgj, List.length_map, Int.toNat_natCast, hw, ByteArray.size_append, List.size_toArray, List.length_cons, List.length_nil] | refine calling (d1) ?_ | refine callingH (d1) ?_ | refine calling (d2) ?_ | refine callingH (d2) ?_ | refine And.intro (by omega) ?_ | refine And.intro (fun d hd => by (repeat (rcases hd with rfl | hd; · exact ⟨rfl, rfl⟩)); cases hd) ?_))
    refine ⟨prs.length - (j + 1), by omega, j + 1, by omega, rfl, ?_, ?_, ?_, ?_⟩
    · simp (maxSteps := 4000000) only [go_sem, ↓reduceIte, reduceCtorEq, Nat.reduceEqDiff, Nat.reduceBEq, Nat.reduceAdd, Nat.reduceSub, Nat.reduceMul, Nat.reduceLT, Nat.reduceLeDiff, Nat.reduceBNe, Int.reduceBEq, Int.reduceBNe, Int.reduceLT, Int.reduceLE, Par.a, Opr.a, Ans.a, Evt.a, nul, t42]
    · simp (maxSteps := 4000000) only [go_sem, ↓reduceIte, reduceCtorEq, Nat.reduceEqDiff, Nat.reduceBEq, Nat.reduceAdd, Nat.reduceSub, Nat.reduceMul, Nat.reduceLT, Nat.reduceLeDiff, Nat.reduceBNe, Int.reduceBEq, Int.reduceBNe, Int.reduceLT, Int.reduceLE, Par.a, Opr.a, Ans.a, Evt.a, nul, t43]
    · simp (maxSteps := 4000000) only [go_sem, ↓reduceIte, reduceCtorEq, Nat.reduceEqDiff, Nat.reduceBEq, Nat.reduceAdd, Nat.reduceSub, Nat.reduceMul, Nat.reduceLT, Nat.reduceLeDiff, Nat.reduceBNe, Int.reduceBEq, Int.reduceBNe, Int.reduceLT, Int.reduceLE, Par.a, Opr.a, Ans.a, Evt.a, nul, hw]
    · simp (maxSteps := 4000000) only [go_sem, ↓reduceIte, reduceCtorEq, Nat.reduceEqDiff, Nat.reduceBEq, Nat.reduceAdd, Nat.reduceSub, Nat.reduceMul, Nat.reduceLT, Nat.reduceLeDiff, Nat.reduceBNe, Int.reduceBEq, Int.reduceBNe, Int.reduceLT, Int.reduceLE, Par.a, Opr.a, Ans.a, Evt.a, nul, hnx]
  · have hlt' : ¬ (j : Int) < (prs.length : Int) := by omega
    obtain rfl : j = prs.length := by omega
    simp (maxSteps := 4000000) only [go_sem, ↓reduceIte, reduceCtorEq, Nat.reduceEqDiff, Nat.reduceBEq, Nat.reduceAdd, Nat.reduceSub, Nat.reduceMul, Nat.reduceLT, Nat.reduceLeDiff, Nat.reduceBNe, Int.reduceBEq, Int.reduceBNe, Int.reduceLT, Int.reduceLE, Par.a, Opr.a, Ans.a, Evt.a, nul, t42, t43, t44, t5, hlt']
def r10Inv (a : Ans) (l : List Par) (k : Nat) (σ : St) : Prop :=
  ∃ j : Nat, j ≤ l.length ∧ k = l.length - j ∧ σ.T 3 = .ptr 3 0 0 ∧ σ.H 3 = some ⟨4, 46, [a.a], 0⟩ ∧ σ.T 6 = .int .i64 j ∧ σ.T 5 = .str (outP l j)
set_option maxHeartbeats 1000000 in
theorem r10Line_ok (o : Opr) (a : Ans) (he : inI a.err) (hv : a.val.size ≤ 1000000) (hp : sumN Par.bulk a.prs ≤ 1000000) : AFn Tryd.prog 62 [o.a, a.a] (.str (ansL o a)) := by
  refine fn_r10Line rfl ?_
  have hn := sumN_len (f := Par.bulk) (fun x => by unfold Par.bulk; omega) a.prs
  have q0 := quoteF_size a.val
  have d0 := decS_small a.err he.1 he.2
  have d1 := decS_small a.prs.length (by omega) (by omega)
  have c1 := rDec_ok a.err he
  have c2 := rQuote_ok a.val hv
  have c3 := rDec_ok a.prs.length ⟨by omega, by omega⟩
  have k1 := ansL_err o a
  have k2 := ansL_has o a
  have k3 := ansL_none o a
  have k4 := ansL_prs o a
  have k5 := ansL_ok o a
  generalize ansL o a = R at *
  obtain ⟨kind, key, hi, op, val, lim⟩ := o
  obtain ⟨err, has, v, prs⟩ := a
  simp only at he hv hp hn q0 d0 d1 c1 c2 c3 k1 k2 k3 k4 k5
  by_cases e0 : err = 0
  case neg =>
    have b0 : (err != 0) = true := by simp [e0]
    rw [k1 e0]
    (repeat (first | simp (maxSteps := 4000000) only [go_sem, ↓reduceIte, reduceCtorEq, Nat.reduceEqDiff, Nat.reduceBEq, Nat.reduceAdd, Nat.reduceSub, Nat.reduceMul, Nat.reduceLT, Nat.reduceLeDiff, Nat.reduceBNe, Int.reduceBEq, Int.reduceBNe, Int.reduceLT, Int.reduceLE, Par.a, Opr.a, Ans.a, Evt.a, nul, b0, ByteArray.size_append, List.size_toArray, List.length_cons, List.length_nil] | refine calling (c1) ?_ | refine callingH (c1) ?_ | refine And.intro (by omega) ?_ | refine And.intro (fun d hd => by (repeat (rcases hd with rfl | hd; · exact ⟨rfl, rfl⟩)); cases hd) ?_))
    all_goals omega
  have b0 : (err != 0) = false := by simp [e0]
  by_cases e5 : kind = 5
  · have b5 : (kind == 5) = true := by simp [e5]
    cases has with
    | true =>
      rw [k2 e0 e5 rfl]
      (repeat (first | simp (maxSteps := 4000000) only [go_sem, ↓reduceIte, reduceCtorEq, Nat.reduceEqDiff, Nat.reduceBEq, Nat.reduceAdd, Nat.reduceSub, Nat.reduceMul, Nat.reduceLT, Nat.reduceLeDiff, Nat.reduceBNe, Int.reduceBEq, Int.reduceBNe, Int.reduceLT, Int.reduceLE, Par.a, Opr.a, Ans.a, Evt.a, nul, b0, b5, ByteArray.size_append, List.size_toArray, List.length_cons, List.length_nil] | refine calling (c2) ?_ | refine callingH (c2) ?_ | refine And.intro (by omega) ?_ | refine And.intro (fun d hd => by (repeat (rcases hd with rfl | hd; · exact ⟨rfl, rfl⟩)); cases hd) ?_))
      all_goals omega
    | false =>
      rw [k3 e0 e5 rfl]
      simp (maxSteps := 4000000) only [go_sem, ↓reduceIte, reduceCtorEq, Nat.reduceEqDiff, Nat.reduceBEq, Nat.reduceAdd, Nat.reduceSub, Nat.reduceMul, Nat.reduceLT, Nat.reduceLeDiff, Nat.reduceBNe, Int.reduceBEq, Int.reduceBNe, Int.reduceLT, Int.reduceLE, Par.a, Opr.a, Ans.a, Evt.a, nul, b0, b5]
  have b5 : (kind == 5) = false := by simp [e5]
  by_cases e6 : kind = 6
  case neg =>
    have b6 : (kind != 6) = true := by simp [e6]
    rw [k5 e0 e5 e6]
    simp (maxSteps := 4000000) only [go_sem, ↓reduceIte, reduceCtorEq, Nat.reduceEqDiff, Nat.reduceBEq, Nat.reduceAdd, Nat.reduceSub, Nat.reduceMul, Nat.reduceLT, Nat.reduceLeDiff, Nat.reduceBNe, Int.reduceBEq, Int.reduceBNe, Int.reduceLT, Int.reduceLE, Par.a, Opr.a, Ans.a, Evt.a, nul, b0, b5, b6]
  have b6 : (kind != 6) = false := by simp [e6]
  rw [k4 e0 e6]
  (repeat (first | simp (maxSteps := 4000000) only [go_sem, ↓reduceIte, reduceCtorEq, Nat.reduceEqDiff, Nat.reduceBEq, Nat.reduceAdd, Nat.reduceSub, Nat.reduceMul, Nat.reduceLT, Nat.reduceLeDiff, Nat.reduceBNe, Int.reduceBEq, Int.reduceBNe, Int.reduceLT, Int.reduceLE, Par.a, Opr.a, Ans.a, Evt.a, nul, b0, b5, b6, ByteArray.size_append, List.size_toArray, List.length_cons, List.length_nil, List.length_map] | refine calling (c3) ?_ | refine callingH (c3) ?_ | refine And.intro (by omega) ?_ | refine And.intro (fun d hd => by (repeat (rcases hd with rfl | hd; · exact ⟨rfl, rfl⟩)); cases hd) ?_))
  refine run_loop (r10Inv ⟨err, has, v, prs⟩ prs) (k := prs.length) ⟨0, by omega, rfl, ?_, ?_, rfl, ?_⟩ ?_
  · simp (maxSteps := 4000000) only [go_sem, ↓reduceIte, reduceCtorEq, Nat.reduceEqDiff, Nat.reduceBEq, Nat.reduceAdd, Nat.reduceSub, Nat.reduceMul, Nat.reduceLT, Nat.reduceLeDiff, Nat.reduceBNe, Int.reduceBEq, Int.reduceBNe, Int.reduceLT, Int.reduceLE, Par.a, Opr.a, Ans.a, Evt.a, nul]
  · simp (maxSteps := 4000000) only [go_sem, ↓reduceIte, reduceCtorEq, Nat.reduceEqDiff, Nat.reduceBEq, Nat.reduceAdd, Nat.reduceSub, Nat.reduceMul, Nat.reduceLT, Nat.reduceLeDiff, Nat.reduceBNe, Int.reduceBEq, Int.reduceBNe, Int.reduceLT, Int.reduceLE, Par.a, Opr.a, Ans.a, Evt.a, nul]
  · rw [outP_zero]; rfl
  rintro k σ ⟨j, hj, rfl, t3, h3, t6, t5⟩
  simp only [r_r10Line_l14]
  by_cases hlt : j < prs.length
  · have hlt' : (j : Int) < (prs.length : Int) := by omega
    obtain ⟨x, hx⟩ := get_lt hlt
    have hgj := at_map (f := Par.a) hx
    simp only [Par.a] at hgj
    have hw := wrapS (j := j) (by omega)
    have hs := sumN_mem (f := Par.bulk) (List.mem_of_getElem? hx)
    have q1 := quoteF_size x.key
    have q2 := quoteF_size x.val
    have hb : x.bulk = 1 + x.key.size + x.val.size := rfl
    have hz := outP_size prs j (by omega)
    have d1 := rQuote_ok x.key (by omega)
    have d2 := rQuote_ok x.val (by omega)
    have hnx := outP_next hx
    (repeat (first | simp (maxSteps := 4000000) only [go_sem, ↓reduceIte, reduceCtorEq, Nat.reduceEqDiff, Nat.reduceBEq, Nat.reduceAdd, Nat.reduceSub, Nat.reduceMul, Nat.reduceLT, Nat.reduceLeDiff, Nat.reduceBNe, Int.reduceBEq, Int.reduceBNe, Int.reduceLT, Int.reduceLE, Par.a, Opr.a, Ans.a, Evt.a, nul, t3, h3, t6, t5, hlt', hgj, List.length_map, Int.toNat_natCast, hw, ByteArray.size_append, List.size_toArray, List.length_cons, List.length_nil] | refine calling (d1) ?_ | refine callingH (d1) ?_ | refine calling (d2) ?_ | refine callingH (d2) ?_ | refine And.intro (by omega) ?_ | refine And.intro (fun d hd => by (repeat (rcases hd with rfl | hd; · exact ⟨rfl, rfl⟩)); cases hd) ?_))
    refine ⟨prs.length - (j + 1), by omega, j + 1, by omega, rfl, ?_, ?_, ?_, ?_⟩
    · simp (maxSteps := 4000000) only [go_sem, ↓reduceIte, reduceCtorEq, Nat.reduceEqDiff, Nat.reduceBEq, Nat.reduceAdd, Nat.reduceSub, Nat.reduceMul, Nat.reduceLT, Nat.reduceLeDiff, Nat.reduceBNe, Int.reduceBEq, Int.reduceBNe, Int.reduceLT, Int.reduceLE, Par.a, Opr.a, Ans.a, Evt.a, nul, t3]
    · simp (maxSteps := 4000000) only [go_sem, ↓reduceIte, reduceCtorEq, Nat.reduceEqDiff, Nat.reduceBEq, Nat.reduceAdd, Nat.reduceSub, Nat.reduceMul, Nat.reduceLT, Nat.reduceLeDiff, Nat.reduceBNe, Int.reduceBEq, Int.reduceBNe, Int.reduceLT, Int.reduceLE, Par.a, Opr.a, Ans.a, Evt.a, nul, h3]
    · simp (maxSteps := 4000000) only [go_sem, ↓reduceIte, reduceCtorEq, Nat.reduceEqDiff, Nat.reduceBEq, Nat.reduceAdd, Nat.reduceSub, Nat.reduceMul, Nat.reduceLT, Nat.reduceLeDiff, Nat.reduceBNe, Int.reduceBEq, Int.reduceBNe, Int.reduceLT, Int.reduceLE, Par.a, Opr.a, Ans.a, Evt.a, nul, hw]
    · simp (maxSteps := 4000000) only [go_sem, ↓reduceIte, reduceCtorEq, Nat.reduceEqDiff, Nat.reduceBEq, Nat.reduceAdd, Nat.reduceSub, Nat.reduceMul, Nat.reduceLT, Nat.reduceLeDiff, Nat.reduceBNe, Int.reduceBEq, Int.reduceBNe, Int.reduceLT, Int.reduceLE, Par.a, Opr.a, Ans.a, Evt.a, nul, hnx]
  · have hlt' : ¬ (j : Int) < (prs.length : Int) := by omega
    obtain rfl : j = prs.length := by omega
    simp (maxSteps := 4000000) only [go_sem, ↓reduceIte, reduceCtorEq, Nat.reduceEqDiff, Nat.reduceBEq, Nat.reduceAdd, Nat.reduceSub, Nat.reduceMul, Nat.reduceLT, Nat.reduceLeDiff, Nat.reduceBNe, Int.reduceBEq, Int.reduceBNe, Int.reduceLT, Int.reduceLE, Par.a, Opr.a, Ans.a, Evt.a, nul, t3, h3, t6, t5, hlt', List.length_map]
end
end Go.Proofs.YthfdbjocpicbmaaDoor
