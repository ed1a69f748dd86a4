/-
  Part 12 of a proof: RpA.
-/
import Derived.Test.YthfdbjocpicbmaaLO11
namespace Go.Proofs.Ythfdbjocpicbmaa
attribute [local go_sem] ev0 ev1 ev2 ev3 ev4 evA stHOk.eq_1 stHOk.eq_2 stHSt.eq_1 stHSt.eq_2 okV valV fzV okF valF okBld valBld mxOk.eq_1 mxOk.eq_2 mxVal.eq_1 mxVal.eq_2 cellFit.eq_1 cellFit.eq_2 cellFit.eq_3 cellEq.eq_1 cellEq.eq_2 cellEq.eq_3 upd_at AV.flatB AV.flatBs binIok binIV binSok binSV cellsOk.eq_1 cellsOk.eq_2 cellsVal.eq_1 cellsVal.eq_2 objCells.eq_1 objCells.eq_2 objZ.eq_1 objZ.eq_2 objProt.eq_1 objProt.eq_2 oneObj ptrOk.eq_1 ptrOk.eq_2 ptrOk.eq_3 ptrCells.eq_1 ptrCells.eq_2 ptrCells.eq_3 lenOk.eq_1 lenOk.eq_2 lenOk.eq_3 lenOk.eq_4 lenVal.eq_1 lenVal.eq_2 lenVal.eq_3 lenVal.eq_4 faOk.eq_1 faOk.eq_2 faOk.eq_3 faVal.eq_1 faVal.eq_2 faVal.eq_3 iaOk.eq_1 iaOk.eq_2 iaOk.eq_3 iaVal.eq_1 iaVal.eq_2 iaVal.eq_3 slcLen.eq_1 slcLen.eq_2 slcLen.eq_3 slcLen.eq_4 bdOk.eq_1 bdOk.eq_2 bdVal.eq_1 bdVal.eq_2 slcOk.eq_1 slcOk.eq_2 slcOk.eq_3 slcOk.eq_4 slcVal.eq_1 slcVal.eq_2 slcVal.eq_3 slcVal.eq_4 slcFz.eq_1 slcFz.eq_2 loK.eq_1 loK.eq_2 loK.eq_3 rsVal.eq_1 rsVal.eq_2 rsVal.eq_3 byOk.eq_1 byOk.eq_2 byOk.eq_3 byOk.eq_4 byOk.eq_5 byOk.eq_6 byOk.eq_7 byOk.eq_8 byVal.eq_1 byVal.eq_2 byVal.eq_3 byFz.eq_1 byFz.eq_2 byFz.eq_3 byOks byVals byFzs allOne resSt.eq_1 resSt.eq_2 resName.eq_1 resName.eq_2 stOk.eq_1 stOk.eq_2 stArr.eq_1 stArr.eq_2 stSt.eq_1 stSt.eq_2 AV.patch nameOk_none gB.eq_1 gB.eq_2 gB.eq_3 gIs.eq_1 gIs.eq_2 gIs.eq_3 retV resV resVs evalV cellsV St.byval List.getD_cons_zero List.getD_cons_succ List.getD_nil List.map_cons List.map_nil List.length_cons List.length_nil List.take_succ_cons List.take_zero List.drop_succ_cons List.drop_zero List.headD_cons List.set_cons_zero List.append_nil List.nil_append List.cons_append List.contains_cons List.contains_nil List.elem_cons List.elem_nil List.all_cons List.all_nil List.getElem?_cons_zero List.getElem?_cons_succ List.filterMap_cons List.filterMap_nil Option.isSome_some Option.isSome_none Option.map_some Option.map_none Option.some.injEq AV.int.injEq AV.bool.injEq AV.str.injEq AV.tup.injEq AV.agg.injEq AV.sl.injEq List.cons.injEq Bool.false_eq_true Bool.true_eq_false Bool.not_true Bool.not_false Bool.and_true Bool.true_and Bool.or_false Bool.or_true Bool.false_or Bool.true_or Bool.or_self Bool.and_self Bool.not_eq_true' Bool.not_eq_false' Bool.not_not beq_self_eq_true true_and and_true false_and and_false and_self not_true_eq_false not_false_eq_true forall_const true_implies false_implies implies_true imp_self Nat.lt_add_one Nat.le_refl Nat.zero_le Nat.add_zero Nat.zero_add decide_true decide_false decide_eq_true_eq decide_eq_false_iff_not exists_eq_left exists_eq_left' ge_iff_le gt_iff_lt ite_branch ite_branch' nilOk.eq_1 nilOk.eq_2 nilMay.eq_1 nilMay.eq_2 AV.isSl.eq_1 objTy'.eq_1 objTy'.eq_2 apSt.eq_1 apArr.eq_1 apArr.eq_2 apTwo.eq_1 apTwo.eq_2 apSt2.eq_1 apArr2.eq_1 apArr2.eq_2 slOf.eq_1 fitsV List.mem_cons List.not_mem_nil Bool.false_and Bool.and_false primOk.eq_1 primOk.eq_2 primOk.eq_3 primOk.eq_4 primOk.eq_5 primVal.eq_1 primVal.eq_2 primVal.eq_3 primVal.eq_4 primVal.eq_5 mOk.eq_1 mOk.eq_2 mVal.eq_1 mVal.eq_2 mFz.eq_1 mFz.eq_2 mOks mVals mFzs mCalOk.eq_1 mCalOk.eq_2 mFn.eq_1 mFn.eq_2 mArgs.eq_1 mArgs.eq_2 ckOk.eq_1 ckOk.eq_2 cloOk.eq_1 ptrAt.eq_1 sh.eq_1 sh.eq_2 sh.eq_3 sh.eq_4 sh.eq_5 sh.eq_6 retM shH_small evM entOk.eq_1 entOk.eq_2 ents.eq_1 ents.eq_2 kI.eq_1 mpOk.eq_1 mpR.eq_1 lkV.eq_1 lkV.eq_2 remp.eq_2 evP pvOk.eq_1 pvOk.eq_2 pvVal.eq_1 pvVal.eq_2 plOk.eq_1 plOk.eq_2 plOk.eq_3 plV.eq_1 plV.eq_2 plF.eq_1 plF.eq_2 plVal.eq_1 plVal.eq_2 plFz.eq_1 plFz.eq_2 lpOk.eq_1 lpOk.eq_2 lpVal.eq_1 lpVal.eq_2 lpFz.eq_1 lpFz.eq_2 stpOk.eq_1 stpOk.eq_2 stpSt.eq_1 stpSt.eq_2 stpArr.eq_1
section
/-
  Pairs that rise and are short: the document's look at them, walked.
-/
open Go.RowKit
set_option linter.unusedVariables false
set_option linter.unusedSimpArgs false
set_option maxRecDepth 100000
attribute [local go_sem ↓] runOp headOp
/-- do pairs rise, and are they short? -/
def rightP : List Par → Bool
  | [] => true
  | [p] => decide (p.key.size ≤ 16) && decide (p.val.size ≤ 16)
  | p :: q :: l => decide (p.key.size ≤ 16) && decide (p.val.size ≤ 16) && Op.bytesLess p.key.toList q.key.toList && rightP (q :: l)
def shortP (p : Par) : Bool := decide (p.key.size ≤ 16) && decide (p.val.size ≤ 16)
/-- pairs behind one that was -/
def rightG : Option Par → List Par → Bool
  | _, [] => true
  | none, p :: l => shortP p && rightG (some p) l
  | some q, p :: l => shortP p && Op.bytesLess q.key.toList p.key.toList && rightG (some p) l
theorem rightG_cons : ∀ (p : Par) (l : List Par), (shortP p && rightG (some p) l) = rightP (p :: l)
  | p, [] => by simp [rightG, rightP, shortP]
  | p, q :: l => by
    have h := rightG_cons q l
    show (shortP p && (shortP q && Op.bytesLess p.key.toList q.key.toList && rightG (some q) l)) = (decide (p.key.size ≤ 16) && decide (p.val.size ≤ 16) && Op.bytesLess p.key.toList q.key.toList && rightP (q :: l))
    rw [← h]
    show _ = (shortP p && Op.bytesLess p.key.toList q.key.toList && (shortP q && rightG (some q) l))
    cases shortP p <;> cases shortP q <;> cases Op.bytesLess p.key.toList q.key.toList <;> simp
theorem rightG_none (l : List Par) : rightG none l = rightP l := by
  cases l with
  | nil => rfl
  | cons p l => exact rightG_cons p l
def prevP (l : List Par) (j : Nat) : Option Par := if j = 0 then none else l[j - 1]?
theorem prevP_next {l : List Par} {j : Nat} {x : Par} (h : l[j]? = some x) : prevP l (j + 1) = some x := by
  unfold prevP
  rw [if_neg (by omega), Nat.add_sub_cancel, h]
/-- one step of it -/
theorem rightG_at {l : List Par} {j : Nat} {x : Par} (h : l[j]? = some x) :
    (j = 0 → rightG (prevP l j) (l.drop j) = (shortP x && rightG (prevP l (j + 1)) (l.drop (j + 1)))) ∧
    (∀ y, l[j - 1]? = some y → j ≠ 0 → rightG (prevP l j) (l.drop j) = (shortP x && Op.bytesLess y.key.toList x.key.toList && rightG (prevP l (j + 1)) (l.drop (j + 1)))) := by
  rw [prevP_next h, drop_at h]
  constructor
  · rintro rfl; rfl
  · intro y hy hj
    unfold prevP
    rw [if_neg hj, hy]; rfl
theorem rightG_end (l : List Par) (o : Option Par) : rightG o (l.drop l.length) = true := by
  rw [List.drop_eq_nil_of_le (Nat.le_refl _)]
  cases o <;> rfl
/-! ### percolate/percolateref09.Right -/
def r_rRight9_0 : Reg := ⟨[], [⟨(.mv (.c (.bool false))), (some 2), none, [], []⟩], [], [], false⟩
def r_rRight9_1 : Reg := ⟨[], [⟨(.mv (.c (.int .i64 0))), (some 3), none, [], []⟩], [], [], false⟩
def t_rRight9_2 : List ROp := [⟨(.mv (.t 3)), (some 4), none, [], []⟩, ⟨(.mv (.t 0)), (some 5), none, [], []⟩, ⟨(.len false (.t 5)), (some 6), none, [], []⟩, ⟨(.bin .lss (.t 4) (.t 6)), (some 7), none, [], []⟩]
def r_rRight9_2 : Reg := ⟨[], t_rRight9_2, [], [], false⟩
def t_rRight9_3 : List ROp := [⟨(.callv (.c (.clo 91 [] [])) [(.t 35), (.t 40)]), (some 41), (some (29, true)), [], []⟩, ⟨(.un .not (.t 41)), (some 42), (some (29, true)), [], []⟩, ⟨(.pick (.t 29) (.t 42) (.c (.bool false))), (some 43), (some (26, false)), [], []⟩, ⟨(.pick (.t 26) (.c (.bool true)) (.t 43)), (some 44), none, [], []⟩]
def h_rRight9_3 : List ROp := [⟨(.mv (.t 0)), (some 10), none, [41], []⟩, ⟨(.mv (.t 3)), (some 11), none, [41], []⟩, ⟨(.iaddr 2 (.t 10) (.t 11)), (some 12), none, [41], []⟩, ⟨(.faddr 0 (.t 12)), (some 13), none, [41], []⟩, ⟨(.load 1 false (.t 13)), (some 14), none, [41], []⟩, ⟨(.len true (.t 14)), (some 15), none, [41], []⟩, ⟨(.bin .gtr (.t 15) (.c (.int .i64 16))), (some 16), none, [41], []⟩, ⟨(.mv (.t 16)), (some 17), none, [41], []⟩, ⟨(.mv (.t 0)), (some 18), (some (17, false)), [41], []⟩, ⟨(.mv (.t 3)), (some 19), (some (17, false)), [41], []⟩, ⟨(.iaddr 2 (.t 18) (.t 19)), (some 20), (some (17, false)), [41], []⟩, ⟨(.faddr 1 (.t 20)), (some 21), (some (17, false)), [41], []⟩, ⟨(.load 1 false (.t 21)), (some 22), (some (17, false)), [41], []⟩, ⟨(.len true (.t 22)), (some 23), (some (17, false)), [41], []⟩, ⟨(.bin .gtr (.t 23) (.c (.int .i64 16))), (some 24), (some (17, false)), [41], []⟩, ⟨(.pick (.t 17) (.c (.bool true)) (.t 24)), (some 25), none, [41], []⟩, ⟨(.mv (.t 25)), (some 26), none, [41], []⟩, ⟨(.mv (.t 3)), (some 27), (some (26, false)), [41], []⟩, ⟨(.bin .gtr (.t 27) (.c (.int .i64 0))), (some 28), (some (26, false)), [41], []⟩, ⟨(.mv (.t 28)), (some 29), (some (26, false)), [41], []⟩, ⟨(.mv (.t 0)), (some 30), (some (29, true)), [41], []⟩, ⟨(.mv (.t 3)), (some 31), (some (29, true)), [41], []⟩, ⟨(.bin .sub (.t 31) (.c (.int .i64 1))), (some 32), (some (29, true)), [41], []⟩, ⟨(.iaddr 2 (.t 30) (.t 32)), (some 33), (some (29, true)), [41], []⟩, ⟨(.faddr 0 (.t 33)), (some 34), (some (29, true)), [41], []⟩, ⟨(.load 1 false (.t 34)), (some 35), (some (29, true)), [41], []⟩, ⟨(.mv (.t 0)), (some 36), (some (29, true)), [41], []⟩, ⟨(.mv (.t 3)), (some 37), (some (29, true)), [41], []⟩, ⟨(.iaddr 2 (.t 36) (.t 37)), (some 38), (some (29, true)), [41], []⟩, ⟨(.faddr 0 (.t 38)), (some 39), (some (29, true)), [41], []⟩, ⟨(.load 1 false (.t 39)), (some 40), (some (29, true)), [41], []⟩]
def r_rRight9_3 : Reg := ⟨h_rRight9_3, t_rRight9_3, [41], [], true⟩
def r_rRight9_4 : Reg := ⟨[], [⟨(.mv (.c (.bool false))), (some 2), none, [], []⟩], [], [], false⟩
def t_rRight9_5 : List ROp := [⟨(.mv (.t 3)), (some 8), none, [], []⟩, ⟨(.bin .add (.t 8) (.c (.int .i64 1))), (some 9), none, [], []⟩, ⟨(.mv (.t 9)), (some 3), none, [], []⟩]
def r_rRight9_5 : Reg := ⟨[], t_rRight9_5, [], [], false⟩
def r_rRight9_l6 : IR := (.seq (.seq (.reg r_rRight9_2)
  (.cond (.t 7) .skip
  (.exit 0)))
  (.seq (.block 1 (.seq (.reg r_rRight9_3)
  (.cond (.t 44) (.seq (.reg r_rRight9_4)
  .ret)
  .skip)))
  (.reg r_rRight9_5)))
def r_rRight9_7 : Reg := ⟨[], [⟨(.mv (.c (.bool true))), (some 2), none, [], []⟩], [], [], false⟩
def ir_rRight9 : IR := (.seq (.reg r_rRight9_0)
  (.seq (.seq (.reg r_rRight9_1)
  (.block 0 (.loop r_rRight9_l6)))
  (.seq (.reg r_rRight9_7)
  .ret)))
def res_rRight9 : List RDesc := [(.tmp 2)]
theorem e_rRight9_0 (C : FuncId → List AV → AV → Prop) (σ : St) (K : St → Prop) : runReg C r_rRight9_0 σ K = runOps C [⟨(.mv (.c (.bool false))), (some 2), none, [], []⟩] (σ.kills []) K := rfl
theorem e_rRight9_1 (C : FuncId → List AV → AV → Prop) (σ : St) (K : St → Prop) : runReg C r_rRight9_1 σ K = runOps C [⟨(.mv (.c (.int .i64 0))), (some 3), none, [], []⟩] (σ.kills []) K := rfl
theorem e_rRight9_2 (C : FuncId → List AV → AV → Prop) (σ : St) (K : St → Prop) : runReg C r_rRight9_2 σ K = runOps C t_rRight9_2 (σ.kills []) K := rfl
theorem e_rRight9_3 (C : FuncId → List AV → AV → Prop) (σ : St) (K : St → Prop) : runReg C r_rRight9_3 σ K = runHead C [] t_rRight9_3 h_rRight9_3 (σ.kills [41]) K := rfl
theorem e_rRight9_4 (C : FuncId → List AV → AV → Prop) (σ : St) (K : St → Prop) : runReg C r_rRight9_4 σ K = runOps C [⟨(.mv (.c (.bool false))), (some 2), none, [], []⟩] (σ.kills []) K := rfl
theorem e_rRight9_5 (C : FuncId → List AV → AV → Prop) (σ : St) (K : St → Prop) : runReg C r_rRight9_5 σ K = runOps C t_rRight9_5 (σ.kills []) K := rfl
theorem e_rRight9_7 (C : FuncId → List AV → AV → Prop) (σ : St) (K : St → Prop) : runReg C r_rRight9_7 σ K = runOps C [⟨(.mv (.c (.bool true))), (some 2), none, [], []⟩] (σ.kills []) K := rfl
theorem fn_rRight9 {args : List AV} {r : AV} (ha : args.length.ble Try.f151.ntmps = true) (h : run (AFn Try.prog) ir_rRight9 (endQ res_rRight9 r) (initSt args)) : AFn Try.prog 151 args r :=
  AFn.of_code (pv := false) (hint := fun _ => []) (c := Try.f151.body.getD .skip) (by kernel_rfl) (by kernel_rfl) Try.func151 (by kernel_rfl) (by kernel_rfl) (by kernel_rfl) (of_decide_eq_true (by kernel_rfl)) (Nat.le_of_ble_eq_true ha) (Nat.le_of_ble_eq_true (by kernel_rfl)) (run_ok h)
attribute [local go_sem ↓] ir_rRight9
attribute [local go_sem] res_rRight9 e_rRight9_0 e_rRight9_1 e_rRight9_2 t_rRight9_2 e_rRight9_3 t_rRight9_3 h_rRight9_3 e_rRight9_4 e_rRight9_5 t_rRight9_5 e_rRight9_7
def r9Inv (l : List Par) (r : Bool) (k : Nat) (σ : St) : Prop :=
  ∃ j : Nat, j ≤ l.length ∧ k = l.length - j ∧ σ.T 0 = .sl (l.map Par.a) ∧ σ.T 3 = .int .i64 j ∧ r = rightG (prevP l j) (l.drop j)
set_option maxHeartbeats 1000000 in
theorem rRight9_ok (l : List Par) (hl : l.length ≤ 1000000000) (hs : ∀ p, p ∈ l → p.key.size ≤ 281474976710656) : AFn Try.prog 151 [.sl (l.map Par.a)] (.bool (rightP l)) := by
  refine fn_rRight9 rfl ?_
  simp (maxSteps := 4000000) only [go_sem, ↓reduceIte, reduceCtorEq, Nat.reduceEqDiff, Nat.reduceBEq, Nat.reduceAdd, Nat.reduceSub, Nat.reduceMul, Nat.reduceLT, Nat.reduceLeDiff, Nat.reduceBNe, Int.reduceBEq, Int.reduceBNe, Int.reduceLT, Int.reduceLE, Par.a]
  refine run_loop (r9Inv l (rightP l)) (k := l.length) ⟨0, by omega, rfl, rfl, rfl, ?_⟩ ?_
  · rw [← rightG_none]; rfl
  rintro k σ ⟨j, hj, rfl, t0, t3, hr⟩
  simp only [r_rRight9_l6]
  generalize hR : rightP l = R at *
  by_cases hlt : j < l.length
  · have hlt' : (j : Int) < (l.length : Int) := by omega
    obtain ⟨x, hx⟩ := get_lt hlt
    have hgj := at_map (f := Par.a) hx
    simp only [Par.a] at hgj
    have hw := wrapS (j := j) (by omega)
    obtain ⟨q1, q2⟩ := rightG_at hx
    by_cases hk : (16 : Int) < (x.key.size : Int)
    · have hS : shortP x = false := by unfold shortP; rw [decide_eq_false (by omega)]; rfl
      have hr' : R = false := by
        by_cases h0 : j = 0
        · rw [hr, q1 h0, hS]; rfl
        · obtain ⟨y, hy⟩ := get_lt (l := l) (j := j - 1) (by omega)
          rw [hr, q2 y hy h0, hS]; rfl
      subst hr'
      simp (maxSteps := 4000000) only [go_sem, ↓reduceIte, reduceCtorEq, Nat.reduceEqDiff, Nat.reduceBEq, Nat.reduceAdd, Nat.reduceSub, Nat.reduceMul, Nat.reduceLT, Nat.reduceLeDiff, Nat.reduceBNe, Int.reduceBEq, Int.reduceBNe, Int.reduceLT, Int.reduceLE, Par.a, t0, t3, hlt', hgj, hk, List.length_map, Int.toNat_natCast, hw]
      all_goals omega
    by_cases hv : (16 : Int) < (x.val.size : Int)
    · have hS : shortP x = false := by unfold shortP; rw [decide_eq_false (p := x.val.size ≤ 16) (by omega), Bool.and_false]
      have hr' : R = false := by
        by_cases h0 : j = 0
        · rw [hr, q1 h0, hS]; rfl
        · obtain ⟨y, hy⟩ := get_lt (l := l) (j := j - 1) (by omega)
          rw [hr, q2 y hy h0, hS]; rfl
      subst hr'
      simp (maxSteps := 4000000) only [go_sem, ↓reduceIte, reduceCtorEq, Nat.reduceEqDiff, Nat.reduceBEq, Nat.reduceAdd, Nat.reduceSub, Nat.reduceMul, Nat.reduceLT, Nat.reduceLeDiff, Nat.reduceBNe, Int.reduceBEq, Int.reduceBNe, Int.reduceLT, Int.reduceLE, Par.a, t0, t3, hlt', hgj, hk, hv, List.length_map, Int.toNat_natCast, hw]
      all_goals omega
    have hS : shortP x = true := by unfold shortP; rw [decide_eq_true (by omega), decide_eq_true (by omega)]; rfl
    rw [hS] at q1 q2
    by_cases h0 : j = 0
    · rw [q1 h0] at hr
      have hp : ¬ (0 : Int) < (j : Int) := by omega
      simp (maxSteps := 4000000) only [go_sem, ↓reduceIte, reduceCtorEq, Nat.reduceEqDiff, Nat.reduceBEq, Nat.reduceAdd, Nat.reduceSub, Nat.reduceMul, Nat.reduceLT, Nat.reduceLeDiff, Nat.reduceBNe, Int.reduceBEq, Int.reduceBNe, Int.reduceLT, Int.reduceLE, Par.a, t0, t3, hlt', hgj, hk, hv, hp, List.length_map, Int.toNat_natCast, hw]
      (repeat refine And.intro (by omega) ?_)
      refine ⟨l.length - (j + 1), by omega, j + 1, by omega, rfl, ?_, ?_, by rw [hr]; simp⟩
      · simp (maxSteps := 4000000) only [go_sem, ↓reduceIte, reduceCtorEq, Nat.reduceEqDiff, Nat.reduceBEq, Nat.reduceAdd, Nat.reduceSub, Nat.reduceMul, Nat.reduceLT, Nat.reduceLeDiff, Nat.reduceBNe, Int.reduceBEq, Int.reduceBNe, Int.reduceLT, Int.reduceLE, Par.a, t0]
      · simp (maxSteps := 4000000) only [go_sem, ↓reduceIte, reduceCtorEq, Nat.reduceEqDiff, Nat.reduceBEq, Nat.reduceAdd, Nat.reduceSub, Nat.reduceMul, Nat.reduceLT, Nat.reduceLeDiff, Nat.reduceBNe, Int.reduceBEq, Int.reduceBNe, Int.reduceLT, Int.reduceLE, Par.a, hw]
    · obtain ⟨y, hy⟩ := get_lt (l := l) (j := j - 1) (by omega)
      have hgy := at_map (f := Par.a) hy
      simp only [Par.a] at hgy
      have hp : (0 : Int) < (j : Int) := by omega
      have hm : IntKind.i64.wrap ((j : Int) - 1) = ((j - 1 : Nat) : Int) := by rw [IntWalk.i64_in _ (by omega)]; omega
      have hy' : ((j - 1 : Nat) : Int) < (l.length : Int) := by omega
      have cl := refLess y.key x.key (by have := hs y (List.mem_of_getElem? hy); omega) (by have := hs x (List.mem_of_getElem? hx); omega)
      have hB : Op.bytesLess y.key.toList x.key.toList = lt y.key x.key := rfl
      rw [q2 y hy h0, hB] at hr
      generalize lt y.key x.key = b at *
      cases b
      · (repeat (first | simp (maxSteps := 4000000) only [go_sem, ↓reduceIte, reduceCtorEq, Nat.reduceEqDiff, Nat.reduceBEq, Nat.reduceAdd, Nat.reduceSub, Nat.reduceMul, Nat.reduceLT, Nat.reduceLeDiff, Nat.reduceBNe, Int.reduceBEq, Int.reduceBNe, Int.reduceLT, Int.reduceLE, Par.a, t0, t3, hlt', hgj, hgy, hk, hv, hp, hm, hy', List.length_map, Int.toNat_natCast, hw] | refine calling (cl) ?_ | refine callingH (cl) ?_ | refine And.intro (by omega) ?_ | refine And.intro (fun d hd => by (repeat (rcases hd with rfl | hd; · exact ⟨rfl, rfl⟩)); cases hd) ?_))
        all_goals (repeat refine And.intro (by omega) ?_)
        all_goals rw [hr]; rfl
      · (repeat (first | simp (maxSteps := 4000000) only [go_sem, ↓reduceIte, reduceCtorEq, Nat.reduceEqDiff, Nat.reduceBEq, Nat.reduceAdd, Nat.reduceSub, Nat.reduceMul, Nat.reduceLT, Nat.reduceLeDiff, Nat.reduceBNe, Int.reduceBEq, Int.reduceBNe, Int.reduceLT, Int.reduceLE, Par.a, t0, t3, hlt', hgj, hgy, hk, hv, hp, hm, hy', List.length_map, Int.toNat_natCast, hw] | refine calling (cl) ?_ | refine callingH (cl) ?_ | refine And.intro (by omega) ?_ | refine And.intro (fun d hd => by (repeat (rcases hd with rfl | hd; · exact ⟨rfl, rfl⟩)); cases hd) ?_))
        refine ⟨l.length - (j + 1), by omega, j + 1, by omega, rfl, ?_, ?_, by rw [hr]; simp⟩
        · simp (maxSteps := 4000000) only [go_sem, ↓reduceIte, reduceCtorEq, Nat.reduceEqDiff, Nat.reduceBEq, Nat.reduceAdd, Nat.reduceSub, Nat.reduceMul, Nat.reduceLT, Nat.reduceLeDiff, Nat.reduceBNe, Int.reduceBEq, Int.reduceBNe, Int.reduceLT, Int.reduceLE, Par.a, t0]
        · simp (maxSteps := 4000000) only [go_sem, ↓reduceIte, reduceCtorEq, Nat.reduceEqDiff, Nat.reduceBEq, Nat.reduceAdd, Nat.reduceSub, Nat.reduceMul, Nat.reduceLT, Nat.reduceLeDiff, Nat.reduceBNe, Int.reduceBEq, Int.reduceBNe, Int.reduceLT, Int.reduceLE, Par.a, hw]
  · have hlt' : ¬ (j : Int) < (l.length : Int) := by omega
    obtain rfl : j = l.length := by omega
    simp (maxSteps := 4000000) only [go_sem, ↓reduceIte, reduceCtorEq, Nat.reduceEqDiff, Nat.reduceBEq, Nat.reduceAdd, Nat.reduceSub, Nat.reduceMul, Nat.reduceLT, Nat.reduceLeDiff, Nat.reduceBNe, Int.reduceBEq, Int.reduceBNe, Int.reduceLT, Int.reduceLE, Par.a, t0, t3, hlt', List.length_map]
    rw [hr, rightG_end]
end
end Go.Proofs.Ythfdbjocpicbmaa
