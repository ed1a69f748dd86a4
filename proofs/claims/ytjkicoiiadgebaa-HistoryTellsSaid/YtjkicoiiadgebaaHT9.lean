/-
  Part 9 of a proof: HsK, StA, StC, HsF, HsG, NdB, HsH.
-/
import Derived.Test.YtjkicoiiadgebaaHT8
namespace Go.Proofs.Ytjkicoiiadgebaa
attribute [local go_sem] ev0 ev1 ev2 ev3 ev4 evA stHOk.eq_1 stHOk.eq_2 stHSt.eq_1 stHSt.eq_2 okV valV fzV okF valF okBld valBld mxOk.eq_1 mxOk.eq_2 mxVal.eq_1 mxVal.eq_2 cellFit.eq_1 cellFit.eq_2 cellFit.eq_3 cellEq.eq_1 cellEq.eq_2 cellEq.eq_3 upd_at AV.flatB AV.flatBs binIok binIV binSok binSV cellsOk.eq_1 cellsOk.eq_2 cellsVal.eq_1 cellsVal.eq_2 objCells.eq_1 objCells.eq_2 objZ.eq_1 objZ.eq_2 objProt.eq_1 objProt.eq_2 oneObj ptrOk.eq_1 ptrOk.eq_2 ptrOk.eq_3 ptrCells.eq_1 ptrCells.eq_2 ptrCells.eq_3 lenOk.eq_1 lenOk.eq_2 lenOk.eq_3 lenOk.eq_4 lenVal.eq_1 lenVal.eq_2 lenVal.eq_3 lenVal.eq_4 faOk.eq_1 faOk.eq_2 faOk.eq_3 faVal.eq_1 faVal.eq_2 faVal.eq_3 iaOk.eq_1 iaOk.eq_2 iaOk.eq_3 iaVal.eq_1 iaVal.eq_2 iaVal.eq_3 slcLen.eq_1 slcLen.eq_2 slcLen.eq_3 slcLen.eq_4 bdOk.eq_1 bdOk.eq_2 bdVal.eq_1 bdVal.eq_2 slcOk.eq_1 slcOk.eq_2 slcOk.eq_3 slcOk.eq_4 slcVal.eq_1 slcVal.eq_2 slcVal.eq_3 slcVal.eq_4 slcFz.eq_1 slcFz.eq_2 loK.eq_1 loK.eq_2 loK.eq_3 rsVal.eq_1 rsVal.eq_2 rsVal.eq_3 byOk.eq_1 byOk.eq_2 byOk.eq_3 byOk.eq_4 byOk.eq_5 byOk.eq_6 byOk.eq_7 byOk.eq_8 byVal.eq_1 byVal.eq_2 byVal.eq_3 byFz.eq_1 byFz.eq_2 byFz.eq_3 byOks byVals byFzs allOne resSt.eq_1 resSt.eq_2 resName.eq_1 resName.eq_2 stOk.eq_1 stOk.eq_2 stArr.eq_1 stArr.eq_2 stSt.eq_1 stSt.eq_2 AV.patch nameOk_none gB.eq_1 gB.eq_2 gB.eq_3 gIs.eq_1 gIs.eq_2 gIs.eq_3 retV resV resVs evalV cellsV St.byval List.getD_cons_zero List.getD_cons_succ List.getD_nil List.map_cons List.map_nil List.length_cons List.length_nil List.take_succ_cons List.take_zero List.drop_succ_cons List.drop_zero List.headD_cons List.set_cons_zero List.append_nil List.nil_append List.cons_append List.contains_cons List.contains_nil List.elem_cons List.elem_nil List.all_cons List.all_nil List.getElem?_cons_zero List.getElem?_cons_succ List.filterMap_cons List.filterMap_nil Option.isSome_some Option.isSome_none Option.map_some Option.map_none Option.some.injEq AV.int.injEq AV.bool.injEq AV.str.injEq AV.tup.injEq AV.agg.injEq AV.sl.injEq List.cons.injEq Bool.false_eq_true Bool.true_eq_false Bool.not_true Bool.not_false Bool.and_true Bool.true_and Bool.or_false Bool.or_true Bool.false_or Bool.true_or Bool.or_self Bool.and_self Bool.not_eq_true' Bool.not_eq_false' Bool.not_not beq_self_eq_true true_and and_true false_and and_false and_self not_true_eq_false not_false_eq_true forall_const true_implies false_implies implies_true imp_self Nat.lt_add_one Nat.le_refl Nat.zero_le Nat.add_zero Nat.zero_add decide_true decide_false decide_eq_true_eq decide_eq_false_iff_not exists_eq_left exists_eq_left' ge_iff_le gt_iff_lt ite_branch ite_branch' nilOk.eq_1 nilOk.eq_2 nilMay.eq_1 nilMay.eq_2 AV.isSl.eq_1 objTy'.eq_1 objTy'.eq_2 apSt.eq_1 apArr.eq_1 apArr.eq_2 apTwo.eq_1 apTwo.eq_2 apSt2.eq_1 apArr2.eq_1 apArr2.eq_2 slOf.eq_1 fitsV List.mem_cons List.not_mem_nil Bool.false_and Bool.and_false primOk.eq_1 primOk.eq_2 primOk.eq_3 primOk.eq_4 primOk.eq_5 primVal.eq_1 primVal.eq_2 primVal.eq_3 primVal.eq_4 primVal.eq_5 mOk.eq_1 mOk.eq_2 mVal.eq_1 mVal.eq_2 mFz.eq_1 mFz.eq_2 mOks mVals mFzs mCalOk.eq_1 mCalOk.eq_2 mFn.eq_1 mFn.eq_2 mArgs.eq_1 mArgs.eq_2 ckOk.eq_1 ckOk.eq_2 cloOk.eq_1 ptrAt.eq_1 sh.eq_1 sh.eq_2 sh.eq_3 sh.eq_4 sh.eq_5 sh.eq_6 retM shH_small evM entOk.eq_1 entOk.eq_2 ents.eq_1 ents.eq_2 kI.eq_1 mpOk.eq_1 mpR.eq_1 lkV.eq_1 lkV.eq_2 remp.eq_2 evP pvOk.eq_1 pvOk.eq_2 pvVal.eq_1 pvVal.eq_2 plOk.eq_1 plOk.eq_2 plOk.eq_3 plV.eq_1 plV.eq_2 plF.eq_1 plF.eq_2 plVal.eq_1 plVal.eq_2 plFz.eq_1 plFz.eq_2 lpOk.eq_1 lpOk.eq_2 lpVal.eq_1 lpVal.eq_2 lpFz.eq_1 lpFz.eq_2 stpOk.eq_1 stpOk.eq_2 stpSt.eq_1 stpSt.eq_2 stpArr.eq_1 keepS.eq_1 keepS.eq_2
section
/-
  Histories: whether events may be one, by the code: walked.
-/
open Go.RowKit
set_option linter.unusedVariables false
set_option linter.unusedSimpArgs false
set_option maxRecDepth 100000
attribute [local go_sem ↓] runOp headOp
/-! ### percolate/history.Right -/
def r_hRt_0 : Reg := ⟨[], [⟨(.mv (.c (.bool false))), (some 4), none, [], []⟩], [], [], false⟩
def r_hRt_1 : List XOp := [(.mkmap 11 47), (.op [] ⟨(.mv (.t 11)), (some 5), none, [], []⟩)]
def r_hRt_2 : Reg := ⟨[], [⟨(.mv (.c (.int .i64 0))), (some 6), none, [], []⟩], [], [], false⟩
def t_hRt_3 : List ROp := [⟨(.mv (.t 0)), (some 12), none, [], []⟩, ⟨(.len false (.t 12)), (some 13), none, [], []⟩, ⟨(.mv (.c (.int .i64 0))), (some 14), none, [], []⟩]
def r_hRt_3 : Reg := ⟨[], t_hRt_3, [], [], false⟩
def r_hRt_4 : Reg := ⟨[], [⟨(.bin .lss (.t 14) (.t 13)), (some 15), none, [], []⟩], [], [], false⟩
def t_hRt_5 : List ROp := [⟨(.iaddr 15 (.t 12) (.t 14)), (some 16), none, [8], []⟩, ⟨(.load 15 true (.t 16)), (some 17), none, [8], []⟩, ⟨(.alloc 15 32 (.agg [(.int .i64 0), (.int .i64 0), (.str ⟨#[]⟩), (.str ⟨#[]⟩), (.bool false), (.str ⟨#[]⟩), (.int .i64 0), (.int .i64 0), (.bool false), (.str ⟨#[]⟩), (.sl []), (.int .i64 0), (.int .i64 0), (.int .i64 0), (.bool false)])), (some 8), none, [], []⟩, ⟨(.store 15 (.t 8) (.t 17)), none, none, [], []⟩]
def r_hRt_5 : Reg := ⟨[], t_hRt_5, [8], [], false⟩
def r_hRt_6 : List XOp := [(.op [] ⟨(.mv (.t 5)), (some 19), none, [], []⟩), (.op [] ⟨(.faddr 0 (.t 8)), (some 20), none, [], []⟩), (.op [] ⟨(.load 1 false (.t 20)), (some 21), none, [], []⟩), (.mlook 22 true (.t 19) (.t 21) (.agg [(.int .i64 0), (.int .i64 0), (.str ⟨#[]⟩), (.str ⟨#[]⟩), (.bool false), (.str ⟨#[]⟩), (.int .i64 0), (.int .i64 0), (.bool false), (.str ⟨#[]⟩), (.sl []), (.int .i64 0), (.int .i64 0), (.int .i64 0), (.bool false)]) none), (.op [] ⟨(.mv (.t 22)), (some 18), none, [], []⟩), (.op [] ⟨(.ext 0 (.t 18)), (some 23), none, [], []⟩), (.op [] ⟨(.ext 1 (.t 18)), (some 24), none, [], []⟩), (.op [9] ⟨(.alloc 15 32 (.agg [(.int .i64 0), (.int .i64 0), (.str ⟨#[]⟩), (.str ⟨#[]⟩), (.bool false), (.str ⟨#[]⟩), (.int .i64 0), (.int .i64 0), (.bool false), (.str ⟨#[]⟩), (.sl []), (.int .i64 0), (.int .i64 0), (.int .i64 0), (.bool false)])), (some 9), none, [], []⟩), (.op [] ⟨(.store 15 (.t 9) (.t 23)), none, none, [], []⟩), (.op [] ⟨(.mv (.t 24)), (some 10), none, [], []⟩)]
def t_hRt_7 : List ROp := [⟨(.load 15 true (.t 8)), (some 25), none, [27, 40], []⟩, ⟨(.mv (.t 1)), (some 26), none, [27, 40], []⟩, ⟨(.callv (.c (.clo 7 [] [])) [(.t 25), (.t 26)]), (some 27), none, [40], []⟩, ⟨(.un .not (.t 27)), (some 28), none, [40], []⟩, ⟨(.mv (.t 28)), (some 29), none, [40], []⟩, ⟨(.faddr 11 (.t 8)), (some 30), (some (29, false)), [40], []⟩, ⟨(.load 1 false (.t 30)), (some 31), (some (29, false)), [40], []⟩, ⟨(.mv (.t 6)), (some 32), (some (29, false)), [40], []⟩, ⟨(.bin .leq (.t 31) (.t 32)), (some 33), (some (29, false)), [40], []⟩, ⟨(.pick (.t 29) (.c (.bool true)) (.t 33)), (some 34), none, [40], []⟩, ⟨(.mv (.t 34)), (some 35), none, [40], []⟩, ⟨(.mv (.t 10)), (some 36), (some (35, false)), [40], []⟩, ⟨(.mv (.t 36)), (some 37), (some (35, false)), [40], []⟩, ⟨(.load 15 true (.t 9)), (some 38), (some (37, true)), [40], []⟩, ⟨(.load 15 true (.t 8)), (some 39), (some (37, true)), [40], []⟩, ⟨(.callv (.c (.clo 9 [] [])) [(.t 38), (.t 39)]), (some 40), (some (37, true)), [], []⟩, ⟨(.un .not (.t 40)), (some 41), (some (37, true)), [], []⟩, ⟨(.pick (.t 37) (.t 41) (.c (.bool false))), (some 42), (some (35, false)), [], []⟩, ⟨(.pick (.t 35) (.c (.bool true)) (.t 42)), (some 43), none, [], []⟩]
def r_hRt_7 : Reg := ⟨[], t_hRt_7, [27, 40], [], false⟩
def r_hRt_8 : Reg := ⟨[], [⟨(.mv (.c (.bool false))), (some 4), none, [], []⟩], [], [], false⟩
def h_hRt_9 : List ROp := [⟨(.mv (.t 5)), (some 44), none, [], []⟩, ⟨(.faddr 0 (.t 8)), (some 45), none, [], []⟩, ⟨(.load 1 false (.t 45)), (some 46), none, [], []⟩, ⟨(.load 15 true (.t 8)), (some 47), none, [], []⟩, ⟨(.faddr 11 (.t 8)), (some 48), none, [], []⟩, ⟨(.load 1 false (.t 48)), (some 49), none, [], []⟩]
def r_hRt_9 : Reg := ⟨h_hRt_9, [], [], [], true⟩
def r_hRt_10 : List XOp := [(.op [] ⟨(.mv (.t 49)), (some 6), none, [], []⟩)]
def r_hRt_11 : Reg := ⟨[], [⟨(.bin .add (.t 14) (.c (.int .i64 1))), (some 50), none, [], []⟩, ⟨(.mv (.t 50)), (some 14), none, [], []⟩], [], [], false⟩
def r_hRt_l12 (P : Program) : IR := (.seq (.reg r_hRt_4)
  (.seq (.cond (.t 15) .skip
  (.exit 0))
  (.seq (.block 1 (.seq (.reg r_hRt_5)
  (.seq (.regx P r_hRt_6)
  (.seq (.seq (.reg r_hRt_7)
  (.cond (.t 43) (.seq (.reg r_hRt_8)
  .ret)
  .skip))
  (.regm P r_hRt_9 [8, 48, 48, 49] (.t 44) (.t 46) (.t 47) r_hRt_10)))))
  (.reg r_hRt_11))))
def r_hRt_13 : Reg := ⟨[], [⟨(.mv (.c (.bool true))), (some 4), none, [], []⟩], [], [], false⟩
def ir_hRt (P : Program) : IR := (.seq (.reg r_hRt_0)
  (.seq (.regx P r_hRt_1)
  (.seq (.reg r_hRt_2)
  (.seq (.seq (.reg r_hRt_3)
  (.block 0 (.loop (r_hRt_l12 P))))
  (.seq (.reg r_hRt_13)
  .ret)))))
def res_hRt : List RDesc := [(.tmp 4)]
theorem e_hRt_0 (C : FuncId → List AV → AV → Prop) (σ : St) (K : St → Prop) : runReg C r_hRt_0 σ K = runOps C [⟨(.mv (.c (.bool false))), (some 4), none, [], []⟩] (σ.kills []) K := rfl
theorem e_hRt_2 (C : FuncId → List AV → AV → Prop) (σ : St) (K : St → Prop) : runReg C r_hRt_2 σ K = runOps C [⟨(.mv (.c (.int .i64 0))), (some 6), none, [], []⟩] (σ.kills []) K := rfl
theorem e_hRt_3 (C : FuncId → List AV → AV → Prop) (σ : St) (K : St → Prop) : runReg C r_hRt_3 σ K = runOps C t_hRt_3 (σ.kills []) K := rfl
theorem e_hRt_4 (C : FuncId → List AV → AV → Prop) (σ : St) (K : St → Prop) : runReg C r_hRt_4 σ K = runOps C [⟨(.bin .lss (.t 14) (.t 13)), (some 15), none, [], []⟩] (σ.kills []) K := rfl
theorem e_hRt_5 (C : FuncId → List AV → AV → Prop) (σ : St) (K : St → Prop) : runReg C r_hRt_5 σ K = runOps C t_hRt_5 (σ.kills [8]) K := rfl
theorem e_hRt_7 (C : FuncId → List AV → AV → Prop) (σ : St) (K : St → Prop) : runReg C r_hRt_7 σ K = runOps C t_hRt_7 (σ.kills [27, 40]) K := rfl
theorem e_hRt_8 (C : FuncId → List AV → AV → Prop) (σ : St) (K : St → Prop) : runReg C r_hRt_8 σ K = runOps C [⟨(.mv (.c (.bool false))), (some 4), none, [], []⟩] (σ.kills []) K := rfl
theorem e_hRt_9 (P : Program) (C : FuncId → List AV → AV → Prop) (l : List XOp) (σ : St) (K : St → Prop) : runRegM P C r_hRt_9 [8, 48, 48, 49] (.t 44) (.t 46) (.t 47) l σ K = runHead C [] [] h_hRt_9 σ fun σ => noMps [8, 48, 48, 49] σ ∧ (σ.get (.t 47)).byFree = true ∧ runXs P C (.mupd (.t 44) (.t 46) (.t 47) :: l) σ K := rfl
theorem e_hRt_11 (C : FuncId → List AV → AV → Prop) (σ : St) (K : St → Prop) : runReg C r_hRt_11 σ K = runOps C [⟨(.bin .add (.t 14) (.c (.int .i64 1))), (some 50), none, [], []⟩, ⟨(.mv (.t 50)), (some 14), none, [], []⟩] (σ.kills []) K := rfl
theorem e_hRt_13 (C : FuncId → List AV → AV → Prop) (σ : St) (K : St → Prop) : runReg C r_hRt_13 σ K = runOps C [⟨(.mv (.c (.bool true))), (some 4), none, [], []⟩] (σ.kills []) K := rfl
theorem fn_hRt {args : List AV} {r : AV} (ha : args.length.ble Try.f13.ntmps = true) (h : run (AFn Try.prog) (ir_hRt Try.prog) (endQ res_hRt r) (initSt args)) : AFn Try.prog 13 args r :=
  AFn.of_code (pv := false) (hint := fun _ => []) (c := Try.f13.body.getD .skip) (by kernel_rfl) (by kernel_rfl) Try.func13 (by kernel_rfl) (by kernel_rfl) (by kernel_rfl) (of_decide_eq_true (by kernel_rfl)) (Nat.le_of_ble_eq_true ha) (Nat.le_of_ble_eq_true (by kernel_rfl)) (run_ok h)
attribute [local go_sem ↓] ir_hRt
attribute [local go_sem] res_hRt e_hRt_0 e_hRt_2 e_hRt_3 t_hRt_3 e_hRt_4 e_hRt_5 t_hRt_5 e_hRt_7 t_hRt_7 e_hRt_8 e_hRt_9 h_hRt_9 e_hRt_11 e_hRt_13 r_hRt_1 r_hRt_6 r_hRt_10
theorem lkp_upk (es : List (Int × AV)) (k : Int) (d : AV) (k' : Int) : lkp (upk es k d) k' = if k' = k then some d else lkp es k' := by
  induction es with
  | nil =>
    show (if k' == k then some d else none) = _
    by_cases h : k' = k <;> simp [h, lkp]
  | cons e es ih =>
    rw [upk]
    by_cases h : k == e.1
    · rw [if_pos h]
      have h' : k = e.1 := by simpa using h
      show (if k' == e.1 then some d else lkp es k') = if k' = k then some d else (if k' == e.1 then some e.2 else lkp es k')
      by_cases h2 : k' = k
      · simp [h2, h']
      · have : ¬ k' = e.1 := fun q => h2 (by rw [q, h'])
        simp [h2, this]
    · rw [if_neg h]
      show (if k' == e.1 then some e.2 else lkp (upk es k d) k') = if k' = k then some d else (if k' == e.1 then some e.2 else lkp es k')
      rw [ih]
      by_cases h2 : k' = k
      · have : ¬ k' = e.1 := fun q => h (by rw [← h2, q]; simp)
        simp [h2] at this ⊢
        simp [this]
      · simp [h2]
/-- each client's last event -/
def LastM (es : List (Int × AV)) (p : List Evt) : Prop := ∀ k, lkp es k = (p.find? fun e => e.client == k).map Evt.a
theorem LastM.add {es : List (Int × AV)} {p : List Evt} (h : LastM es p) (x : Evt) : LastM (upk es x.client x.a) (x :: p) := fun k => by
  rw [lkp_upk, List.find?_cons]
  by_cases hk : k = x.client
  · subst hk; simp
  · have : (x.client == k) = false := by simp; exact fun e => hk e.symm
    rw [if_neg hk, this]; exact h k
def hrI (l : List Evt) (clock : Int) (R : Bool) (k : Nat) (σ : St) : Prop :=
  ∃ (i : Nat) (es : List (Int × AV)), i ≤ l.length ∧ k = l.length - i ∧ LastM es (l.take i).reverse ∧ progR clock (l.take i).reverse (l.drop i) = R ∧ σ.T 1 = .int .i64 clock ∧ σ.T 5 = .mp 11 es ∧ σ.T 6 = .int .i64 (lastB (l.take i).reverse) ∧
    σ.T 12 = .sl (l.map Evt.a) ∧ σ.T 13 = .int .i64 l.length ∧ σ.T 14 = .int .i64 i ∧ (σ.H 11).isSome = true
set_option maxHeartbeats 8000000 in
theorem hRt_ok (l : List Evt) (clock : Int) (hl : l.length ≤ 1000000) (pa : ∀ e, e ∈ l → e.ans.prs.length ≤ 1000000000) : AFn Try.prog 13 [.sl (l.map Evt.a), .int .i64 clock] (.bool (progR clock [] l)) := by
  refine fn_hRt rfl ?_
  obtain ⟨R, hR⟩ : ∃ R, progR clock [] l = R := ⟨_, rfl⟩
  rw [hR]
  simp (maxSteps := 4000000) only [go_sem, ↓reduceIte, reduceCtorEq, Nat.reduceEqDiff, Nat.reduceBEq, Nat.reduceAdd, Nat.reduceSub, Nat.reduceMul, Nat.reduceLT, Nat.reduceLeDiff, Nat.reduceBNe, Int.reduceBEq, Int.reduceBNe, Int.reduceLT, Int.reduceLE, Par.a, Opr.a, Ans.a, nul, evM, entOk.eq_1, entOk.eq_2, ents.eq_1, ents.eq_2, kI.eq_1, mpOk.eq_1, mpR.eq_1, lkV.eq_1, lkV.eq_2, AV.byFree, AV.isMp, List.length_map]
  refine run_loop (hrI l clock R) (k := l.length) ⟨0, [], Nat.zero_le _, rfl, fun k => rfl, hR, ?_, ?_, ?_, ?_, ?_, ?_, ?_⟩ ?_
  · simp (maxSteps := 4000000) only [go_sem, ↓reduceIte, reduceCtorEq, Nat.reduceEqDiff, Nat.reduceBEq, Nat.reduceAdd, Nat.reduceSub, Nat.reduceMul, Nat.reduceLT, Nat.reduceLeDiff, Nat.reduceBNe, Int.reduceBEq, Int.reduceBNe, Int.reduceLT, Int.reduceLE, Par.a, Opr.a, Ans.a, nul, evM, entOk.eq_1, entOk.eq_2, ents.eq_1, ents.eq_2, kI.eq_1, mpOk.eq_1, mpR.eq_1, lkV.eq_1, lkV.eq_2, AV.byFree, AV.isMp]
  · simp (maxSteps := 4000000) only [go_sem, ↓reduceIte, reduceCtorEq, Nat.reduceEqDiff, Nat.reduceBEq, Nat.reduceAdd, Nat.reduceSub, Nat.reduceMul, Nat.reduceLT, Nat.reduceLeDiff, Nat.reduceBNe, Int.reduceBEq, Int.reduceBNe, Int.reduceLT, Int.reduceLE, Par.a, Opr.a, Ans.a, nul, evM, entOk.eq_1, entOk.eq_2, ents.eq_1, ents.eq_2, kI.eq_1, mpOk.eq_1, mpR.eq_1, lkV.eq_1, lkV.eq_2, AV.byFree, AV.isMp]
  · (simp (maxSteps := 4000000) only [go_sem, ↓reduceIte, reduceCtorEq, Nat.reduceEqDiff, Nat.reduceBEq, Nat.reduceAdd, Nat.reduceSub, Nat.reduceMul, Nat.reduceLT, Nat.reduceLeDiff, Nat.reduceBNe, Int.reduceBEq, Int.reduceBNe, Int.reduceLT, Int.reduceLE, Par.a, Opr.a, Ans.a, nul, evM, entOk.eq_1, entOk.eq_2, ents.eq_1, ents.eq_2, kI.eq_1, mpOk.eq_1, mpR.eq_1, lkV.eq_1, lkV.eq_2, AV.byFree, AV.isMp]) <;> rfl
  · simp (maxSteps := 4000000) only [go_sem, ↓reduceIte, reduceCtorEq, Nat.reduceEqDiff, Nat.reduceBEq, Nat.reduceAdd, Nat.reduceSub, Nat.reduceMul, Nat.reduceLT, Nat.reduceLeDiff, Nat.reduceBNe, Int.reduceBEq, Int.reduceBNe, Int.reduceLT, Int.reduceLE, Par.a, Opr.a, Ans.a, nul, evM, entOk.eq_1, entOk.eq_2, ents.eq_1, ents.eq_2, kI.eq_1, mpOk.eq_1, mpR.eq_1, lkV.eq_1, lkV.eq_2, AV.byFree, AV.isMp]
  · simp (maxSteps := 4000000) only [go_sem, ↓reduceIte, reduceCtorEq, Nat.reduceEqDiff, Nat.reduceBEq, Nat.reduceAdd, Nat.reduceSub, Nat.reduceMul, Nat.reduceLT, Nat.reduceLeDiff, Nat.reduceBNe, Int.reduceBEq, Int.reduceBNe, Int.reduceLT, Int.reduceLE, Par.a, Opr.a, Ans.a, nul, evM, entOk.eq_1, entOk.eq_2, ents.eq_1, ents.eq_2, kI.eq_1, mpOk.eq_1, mpR.eq_1, lkV.eq_1, lkV.eq_2, AV.byFree, AV.isMp, List.length_map]
  · (simp (maxSteps := 4000000) only [go_sem, ↓reduceIte, reduceCtorEq, Nat.reduceEqDiff, Nat.reduceBEq, Nat.reduceAdd, Nat.reduceSub, Nat.reduceMul, Nat.reduceLT, Nat.reduceLeDiff, Nat.reduceBNe, Int.reduceBEq, Int.reduceBNe, Int.reduceLT, Int.reduceLE, Par.a, Opr.a, Ans.a, nul, evM, entOk.eq_1, entOk.eq_2, ents.eq_1, ents.eq_2, kI.eq_1, mpOk.eq_1, mpR.eq_1, lkV.eq_1, lkV.eq_2, AV.byFree, AV.isMp]) <;> rfl
  · simp (maxSteps := 4000000) only [go_sem, ↓reduceIte, reduceCtorEq, Nat.reduceEqDiff, Nat.reduceBEq, Nat.reduceAdd, Nat.reduceSub, Nat.reduceMul, Nat.reduceLT, Nat.reduceLeDiff, Nat.reduceBNe, Int.reduceBEq, Int.reduceBNe, Int.reduceLT, Int.reduceLE, Par.a, Opr.a, Ans.a, nul, evM, entOk.eq_1, entOk.eq_2, ents.eq_1, ents.eq_2, kI.eq_1, mpOk.eq_1, mpR.eq_1, lkV.eq_1, lkV.eq_2, AV.byFree, AV.isMp]
  clear hR
  rintro k σ ⟨i, es, hi, rfl, hM, hR, t1, t5, t6, t12, t13, t14, h11⟩
  simp only [r_hRt_l12]
  by_cases hlt : i < l.length
  case neg =>
    have hlt' : ¬ (i : Int) < (l.length : Int) := by omega
    have e : l.drop i = [] := List.drop_eq_nil_of_le (by omega)
    rw [e, progR] at hR
    subst hR
    simp (maxSteps := 4000000) only [go_sem, ↓reduceIte, reduceCtorEq, Nat.reduceEqDiff, Nat.reduceBEq, Nat.reduceAdd, Nat.reduceSub, Nat.reduceMul, Nat.reduceLT, Nat.reduceLeDiff, Nat.reduceBNe, Int.reduceBEq, Int.reduceBNe, Int.reduceLT, Int.reduceLE, Par.a, Opr.a, Ans.a, nul, evM, entOk.eq_1, entOk.eq_2, ents.eq_1, ents.eq_2, kI.eq_1, mpOk.eq_1, mpR.eq_1, lkV.eq_1, lkV.eq_2, AV.byFree, AV.isMp, t13, t14, hlt']
  have hlt' : (i : Int) < (l.length : Int) := by omega
  obtain ⟨x, hx⟩ := get_lt hlt
  have hge := at_map (f := Evt.a) hx
  simp only [Evt.a] at hge
  have hw := wrapS (j := i) (by omega)
  have tk : (l.take (i + 1)).reverse = x :: (l.take i).reverse := by rw [List.take_add_one, hx]; simp
  have dk : l.drop i = x :: l.drop (i + 1) := by rw [List.drop_eq_getElem_cons hlt, (List.getElem?_eq_some_iff.1 hx).2]
  have cm := hMay_ok x clock (pa x (List.mem_of_getElem? hx))
  rw [dk, progR] at hR
  have hk := hM x.client
  simp only [Evt.a] at cm
  cases hf : (l.take i).reverse.find? (fun e => e.client == x.client) with
  | none =>
    rw [hf] at hk
    have hk : lkp es x.client = none := hk
    cases hm : mayB x clock with
    | false =>
      rw [hm, Bool.false_and] at hR
      subst hR
      rw [hm] at cm
      (repeat (first | simp (maxSteps := 4000000) only [go_sem, ↓reduceIte, reduceCtorEq, Nat.reduceEqDiff, Nat.reduceBEq, Nat.reduceAdd, Nat.reduceSub, Nat.reduceMul, Nat.reduceLT, Nat.reduceLeDiff, Nat.reduceBNe, Int.reduceBEq, Int.reduceBNe, Int.reduceLT, Int.reduceLE, Par.a, Opr.a, Ans.a, nul, evM, entOk.eq_1, entOk.eq_2, ents.eq_1, ents.eq_2, kI.eq_1, mpOk.eq_1, mpR.eq_1, lkV.eq_1, lkV.eq_2, AV.byFree, AV.isMp, t1, t5, t6, t12, t13, t14, h11, hlt', hlt, hge, hk, List.length_map, Int.toNat_natCast] | refine calling (cm) ?_ | refine callingH (cm) ?_ | refine And.intro (by omega) ?_ | refine And.intro (fun d hd => by (repeat (rcases hd with rfl | hd; · exact ⟨rfl, rfl⟩)); cases hd) ?_))
    | true =>
      rw [hm, Bool.true_and] at hR
      rw [hm] at cm
      by_cases hb : lastB (l.take i).reverse < x.began
      case neg =>
        have hb' : x.began ≤ lastB (l.take i).reverse := by omega
        rw [decide_eq_false hb, Bool.false_and, Bool.false_and] at hR
        subst hR
        (repeat (first | simp (maxSteps := 4000000) only [go_sem, ↓reduceIte, reduceCtorEq, Nat.reduceEqDiff, Nat.reduceBEq, Nat.reduceAdd, Nat.reduceSub, Nat.reduceMul, Nat.reduceLT, Nat.reduceLeDiff, Nat.reduceBNe, Int.reduceBEq, Int.reduceBNe, Int.reduceLT, Int.reduceLE, Par.a, Opr.a, Ans.a, nul, evM, entOk.eq_1, entOk.eq_2, ents.eq_1, ents.eq_2, kI.eq_1, mpOk.eq_1, mpR.eq_1, lkV.eq_1, lkV.eq_2, AV.byFree, AV.isMp, t1, t5, t6, t12, t13, t14, h11, hlt', hlt, hge, hk, hb', List.length_map, Int.toNat_natCast] | refine calling (cm) ?_ | refine callingH (cm) ?_ | refine And.intro (by omega) ?_ | refine And.intro (fun d hd => by (repeat (rcases hd with rfl | hd; · exact ⟨rfl, rfl⟩)); cases hd) ?_))
      have hb' : ¬ x.began ≤ lastB (l.take i).reverse := by omega
      have hlc : lastC (l.take i).reverse x = true := by unfold lastC; rw [hf]; rfl
      rw [decide_eq_true hb, hlc, Bool.true_and, Bool.true_and, ← tk] at hR
      (repeat (first | simp (maxSteps := 4000000) only [go_sem, ↓reduceIte, reduceCtorEq, Nat.reduceEqDiff, Nat.reduceBEq, Nat.reduceAdd, Nat.reduceSub, Nat.reduceMul, Nat.reduceLT, Nat.reduceLeDiff, Nat.reduceBNe, Int.reduceBEq, Int.reduceBNe, Int.reduceLT, Int.reduceLE, Par.a, Opr.a, Ans.a, nul, evM, entOk.eq_1, entOk.eq_2, ents.eq_1, ents.eq_2, kI.eq_1, mpOk.eq_1, mpR.eq_1, lkV.eq_1, lkV.eq_2, AV.byFree, AV.isMp, t1, t5, t6, t12, t13, t14, h11, hlt', hlt, hge, hk, hb', hw, List.length_map, Int.toNat_natCast] | refine calling (cm) ?_ | refine callingH (cm) ?_ | refine And.intro (by omega) ?_ | refine And.intro (fun d hd => by (repeat (rcases hd with rfl | hd; · exact ⟨rfl, rfl⟩)); cases hd) ?_))
      refine ⟨l.length - (i + 1), by omega, i + 1, upk es x.client x.a, by omega, rfl, by rw [tk]; exact LastM.add hM x, hR, ?_, ?_, ?_, ?_, ?_, ?_, ?_⟩
      · simp (maxSteps := 4000000) only [go_sem, ↓reduceIte, reduceCtorEq, Nat.reduceEqDiff, Nat.reduceBEq, Nat.reduceAdd, Nat.reduceSub, Nat.reduceMul, Nat.reduceLT, Nat.reduceLeDiff, Nat.reduceBNe, Int.reduceBEq, Int.reduceBNe, Int.reduceLT, Int.reduceLE, Par.a, Opr.a, Ans.a, nul, evM, entOk.eq_1, entOk.eq_2, ents.eq_1, ents.eq_2, kI.eq_1, mpOk.eq_1, mpR.eq_1, lkV.eq_1, lkV.eq_2, AV.byFree, AV.isMp, t1]
      · (simp (maxSteps := 4000000) only [go_sem, ↓reduceIte, reduceCtorEq, Nat.reduceEqDiff, Nat.reduceBEq, Nat.reduceAdd, Nat.reduceSub, Nat.reduceMul, Nat.reduceLT, Nat.reduceLeDiff, Nat.reduceBNe, Int.reduceBEq, Int.reduceBNe, Int.reduceLT, Int.reduceLE, Par.a, Opr.a, Ans.a, nul, evM, entOk.eq_1, entOk.eq_2, ents.eq_1, ents.eq_2, kI.eq_1, mpOk.eq_1, mpR.eq_1, lkV.eq_1, lkV.eq_2, AV.byFree, AV.isMp, t5]) <;> rfl
      · rw [tk]
        (simp (maxSteps := 4000000) only [go_sem, ↓reduceIte, reduceCtorEq, Nat.reduceEqDiff, Nat.reduceBEq, Nat.reduceAdd, Nat.reduceSub, Nat.reduceMul, Nat.reduceLT, Nat.reduceLeDiff, Nat.reduceBNe, Int.reduceBEq, Int.reduceBNe, Int.reduceLT, Int.reduceLE, Par.a, Opr.a, Ans.a, nul, evM, entOk.eq_1, entOk.eq_2, ents.eq_1, ents.eq_2, kI.eq_1, mpOk.eq_1, mpR.eq_1, lkV.eq_1, lkV.eq_2, AV.byFree, AV.isMp]) <;> rfl
      · simp (maxSteps := 4000000) only [go_sem, ↓reduceIte, reduceCtorEq, Nat.reduceEqDiff, Nat.reduceBEq, Nat.reduceAdd, Nat.reduceSub, Nat.reduceMul, Nat.reduceLT, Nat.reduceLeDiff, Nat.reduceBNe, Int.reduceBEq, Int.reduceBNe, Int.reduceLT, Int.reduceLE, Par.a, Opr.a, Ans.a, nul, evM, entOk.eq_1, entOk.eq_2, ents.eq_1, ents.eq_2, kI.eq_1, mpOk.eq_1, mpR.eq_1, lkV.eq_1, lkV.eq_2, AV.byFree, AV.isMp, t12]
      · simp (maxSteps := 4000000) only [go_sem, ↓reduceIte, reduceCtorEq, Nat.reduceEqDiff, Nat.reduceBEq, Nat.reduceAdd, Nat.reduceSub, Nat.reduceMul, Nat.reduceLT, Nat.reduceLeDiff, Nat.reduceBNe, Int.reduceBEq, Int.reduceBNe, Int.reduceLT, Int.reduceLE, Par.a, Opr.a, Ans.a, nul, evM, entOk.eq_1, entOk.eq_2, ents.eq_1, ents.eq_2, kI.eq_1, mpOk.eq_1, mpR.eq_1, lkV.eq_1, lkV.eq_2, AV.byFree, AV.isMp, t13]
      · simp (maxSteps := 4000000) only [go_sem, ↓reduceIte, reduceCtorEq, Nat.reduceEqDiff, Nat.reduceBEq, Nat.reduceAdd, Nat.reduceSub, Nat.reduceMul, Nat.reduceLT, Nat.reduceLeDiff, Nat.reduceBNe, Int.reduceBEq, Int.reduceBNe, Int.reduceLT, Int.reduceLE, Par.a, Opr.a, Ans.a, nul, evM, entOk.eq_1, entOk.eq_2, ents.eq_1, ents.eq_2, kI.eq_1, mpOk.eq_1, mpR.eq_1, lkV.eq_1, lkV.eq_2, AV.byFree, AV.isMp]
      · simp (maxSteps := 4000000) only [go_sem, ↓reduceIte, reduceCtorEq, Nat.reduceEqDiff, Nat.reduceBEq, Nat.reduceAdd, Nat.reduceSub, Nat.reduceMul, Nat.reduceLT, Nat.reduceLeDiff, Nat.reduceBNe, Int.reduceBEq, Int.reduceBNe, Int.reduceLT, Int.reduceLE, Par.a, Opr.a, Ans.a, nul, evM, entOk.eq_1, entOk.eq_2, ents.eq_1, ents.eq_2, kI.eq_1, mpOk.eq_1, mpR.eq_1, lkV.eq_1, lkV.eq_2, AV.byFree, AV.isMp, h11]
  | some z =>
    rw [hf] at hk
    have hk : lkp es x.client = some z.a := hk
    have cb := hBef_ok z x
    simp only [Evt.a] at hk cb
    cases hm : mayB x clock with
    | false =>
      rw [hm, Bool.false_and] at hR
      subst hR
      rw [hm] at cm
      (repeat (first | simp (maxSteps := 4000000) only [go_sem, ↓reduceIte, reduceCtorEq, Nat.reduceEqDiff, Nat.reduceBEq, Nat.reduceAdd, Nat.reduceSub, Nat.reduceMul, Nat.reduceLT, Nat.reduceLeDiff, Nat.reduceBNe, Int.reduceBEq, Int.reduceBNe, Int.reduceLT, Int.reduceLE, Par.a, Opr.a, Ans.a, nul, evM, entOk.eq_1, entOk.eq_2, ents.eq_1, ents.eq_2, kI.eq_1, mpOk.eq_1, mpR.eq_1, lkV.eq_1, lkV.eq_2, AV.byFree, AV.isMp, t1, t5, t6, t12, t13, t14, h11, hlt', hlt, hge, hk, List.length_map, Int.toNat_natCast] | refine calling (cm) ?_ | refine callingH (cm) ?_ | refine And.intro (by omega) ?_ | refine And.intro (fun d hd => by (repeat (rcases hd with rfl | hd; · exact ⟨rfl, rfl⟩)); cases hd) ?_))
    | true =>
      rw [hm, Bool.true_and] at hR
      rw [hm] at cm
      by_cases hb : lastB (l.take i).reverse < x.began
      case neg =>
        have hb' : x.began ≤ lastB (l.take i).reverse := by omega
        rw [decide_eq_false hb, Bool.false_and, Bool.false_and] at hR
        subst hR
        (repeat (first | simp (maxSteps := 4000000) only [go_sem, ↓reduceIte, reduceCtorEq, Nat.reduceEqDiff, Nat.reduceBEq, Nat.reduceAdd, Nat.reduceSub, Nat.reduceMul, Nat.reduceLT, Nat.reduceLeDiff, Nat.reduceBNe, Int.reduceBEq, Int.reduceBNe, Int.reduceLT, Int.reduceLE, Par.a, Opr.a, Ans.a, nul, evM, entOk.eq_1, entOk.eq_2, ents.eq_1, ents.eq_2, kI.eq_1, mpOk.eq_1, mpR.eq_1, lkV.eq_1, lkV.eq_2, AV.byFree, AV.isMp, t1, t5, t6, t12, t13, t14, h11, hlt', hlt, hge, hk, hb', List.length_map, Int.toNat_natCast] | refine calling (cm) ?_ | refine callingH (cm) ?_ | refine And.intro (by omega) ?_ | refine And.intro (fun d hd => by (repeat (rcases hd with rfl | hd; · exact ⟨rfl, rfl⟩)); cases hd) ?_))
      have hb' : ¬ x.began ≤ lastB (l.take i).reverse := by omega
      have hlc : lastC (l.take i).reverse x = befB z x := by unfold lastC; rw [hf]; rfl
      rw [decide_eq_true hb, hlc, Bool.true_and, ← tk] at hR
      cases hbf : befB z x with
      | false =>
        rw [hbf, Bool.false_and] at hR
        subst hR
        rw [hbf] at cb
        (repeat (first | simp (maxSteps := 4000000) only [go_sem, ↓reduceIte, reduceCtorEq, Nat.reduceEqDiff, Nat.reduceBEq, Nat.reduceAdd, Nat.reduceSub, Nat.reduceMul, Nat.reduceLT, Nat.reduceLeDiff, Nat.reduceBNe, Int.reduceBEq, Int.reduceBNe, Int.reduceLT, Int.reduceLE, Par.a, Opr.a, Ans.a, nul, evM, entOk.eq_1, entOk.eq_2, ents.eq_1, ents.eq_2, kI.eq_1, mpOk.eq_1, mpR.eq_1, lkV.eq_1, lkV.eq_2, AV.byFree, AV.isMp, t1, t5, t6, t12, t13, t14, h11, hlt', hlt, hge, hk, hb', hw, List.length_map, Int.toNat_natCast] | refine calling (cm) ?_ | refine callingH (cm) ?_ | refine calling (cb) ?_ | refine callingH (cb) ?_ | refine And.intro (by omega) ?_ | refine And.intro (fun d hd => by (repeat (rcases hd with rfl | hd; · exact ⟨rfl, rfl⟩)); cases hd) ?_))
      | true =>
        rw [hbf, Bool.true_and] at hR
        rw [hbf] at cb
        (repeat (first | simp (maxSteps := 4000000) only [go_sem, ↓reduceIte, reduceCtorEq, Nat.reduceEqDiff, Nat.reduceBEq, Nat.reduceAdd, Nat.reduceSub, Nat.reduceMul, Nat.reduceLT, Nat.reduceLeDiff, Nat.reduceBNe, Int.reduceBEq, Int.reduceBNe, Int.reduceLT, Int.reduceLE, Par.a, Opr.a, Ans.a, nul, evM, entOk.eq_1, entOk.eq_2, ents.eq_1, ents.eq_2, kI.eq_1, mpOk.eq_1, mpR.eq_1, lkV.eq_1, lkV.eq_2, AV.byFree, AV.isMp, t1, t5, t6, t12, t13, t14, h11, hlt', hlt, hge, hk, hb', hw, List.length_map, Int.toNat_natCast] | refine calling (cm) ?_ | refine callingH (cm) ?_ | refine calling (cb) ?_ | refine callingH (cb) ?_ | refine And.intro (by omega) ?_ | refine And.intro (fun d hd => by (repeat (rcases hd with rfl | hd; · exact ⟨rfl, rfl⟩)); cases hd) ?_))
        refine ⟨l.length - (i + 1), by omega, i + 1, upk es x.client x.a, by omega, rfl, by rw [tk]; exact LastM.add hM x, hR, ?_, ?_, ?_, ?_, ?_, ?_, ?_⟩
        · simp (maxSteps := 4000000) only [go_sem, ↓reduceIte, reduceCtorEq, Nat.reduceEqDiff, Nat.reduceBEq, Nat.reduceAdd, Nat.reduceSub, Nat.reduceMul, Nat.reduceLT, Nat.reduceLeDiff, Nat.reduceBNe, Int.reduceBEq, Int.reduceBNe, Int.reduceLT, Int.reduceLE, Par.a, Opr.a, Ans.a, nul, evM, entOk.eq_1, entOk.eq_2, ents.eq_1, ents.eq_2, kI.eq_1, mpOk.eq_1, mpR.eq_1, lkV.eq_1, lkV.eq_2, AV.byFree, AV.isMp, t1]
        · (simp (maxSteps := 4000000) only [go_sem, ↓reduceIte, reduceCtorEq, Nat.reduceEqDiff, Nat.reduceBEq, Nat.reduceAdd, Nat.reduceSub, Nat.reduceMul, Nat.reduceLT, Nat.reduceLeDiff, Nat.reduceBNe, Int.reduceBEq, Int.reduceBNe, Int.reduceLT, Int.reduceLE, Par.a, Opr.a, Ans.a, nul, evM, entOk.eq_1, entOk.eq_2, ents.eq_1, ents.eq_2, kI.eq_1, mpOk.eq_1, mpR.eq_1, lkV.eq_1, lkV.eq_2, AV.byFree, AV.isMp, t5]) <;> rfl
        · rw [tk]
          (simp (maxSteps := 4000000) only [go_sem, ↓reduceIte, reduceCtorEq, Nat.reduceEqDiff, Nat.reduceBEq, Nat.reduceAdd, Nat.reduceSub, Nat.reduceMul, Nat.reduceLT, Nat.reduceLeDiff, Nat.reduceBNe, Int.reduceBEq, Int.reduceBNe, Int.reduceLT, Int.reduceLE, Par.a, Opr.a, Ans.a, nul, evM, entOk.eq_1, entOk.eq_2, ents.eq_1, ents.eq_2, kI.eq_1, mpOk.eq_1, mpR.eq_1, lkV.eq_1, lkV.eq_2, AV.byFree, AV.isMp]) <;> rfl
        · simp (maxSteps := 4000000) only [go_sem, ↓reduceIte, reduceCtorEq, Nat.reduceEqDiff, Nat.reduceBEq, Nat.reduceAdd, Nat.reduceSub, Nat.reduceMul, Nat.reduceLT, Nat.reduceLeDiff, Nat.reduceBNe, Int.reduceBEq, Int.reduceBNe, Int.reduceLT, Int.reduceLE, Par.a, Opr.a, Ans.a, nul, evM, entOk.eq_1, entOk.eq_2, ents.eq_1, ents.eq_2, kI.eq_1, mpOk.eq_1, mpR.eq_1, lkV.eq_1, lkV.eq_2, AV.byFree, AV.isMp, t12]
        · simp (maxSteps := 4000000) only [go_sem, ↓reduceIte, reduceCtorEq, Nat.reduceEqDiff, Nat.reduceBEq, Nat.reduceAdd, Nat.reduceSub, Nat.reduceMul, Nat.reduceLT, Nat.reduceLeDiff, Nat.reduceBNe, Int.reduceBEq, Int.reduceBNe, Int.reduceLT, Int.reduceLE, Par.a, Opr.a, Ans.a, nul, evM, entOk.eq_1, entOk.eq_2, ents.eq_1, ents.eq_2, kI.eq_1, mpOk.eq_1, mpR.eq_1, lkV.eq_1, lkV.eq_2, AV.byFree, AV.isMp, t13]
        · simp (maxSteps := 4000000) only [go_sem, ↓reduceIte, reduceCtorEq, Nat.reduceEqDiff, Nat.reduceBEq, Nat.reduceAdd, Nat.reduceSub, Nat.reduceMul, Nat.reduceLT, Nat.reduceLeDiff, Nat.reduceBNe, Int.reduceBEq, Int.reduceBNe, Int.reduceLT, Int.reduceLE, Par.a, Opr.a, Ans.a, nul, evM, entOk.eq_1, entOk.eq_2, ents.eq_1, ents.eq_2, kI.eq_1, mpOk.eq_1, mpR.eq_1, lkV.eq_1, lkV.eq_2, AV.byFree, AV.isMp]
        · simp (maxSteps := 4000000) only [go_sem, ↓reduceIte, reduceCtorEq, Nat.reduceEqDiff, Nat.reduceBEq, Nat.reduceAdd, Nat.reduceSub, Nat.reduceMul, Nat.reduceLT, Nat.reduceLeDiff, Nat.reduceBNe, Int.reduceBEq, Int.reduceBNe, Int.reduceLT, Int.reduceLE, Par.a, Opr.a, Ans.a, nul, evM, entOk.eq_1, entOk.eq_2, ents.eq_1, ents.eq_2, kI.eq_1, mpOk.eq_1, mpR.eq_1, lkV.eq_1, lkV.eq_2, AV.byFree, AV.isMp, h11]
end
section
/-
  Stable sorting by a whole number: the plain law.
-/
open Go.RowKit
set_option linter.unusedVariables false
set_option linter.unusedSimpArgs false
/-! ### Lists that rise, and stable rearrangements -/
section
variable {α : Type} (key : α → Int)
def Rise : List α → Prop
  | [] => True
  | x :: l => (∀ y, y ∈ l → key x ≤ key y) ∧ Rise l
/-- the same things of each number, in the same order -/
def Stab (X R : List α) : Prop := ∀ k : Int, R.filter (fun x => key x == k) = X.filter (fun x => key x == k)
theorem Stab.refl (X : List α) : Stab key X X := fun _ => rfl
theorem Stab.trans {key : α → Int} {X Y Z : List α} (h : Stab key X Y) (g : Stab key Y Z) : Stab key X Z := fun k => (g k).trans (h k)
theorem Stab.app {key : α → Int} {X X' Y Y' : List α} (h : Stab key X X') (g : Stab key Y Y') : Stab key (X ++ Y) (X' ++ Y') := fun k => by
  rw [List.filter_append, List.filter_append, h k, g k]
theorem Stab.mem {key : α → Int} {X R : List α} (h : Stab key X R) {x : α} : x ∈ R ↔ x ∈ X := by
  have e := h (key x)
  have f : ∀ Y : List α, x ∈ Y ↔ x ∈ Y.filter (fun y => key y == key x) := fun Y => by
    rw [List.mem_filter]; simp
  rw [f R, f X, e]
theorem Rise.app {key : α → Int} : ∀ {X Y : List α}, Rise key X → Rise key Y → (∀ x, x ∈ X → ∀ y, y ∈ Y → key x ≤ key y) → Rise key (X ++ Y)
  | [], Y, _, hY, _ => hY
  | x :: X, Y, hX, hY, h => by
    refine ⟨fun y hy => ?_, Rise.app hX.2 hY fun z hz => h z (List.mem_cons_of_mem _ hz)⟩
    rcases List.mem_append.1 hy with q | q
    · exact hX.1 y q
    · exact h x (List.mem_cons_self ..) y q
theorem Rise.left {key : α → Int} : ∀ {X Y : List α}, Rise key (X ++ Y) → Rise key X
  | [], Y, _ => trivial
  | x :: X, Y, h => ⟨fun y hy => h.1 y (List.mem_append.2 (.inl hy)), Rise.left h.2⟩
theorem Rise.right {key : α → Int} : ∀ {X Y : List α}, Rise key (X ++ Y) → Rise key Y
  | [], Y, h => h
  | x :: X, Y, h => Rise.right (X := X) h.2
theorem Rise.cross {key : α → Int} : ∀ {X Y : List α}, Rise key (X ++ Y) → ∀ x, x ∈ X → ∀ y, y ∈ Y → key x ≤ key y
  | z :: X, Y, h, x, hx, y, hy => by
    rcases List.mem_cons.1 hx with e | e
    · rw [e]; exact h.1 y (List.mem_append.2 (.inr hy))
    · exact Rise.cross (X := X) h.2 x e y hy
/-- two parts change places, if nothing of the one is as great as something of the other -/
theorem Stab.swap {key : α → Int} {A B : List α} (h : ∀ x, x ∈ A → ∀ y, y ∈ B → key y < key x) : Stab key (A ++ B) (B ++ A) := fun k => by
  rw [List.filter_append, List.filter_append]
  by_cases hA : ∃ x, x ∈ A ∧ key x = k
  · obtain ⟨x, hx, hk⟩ := hA
    have : B.filter (fun z => key z == k) = [] := by
      rw [List.filter_eq_nil_iff]
      intro y hy e
      have := h x hx y hy
      simp at e; omega
    rw [this, List.append_nil, List.nil_append]
  · have : A.filter (fun z => key z == k) = [] := by
      rw [List.filter_eq_nil_iff]
      intro x hx e
      exact hA ⟨x, hx, by simpa using e⟩
    rw [this, List.append_nil, List.nil_append]
/-- a rising stable rearrangement is the only one -/
theorem rise_unique {key : α → Int} : ∀ {X Y : List α}, Rise key X → Rise key Y → Stab key X Y → X = Y
  | [], [], _, _, _ => rfl
  | [], y :: Y, _, _, h => by
    have := (Stab.mem h (x := y)).1 (List.mem_cons_self ..)
    cases this
  | x :: X, [], _, _, h => by
    have := (Stab.mem h (x := x)).2 (List.mem_cons_self ..)
    cases this
  | x :: X, y :: Y, hX, hY, h => by
    have kxy : key x = key y := by
      have a : key x ≤ key y := by
        rcases List.mem_cons.1 ((Stab.mem h (x := y)).1 (List.mem_cons_self ..)) with e | e
        · rw [e]; exact Int.le_refl _
        · exact hX.1 y e
      have b : key y ≤ key x := by
        rcases List.mem_cons.1 ((Stab.mem h (x := x)).2 (List.mem_cons_self ..)) with e | e
        · rw [e]; exact Int.le_refl _
        · exact hY.1 x e
      omega
    have e := h (key x)
    rw [List.filter_cons_of_pos (by simp [kxy]), List.filter_cons_of_pos (by simp)] at e
    have exy : y = x := (List.cons.inj e).1
    subst exy
    rw [rise_unique hX.2 hY.2 fun k => ?_]
    have e := h k
    rw [List.filter_cons, List.filter_cons] at e
    by_cases hk : (key y == k) = true
    · rw [if_pos hk, if_pos hk] at e
      exact (List.cons.inj e).2
    · rw [if_neg hk, if_neg hk] at e
      exact e
/-- one put in behind all that are not greater -/
def putK (x : α) : List α → List α
  | [] => [x]
  | y :: l => if key y ≤ key x then y :: putK x l else x :: y :: l
def sortK : List α → List α → List α
  | acc, [] => acc
  | acc, x :: l => sortK (putK key x acc) l
theorem putK_mem {x y : α} : ∀ {l : List α}, y ∈ putK key x l ↔ y = x ∨ y ∈ l
  | [] => by simp [putK]
  | z :: l => by
    rw [putK]
    split
    · rw [List.mem_cons, putK_mem, List.mem_cons]
      constructor
      · rintro (h | h | h)
        · exact .inr (.inl h)
        · exact .inl h
        · exact .inr (.inr h)
      · rintro (h | h | h)
        · exact .inr (.inl h)
        · exact .inl h
        · exact .inr (.inr h)
    · rw [List.mem_cons]
theorem putK_rise {x : α} : ∀ {l : List α}, Rise key l → Rise key (putK key x l)
  | [], _ => ⟨fun y hy => (by cases hy), trivial⟩
  | z :: l, h => by
    rw [putK]
    by_cases hz : key z ≤ key x
    · rw [if_pos hz]
      refine ⟨fun y hy => ?_, putK_rise h.2⟩
      rcases (putK_mem key).1 hy with e | e
      · rw [e]; exact hz
      · exact h.1 y e
    · rw [if_neg hz]
      refine ⟨fun y hy => ?_, h⟩
      rcases List.mem_cons.1 hy with e | e
      · rw [e]; omega
      · have := h.1 y e; omega
theorem putK_stab {x : α} : ∀ {l : List α}, Rise key l → Stab key (l ++ [x]) (putK key x l)
  | [], _ => Stab.refl key _
  | z :: l, h => by
    rw [putK]
    by_cases hz : key z ≤ key x
    · rw [if_pos hz]
      exact Stab.app (X := [z]) (X' := [z]) (Stab.refl key _) (putK_stab h.2)
    · rw [if_neg hz]
      refine Stab.swap (A := z :: l) (B := [x]) fun y hy w hw => ?_
      rw [List.mem_singleton.1 hw]
      rcases List.mem_cons.1 hy with e | e
      · rw [e]; omega
      · have := h.1 y e; omega
theorem sortK_ok : ∀ {l acc : List α}, Rise key acc → Rise key (sortK key acc l) ∧ Stab key (acc ++ l) (sortK key acc l)
  | [], acc, h => ⟨h, by rw [List.append_nil]; exact Stab.refl key _⟩
  | x :: l, acc, h => by
    obtain ⟨a, b⟩ := sortK_ok (l := l) (putK_rise key (x := x) h)
    refine ⟨a, Stab.trans ?_ b⟩
    have := Stab.app (putK_stab key (x := x) h) (Stab.refl key l)
    rw [List.append_assoc] at this
    exact this
/-- the rearrangement that rises -/
def srt (l : List α) : List α := sortK key [] l
theorem srt_rise (l : List α) : Rise key (srt key l) := (sortK_ok key (l := l) (acc := []) trivial).1
theorem srt_stab (l : List α) : Stab key l (srt key l) := (sortK_ok key (l := l) (acc := []) trivial).2
theorem srt_of {l r : List α} (h1 : Rise key r) (h2 : Stab key l r) : r = srt key l :=
  rise_unique h1 (srt_rise key l) fun k => (srt_stab key l k).trans (h2 k).symm
end
end
section
/-
  Stable merging by halves: the plain law.
-/
open Go.RowKit
set_option linter.unusedVariables false
set_option linter.unusedSimpArgs false
section
variable {α : Type} (key : α → Int)
theorem srt_self {X : List α} (h : Rise key X) : srt key X = X := (srt_of key h (Stab.refl key X)).symm
theorem Stab.symm {key : α → Int} {X Y : List α} (h : Stab key X Y) : Stab key Y X := fun k => (h k).symm
theorem srt_congr {X Y : List α} (h : Stab key X Y) : srt key X = srt key Y := (srt_of key (srt_rise key X) (Stab.trans (Stab.symm h) (srt_stab key X)))
theorem srt_length (X : List α) : (srt key X).length = X.length := by
  have go : ∀ (l acc : List α), (sortK key acc l).length = acc.length + l.length := by
    intro l
    induction l with
    | nil => intro acc; rfl
    | cons x l ih =>
      intro acc
      have hp : ∀ r : List α, (putK key x r).length = r.length + 1 := by
        intro r
        induction r with
        | nil => rfl
        | cons y r ihr =>
          rw [putK]
          split
          · rw [List.length_cons, ihr, List.length_cons]
          · rfl
      rw [sortK, ih, hp, List.length_cons]; omega
  have := go X []
  simpa [srt] using this
/-- one ahead of a rising list goes to its place -/
theorem merge_one_left {x : α} {B1 B2 : List α} (h : Rise key (B1 ++ B2)) (h1 : ∀ y, y ∈ B1 → key y < key x) (h2 : ∀ y, y ∈ B2 → key x ≤ key y) : B1 ++ [x] ++ B2 = srt key ([x] ++ (B1 ++ B2)) := by
  refine srt_of key ?_ ?_
  · rw [List.append_assoc]
    refine Rise.app (Rise.left h) ⟨fun y hy => h2 y (by simpa using hy), Rise.right h⟩ fun a ha b hb => ?_
    rcases List.mem_append.1 hb with q | q
    · rw [List.mem_singleton.1 q]; exact Int.le_of_lt (h1 a ha)
    · exact Rise.cross h a ha b q
  · rw [← List.append_assoc]
    refine Stab.app (Stab.swap (A := [x]) (B := B1) fun a ha b hb => ?_) (Stab.refl key _)
    rw [List.mem_singleton.1 ha]; exact h1 b hb
/-- one behind a rising list goes to its place -/
theorem merge_one_right {y : α} {A1 A2 : List α} (h : Rise key (A1 ++ A2)) (h1 : ∀ a, a ∈ A1 → key a ≤ key y) (h2 : ∀ a, a ∈ A2 → key y < key a) : A1 ++ [y] ++ A2 = srt key (A1 ++ A2 ++ [y]) := by
  refine srt_of key ?_ ?_
  · rw [List.append_assoc]
    refine Rise.app (Rise.left h) ⟨fun z hz => Int.le_of_lt (h2 z (by simpa using hz)), Rise.right h⟩ fun a ha b hb => ?_
    rcases List.mem_append.1 hb with q | q
    · rw [List.mem_singleton.1 q]; exact h1 a ha
    · exact Rise.cross h a ha b q
  · rw [List.append_assoc, List.append_assoc]
    refine Stab.app (Stab.refl key _) (Stab.swap (A := A2) (B := [y]) fun a ha b hb => ?_)
    rw [List.mem_singleton.1 hb]; exact h2 a ha
/-- two rising lists, cut so that the hinder part of the first and the front of the second change places -/
theorem merge_halves {A1 A2 B1 B2 : List α} (hA : Rise key (A1 ++ A2)) (hB : Rise key (B1 ++ B2)) (h1 : ∀ a, a ∈ A1 → ∀ b, b ∈ B2 → key a ≤ key b) (h2 : ∀ a, a ∈ A2 → ∀ b, b ∈ B1 → key b < key a) :
    srt key (A1 ++ B1) ++ srt key (A2 ++ B2) = srt key ((A1 ++ A2) ++ (B1 ++ B2)) := by
  refine srt_of key (Rise.app (srt_rise key _) (srt_rise key _) fun x hx y hy => ?_) ?_
  · have hx' := (Stab.mem (srt_stab key (A1 ++ B1))).1 hx
    have hy' := (Stab.mem (srt_stab key (A2 ++ B2))).1 hy
    rcases List.mem_append.1 hx' with p | p <;> rcases List.mem_append.1 hy' with q | q
    · exact Rise.cross hA x p y q
    · exact h1 x p y q
    · exact Int.le_of_lt (h2 y q x p)
    · exact Rise.cross hB x p y q
  · have e : (A1 ++ A2) ++ (B1 ++ B2) = A1 ++ ((A2 ++ B1) ++ B2) := by simp
    have g : (A1 ++ B1) ++ (A2 ++ B2) = A1 ++ ((B1 ++ A2) ++ B2) := by simp
    rw [e]
    refine Stab.trans (Y := (A1 ++ B1) ++ (A2 ++ B2)) ?_ (Stab.app (srt_stab key _) (srt_stab key _))
    rw [g]
    exact Stab.app (Stab.refl key _) (Stab.app (Stab.swap h2) (Stab.refl key _))
/-- two lists, each put in order, and then together -/
theorem srt_both (X Y : List α) : srt key (srt key X ++ srt key Y) = srt key (X ++ Y) :=
  (srt_congr key (Stab.app (srt_stab key X) (srt_stab key Y))).symm
/-- blocks of one length, each in order -/
def blk (s : Nat) : Nat → List α → List α
  | 0, X => X
  | f + 1, X => match X with
    | [] => []
    | x :: l => srt key ((x :: l).take s) ++ blk s f ((x :: l).drop s)
theorem blk_all {s : Nat} {X : List α} (h : X.length ≤ s) : ∀ f, 0 < f → blk key s f X = srt key X
  | f + 1, _ => by
    cases X with
    | nil => rfl
    | cons x l =>
      show srt key ((x :: l).take s) ++ blk key s f ((x :: l).drop s) = _
      rw [List.take_of_length_le h, List.drop_eq_nil_of_le h]
      cases f <;> simp [blk]
/-! ### Looking for a place by halves -/
/-- between two ends: what is false stays false ahead, what is true stays true behind -/
structure Cut (p : Nat → Prop) (lo hi s r : Nat) : Prop where
  l0 : lo ≤ s
  m0 : s ≤ r
  r0 : r ≤ hi
  no : ∀ c, lo ≤ c → c < s → ¬ p c
  yes : ∀ c, r ≤ c → c < hi → p c
theorem Cut.start (p : Nat → Prop) {lo hi : Nat} (h : lo ≤ hi) : Cut p lo hi lo hi := ⟨Nat.le_refl _, h, Nat.le_refl _, fun c a b => absurd a (by omega), fun c a b => absurd a (by omega)⟩
theorem Cut.up {p : Nat → Prop} {lo hi s r c : Nat} (h : Cut p lo hi s r) (h1 : s ≤ c) (h2 : c < r) (mono : ∀ x y, lo ≤ x → x ≤ y → y < hi → p x → p y) (hc : ¬ p c) : Cut p lo hi (c + 1) r :=
  ⟨by have := h.l0; omega, by omega, h.r0, fun x a b hx => hc (mono x c a (by omega) (by have := h.r0; omega) hx), h.yes⟩
theorem Cut.down {p : Nat → Prop} {lo hi s r c : Nat} (h : Cut p lo hi s r) (h1 : s ≤ c) (h2 : c < r) (mono : ∀ x y, lo ≤ x → x ≤ y → y < hi → p x → p y) (hc : p c) : Cut p lo hi s c :=
  ⟨h.l0, h1, by have := h.r0; omega, h.no, fun x a b => mono c x (by have := h.l0; omega) a b hc⟩
end
end
section
/-
  The least one first, again and again, is the stable order: the plain law.
-/
open Go.RowKit
set_option linter.unusedVariables false
set_option linter.unusedSimpArgs false
section
variable {α : Type} (key : α → Int) (ok : α → Bool)
/-- the least one, the first of its like, comes first -/
theorem srt_min {A B : List α} {x : α} (h1 : ∀ a, a ∈ A → key x < key a) (h2 : ∀ b, b ∈ B → key x ≤ key b) : srt key (A ++ [x] ++ B) = x :: srt key (A ++ B) := by
  refine (srt_of key (l := A ++ [x] ++ B) (r := x :: srt key (A ++ B)) ⟨fun y hy => ?_, srt_rise key _⟩ ?_).symm
  · rcases List.mem_append.1 ((Stab.mem (srt_stab key (A ++ B))).1 hy) with q | q
    · exact Int.le_of_lt (h1 y q)
    · exact h2 y q
  · refine Stab.trans (Y := [x] ++ (A ++ B)) ?_ (Stab.app (X := [x]) (X' := [x]) (Stab.refl key _) (srt_stab key _))
    rw [← List.append_assoc]
    refine Stab.app (Stab.swap (A := A) (B := [x]) fun a ha b hb => ?_) (Stab.refl key _)
    rw [List.mem_singleton.1 hb]; exact h1 a ha
/-- what is left: what counts and is not marked -/
def remG : List α → List Bool → List α
  | e :: l, b :: bs => (if ok e && !b then [e] else []) ++ remG l bs
  | _, _ => []
theorem remG_none : ∀ l : List α, remG ok l (List.replicate l.length false) = l.filter ok
  | [] => rfl
  | e :: l => by
    show (if ok e && !false then [e] else []) ++ remG ok l (List.replicate l.length false) = _
    rw [remG_none l, List.filter_cons]
    cases ok e <;> rfl
theorem remG_at : ∀ {l : List α} {bs : List Bool} {j : Nat} {e : α} {b : Bool}, l[j]? = some e → bs[j]? = some b →
    remG ok l bs = remG ok (l.take j) (bs.take j) ++ (if ok e && !b then [e] else []) ++ remG ok (l.drop (j + 1)) (bs.drop (j + 1))
  | x :: l, c :: bs, 0, e, b, h1, h2 => by cases h1; cases h2; simp [remG]
  | x :: l, c :: bs, j + 1, e, b, h1, h2 => by
    have := remG_at (l := l) (bs := bs) (j := j) (by simpa using h1) (by simpa using h2)
    simp only [List.take_succ_cons, List.drop_succ_cons, remG]
    rw [this]; simp
theorem remG_set : ∀ {l : List α} {bs : List Bool} {j : Nat} {e : α} {b : Bool}, l[j]? = some e → bs[j]? = some b →
    remG ok l (bs.set j true) = remG ok (l.take j) (bs.take j) ++ remG ok (l.drop (j + 1)) (bs.drop (j + 1))
  | x :: l, c :: bs, 0, e, b, h1, h2 => by cases h1; cases h2; simp [remG]
  | x :: l, c :: bs, j + 1, e, b, h1, h2 => by
    have := remG_set (l := l) (bs := bs) (j := j) (by simpa using h1) (by simpa using h2)
    simp only [List.take_succ_cons, List.drop_succ_cons, remG, List.set_cons_succ]
    rw [this]; simp
/-- the first of the least among the first i -/
def Best (l : List α) (bs : List Bool) (i : Nat) (best : Int) : Prop :=
  (best = -1 ∧ remG ok (l.take i) (bs.take i) = []) ∨ ∃ (p : Nat) (x : α), best = (p : Int) ∧ p < i ∧ l[p]? = some x ∧ bs[p]? = some false ∧ ok x = true ∧
    (∀ a, a ∈ remG ok (l.take p) (bs.take p) → key x < key a) ∧ ∀ b, b ∈ remG ok ((l.take i).drop (p + 1)) ((bs.take i).drop (p + 1)) → key x ≤ key b
theorem remG_snoc : ∀ {l : List α} {bs : List Bool} {e : α} {b : Bool}, l.length = bs.length → remG ok (l ++ [e]) (bs ++ [b]) = remG ok l bs ++ (if ok e && !b then [e] else [])
  | [], [], e, b, _ => by simp [remG]
  | x :: l, c :: bs, e, b, h => by
    show (if ok x && !c then [x] else []) ++ remG ok (l ++ [e]) (bs ++ [b]) = _
    rw [remG_snoc (by simpa using h), remG, List.append_assoc]
theorem Best.skip {key : α → Int} {ok : α → Bool} {l : List α} {bs : List Bool} {i : Nat} {best : Int} {e : α} {b : Bool} (hl : l.length = bs.length) (h : Best key ok l bs i best) (he : l[i]? = some e) (hb : bs[i]? = some b)
    (hs : (ok e && !b) = false ∨ ∃ (p : Nat) (x : α), best = (p : Int) ∧ l[p]? = some x ∧ key x ≤ key e) : Best key ok l bs (i + 1) best := by
  have hil := (List.getElem?_eq_some_iff.1 he).1
  have e1 : l.take (i + 1) = l.take i ++ [e] := by rw [List.take_add_one, he]; rfl
  have e2 : bs.take (i + 1) = bs.take i ++ [b] := by rw [List.take_add_one, hb]; rfl
  rcases h with ⟨h1, h2⟩ | ⟨p, x, h1, h2, h3, h4, h5, h6, h7⟩
  · rcases hs with hs | ⟨p, x, g1, _⟩
    · refine .inl ⟨h1, ?_⟩
      rw [e1, e2, remG_snoc ok (by rw [List.length_take, List.length_take, hl]), h2, hs]; rfl
    · omega
  · refine .inr ⟨p, x, h1, by omega, h3, h4, h5, h6, fun z hz => ?_⟩
    rw [e1, e2, List.drop_append_of_le_length (by rw [List.length_take]; omega), List.drop_append_of_le_length (by rw [List.length_take]; omega), remG_snoc ok (by rw [List.length_drop, List.length_drop, List.length_take, List.length_take, hl])] at hz
    rcases List.mem_append.1 hz with q | q
    · exact h7 z q
    · rcases hs with hs | ⟨p', x', g1, g2, g3⟩
      · rw [hs] at q; cases q
      · have : p' = p := by omega
        subst this
        rw [h3] at g2; cases g2
        split at q
        · rw [List.mem_singleton.1 q]; exact g3
        · cases q
theorem Best.take {key : α → Int} {ok : α → Bool} {l : List α} {bs : List Bool} {i : Nat} {best : Int} {e : α} (hl : l.length = bs.length) (h : Best key ok l bs i best) (he : l[i]? = some e) (hb : bs[i]? = some false) (ho : ok e = true)
    (hs : best = -1 ∨ ∃ (p : Nat) (x : α), best = (p : Int) ∧ l[p]? = some x ∧ key e < key x) : Best key ok l bs (i + 1) (i : Int) := by
  have hil := (List.getElem?_eq_some_iff.1 he).1
  refine .inr ⟨i, e, rfl, by omega, he, hb, ho, fun a ha => ?_, fun b hb' => ?_⟩
  · rcases h with ⟨h1, h2⟩ | ⟨p, x, h1, h2, h3, h4, h5, h6, h7⟩
    · rw [h2] at ha; cases ha
    · rcases hs with hs | ⟨p', x', g1, g2, g3⟩
      · omega
      · have : p' = p := by omega
        subst this
        rw [h3] at g2; cases g2
        have hp : (l.take i)[p']? = some x := by rw [List.getElem?_take, if_pos h2]; exact h3
        have hq : (bs.take i)[p']? = some false := by rw [List.getElem?_take, if_pos h2]; exact h4
        rw [remG_at ok hp hq, List.take_take, List.take_take, Nat.min_eq_left (by omega)] at ha
        rcases List.mem_append.1 ha with q | q
        · rcases List.mem_append.1 q with q | q
          · have := h6 a q; omega
          · rw [h5] at q
            rw [List.mem_singleton.1 q]; exact g3
        · have := h7 a q; omega
  · rw [List.drop_eq_nil_of_le (by rw [List.length_take]; omega)] at hb'
    cases hb'
/-- when all are looked at: there is none, or the first of the least goes -/
theorem Best.done {key : α → Int} {ok : α → Bool} {l : List α} {bs : List Bool} {best : Int} (hl : l.length = bs.length) (h : Best key ok l bs l.length best) :
    (best = -1 ∧ srt key (remG ok l bs) = []) ∨ ∃ (p : Nat) (x : α), best = (p : Int) ∧ p < l.length ∧ l[p]? = some x ∧ bs[p]? = some false ∧ srt key (remG ok l bs) = x :: srt key (remG ok l (bs.set p true)) := by
  rcases h with ⟨h1, h2⟩ | ⟨p, x, h1, h2, h3, h4, h5, h6, h7⟩
  · rw [List.take_of_length_le (Nat.le_refl _), List.take_of_length_le (by omega)] at h2
    exact .inl ⟨h1, by rw [h2]; rfl⟩
  · rw [List.take_of_length_le (Nat.le_refl _), List.take_of_length_le (by omega)] at h7
    refine .inr ⟨p, x, h1, h2, h3, h4, ?_⟩
    rw [remG_at ok h3 h4, remG_set ok h3 h4, h5]
    exact srt_min key h6 h7
end
end
section
/-
  Histories: what is done, by its points, by the document: walked.
-/
open Go.RowKit
set_option linter.unusedVariables false
set_option linter.unusedSimpArgs false
set_option maxRecDepth 100000
attribute [local go_sem ↓] runOp headOp
/-! ### percolate/percolateref38.Points -/
def r_rPts_0 : Reg := ⟨[], [⟨(.mknil 15 32), (some 2), none, [], []⟩], [2], [], false⟩
def r_rPts_1 : Reg := ⟨[], [⟨(.mknil 15 32), (some 3), none, [], []⟩], [3], [], false⟩
def t_rPts_2 : List ROp := [⟨(.mv (.t 0)), (some 7), none, [9], []⟩, ⟨(.len false (.t 7)), (some 8), none, [9], []⟩, ⟨(.call 2 [(.c (.int .i64 1)), (.c (.int .i64 1)), (.c (.int .i64 4)), (.c (.bool false)), (.t 8)]), (some 9), none, [], []⟩, ⟨(.mv (.t 9)), (some 4), none, [], []⟩]
def r_rPts_2 : Reg := ⟨[], t_rPts_2, [9], [], false⟩
def r_rPts_3 : Reg := ⟨[], [⟨(.mv (.c (.int .i64 (-1)))), (some 5), none, [], []⟩], [], [], false⟩
def r_rPts_4 : Reg := ⟨[], [⟨(.mv (.c (.int .i64 0))), (some 6), none, [], []⟩], [], [], false⟩
def t_rPts_5 : List ROp := [⟨(.mv (.t 6)), (some 10), none, [], []⟩, ⟨(.mv (.t 0)), (some 11), none, [], []⟩, ⟨(.len false (.t 11)), (some 12), none, [], []⟩, ⟨(.bin .lss (.t 10) (.t 12)), (some 13), none, [], []⟩]
def r_rPts_5 : Reg := ⟨[], t_rPts_5, [], [], false⟩
def t_rPts_6 : List ROp := [⟨(.bin .lss (.t 36) (.t 41)), (some 42), (some (31, false)), [], []⟩, ⟨(.pick (.t 31) (.c (.bool true)) (.t 42)), (some 43), (some (28, true)), [], []⟩, ⟨(.pick (.t 28) (.t 43) (.c (.bool false))), (some 44), none, [], []⟩]
def h_rPts_6 : List ROp := [⟨(.mv (.t 0)), (some 16), none, [], []⟩, ⟨(.mv (.t 6)), (some 17), none, [], []⟩, ⟨(.iaddr 15 (.t 16) (.t 17)), (some 18), none, [], []⟩, ⟨(.faddr 14 (.t 18)), (some 19), none, [], []⟩, ⟨(.load 1 false (.t 19)), (some 20), none, [], []⟩, ⟨(.mv (.t 20)), (some 21), none, [], []⟩, ⟨(.mv (.t 4)), (some 22), (some (21, true)), [], []⟩, ⟨(.mv (.t 6)), (some 23), (some (21, true)), [], []⟩, ⟨(.iaddr 1 (.t 22) (.t 23)), (some 24), (some (21, true)), [], []⟩, ⟨(.load 1 false (.t 24)), (some 25), (some (21, true)), [], []⟩, ⟨(.un .not (.t 25)), (some 26), (some (21, true)), [], []⟩, ⟨(.pick (.t 21) (.t 26) (.c (.bool false))), (some 27), none, [], []⟩, ⟨(.mv (.t 27)), (some 28), none, [], []⟩, ⟨(.mv (.t 5)), (some 29), (some (28, true)), [], []⟩, ⟨(.bin .lss (.t 29) (.c (.int .i64 0))), (some 30), (some (28, true)), [], []⟩, ⟨(.mv (.t 30)), (some 31), (some (28, true)), [], []⟩, ⟨(.mv (.t 0)), (some 32), (some (31, false)), [], []⟩, ⟨(.mv (.t 6)), (some 33), (some (31, false)), [], []⟩, ⟨(.iaddr 15 (.t 32) (.t 33)), (some 34), (some (31, false)), [], []⟩, ⟨(.faddr 12 (.t 34)), (some 35), (some (31, false)), [], []⟩, ⟨(.load 1 false (.t 35)), (some 36), (some (31, false)), [], []⟩, ⟨(.mv (.t 0)), (some 37), (some (31, false)), [], []⟩, ⟨(.mv (.t 5)), (some 38), (some (31, false)), [], []⟩, ⟨(.iaddr 15 (.t 37) (.t 38)), (some 39), (some (31, false)), [], []⟩, ⟨(.faddr 12 (.t 39)), (some 40), (some (31, false)), [], []⟩, ⟨(.load 1 false (.t 40)), (some 41), (some (31, false)), [], []⟩]
def r_rPts_6 : Reg := ⟨h_rPts_6, t_rPts_6, [], [], true⟩
def r_rPts_7 : Reg := ⟨[], [⟨(.mv (.t 6)), (some 45), none, [], []⟩, ⟨(.mv (.t 45)), (some 5), none, [], []⟩], [], [], false⟩
def t_rPts_8 : List ROp := [⟨(.mv (.t 6)), (some 14), none, [], []⟩, ⟨(.bin .add (.t 14) (.c (.int .i64 1))), (some 15), none, [], []⟩, ⟨(.mv (.t 15)), (some 6), none, [], []⟩]
def r_rPts_8 : Reg := ⟨[], t_rPts_8, [], [], false⟩
def r_rPts_l9 : IR := (.seq (.seq (.reg r_rPts_5)
  (.cond (.t 13) .skip
  (.exit 2)))
  (.seq (.block 3 (.seq (.reg r_rPts_6)
  (.cond (.t 44) (.reg r_rPts_7)
  .skip)))
  (.reg r_rPts_8)))
def r_rPts_10 : Reg := ⟨[], [⟨(.mv (.t 5)), (some 46), none, [], []⟩, ⟨(.bin .lss (.t 46) (.c (.int .i64 0))), (some 47), none, [], []⟩], [], [], false⟩
def r_rPts_11 : Reg := ⟨[], [⟨(.mv (.t 3)), (some 48), none, [], []⟩, ⟨(.mv (.t 48)), (some 2), none, [], []⟩], [], [], false⟩
def t_rPts_12 : List ROp := [⟨(.mv (.t 4)), (some 49), none, [], []⟩, ⟨(.mv (.t 5)), (some 50), none, [], []⟩, ⟨(.iaddr 1 (.t 49) (.t 50)), (some 51), none, [], []⟩, ⟨(.store 1 (.t 51) (.c (.bool true))), none, none, [], []⟩]
def r_rPts_12 : Reg := ⟨[], t_rPts_12, [], [], false⟩
def t_rPts_13 : List ROp := [⟨(.mv (.t 3)), (some 52), none, [57], []⟩, ⟨(.mv (.t 0)), (some 53), none, [57], []⟩, ⟨(.mv (.t 5)), (some 54), none, [57], []⟩, ⟨(.iaddr 15 (.t 53) (.t 54)), (some 55), none, [57], []⟩, ⟨(.load 15 true (.t 55)), (some 56), none, [57], []⟩, ⟨(.bsl 15 32 [(.t 56)]), (some 57), none, [], []⟩, ⟨(.append 15 32 168 (.t 52) (.t 57)), (some 58), none, [], []⟩, ⟨(.mv (.t 58)), (some 3), none, [], []⟩]
def r_rPts_13 : Reg := ⟨[], t_rPts_13, [57], [], false⟩
def r_rPts_l14 : IR := (.block 1 (.seq (.reg r_rPts_3)
  (.seq (.seq (.reg r_rPts_4)
  (.block 2 (.loop r_rPts_l9)))
  (.seq (.seq (.reg r_rPts_10)
  (.cond (.t 47) (.seq (.reg r_rPts_11)
  .ret)
  .skip))
  (.seq (.reg r_rPts_12)
  (.reg r_rPts_13))))))
def ir_rPts : IR := (.seq (.reg r_rPts_0)
  (.seq (.reg r_rPts_1)
  (.seq (.reg r_rPts_2)
  (.block 0 (.loop r_rPts_l14)))))
def res_rPts : List RDesc := [(.tmp 2)]
theorem e_rPts_0 (C : FuncId → List AV → AV → Prop) (σ : St) (K : St → Prop) : runReg C r_rPts_0 σ K = runOps C [⟨(.mknil 15 32), (some 2), none, [], []⟩] (σ.kills [2]) K := rfl
theorem e_rPts_1 (C : FuncId → List AV → AV → Prop) (σ : St) (K : St → Prop) : runReg C r_rPts_1 σ K = runOps C [⟨(.mknil 15 32), (some 3), none, [], []⟩] (σ.kills [3]) K := rfl
theorem e_rPts_2 (C : FuncId → List AV → AV → Prop) (σ : St) (K : St → Prop) : runReg C r_rPts_2 σ K = runOps C t_rPts_2 (σ.kills [9]) K := rfl
theorem e_rPts_3 (C : FuncId → List AV → AV → Prop) (σ : St) (K : St → Prop) : runReg C r_rPts_3 σ K = runOps C [⟨(.mv (.c (.int .i64 (-1)))), (some 5), none, [], []⟩] (σ.kills []) K := rfl
theorem e_rPts_4 (C : FuncId → List AV → AV → Prop) (σ : St) (K : St → Prop) : runReg C r_rPts_4 σ K = runOps C [⟨(.mv (.c (.int .i64 0))), (some 6), none, [], []⟩] (σ.kills []) K := rfl
theorem e_rPts_5 (C : FuncId → List AV → AV → Prop) (σ : St) (K : St → Prop) : runReg C r_rPts_5 σ K = runOps C t_rPts_5 (σ.kills []) K := rfl
theorem e_rPts_6 (C : FuncId → List AV → AV → Prop) (σ : St) (K : St → Prop) : runReg C r_rPts_6 σ K = runHead C [] t_rPts_6 h_rPts_6 (σ.kills []) K := rfl
theorem e_rPts_7 (C : FuncId → List AV → AV → Prop) (σ : St) (K : St → Prop) : runReg C r_rPts_7 σ K = runOps C [⟨(.mv (.t 6)), (some 45), none, [], []⟩, ⟨(.mv (.t 45)), (some 5), none, [], []⟩] (σ.kills []) K := rfl
theorem e_rPts_8 (C : FuncId → List AV → AV → Prop) (σ : St) (K : St → Prop) : runReg C r_rPts_8 σ K = runOps C t_rPts_8 (σ.kills []) K := rfl
theorem e_rPts_10 (C : FuncId → List AV → AV → Prop) (σ : St) (K : St → Prop) : runReg C r_rPts_10 σ K = runOps C [⟨(.mv (.t 5)), (some 46), none, [], []⟩, ⟨(.bin .lss (.t 46) (.c (.int .i64 0))), (some 47), none, [], []⟩] (σ.kills []) K := rfl
theorem e_rPts_11 (C : FuncId → List AV → AV → Prop) (σ : St) (K : St → Prop) : runReg C r_rPts_11 σ K = runOps C [⟨(.mv (.t 3)), (some 48), none, [], []⟩, ⟨(.mv (.t 48)), (some 2), none, [], []⟩] (σ.kills []) K := rfl
theorem e_rPts_12 (C : FuncId → List AV → AV → Prop) (σ : St) (K : St → Prop) : runReg C r_rPts_12 σ K = runOps C t_rPts_12 (σ.kills []) K := rfl
theorem e_rPts_13 (C : FuncId → List AV → AV → Prop) (σ : St) (K : St → Prop) : runReg C r_rPts_13 σ K = runOps C t_rPts_13 (σ.kills [57]) K := rfl
theorem fn_rPts {args : List AV} {r : AV} (ha : args.length.ble Try.f17.ntmps = true) (h : run (AFn Try.prog) ir_rPts (endQ res_rPts r) (initSt args)) : AFn Try.prog 17 args r :=
  AFn.of_code (pv := false) (hint := fun _ => []) (c := Try.f17.body.getD .skip) (by kernel_rfl) (by kernel_rfl) Try.func17 (by kernel_rfl) (by kernel_rfl) (by kernel_rfl) (of_decide_eq_true (by kernel_rfl)) (Nat.le_of_ble_eq_true ha) (Nat.le_of_ble_eq_true (by kernel_rfl)) (run_ok h)
attribute [local go_sem ↓] ir_rPts
attribute [local go_sem] res_rPts e_rPts_0 e_rPts_1 e_rPts_2 t_rPts_2 e_rPts_3 e_rPts_4 e_rPts_5 t_rPts_5 e_rPts_6 t_rPts_6 h_rPts_6 e_rPts_7 e_rPts_8 t_rPts_8 e_rPts_10 e_rPts_11 e_rPts_12 t_rPts_12 e_rPts_13 t_rPts_13
def ptsF (l : List Evt) : List Evt := srt Evt.point (l.filter Evt.done)
def rpO (l R : List Evt) (k : Nat) (σ : St) : Prop :=
  ∃ (inn : List Bool) (out : List Evt), inn.length = l.length ∧ out ++ srt Evt.point (remG Evt.done l inn) = R ∧ k = (srt Evt.point (remG Evt.done l inn)).length ∧ σ.T 0 = .sl (l.map Evt.a) ∧ σ.T 4 = .rs 9 0 l.length ∧ σ.H 9 = some ⟨1, 4, inn.map AV.bool, 0⟩ ∧
    σ.T 3 = .rs 3 0 out.length ∧ σ.H 3 = some ⟨15, 32, out.map Evt.a, 0⟩
def rpI (l out : List Evt) (inn : List Bool) (k : Nat) (σ : St) : Prop :=
  ∃ (i : Nat) (best : Int), i ≤ l.length ∧ k = l.length - i ∧ Best Evt.point Evt.done l inn i best ∧ σ.T 5 = .int .i64 best ∧ σ.T 6 = .int .i64 i ∧ σ.T 0 = .sl (l.map Evt.a) ∧ σ.T 4 = .rs 9 0 l.length ∧ σ.H 9 = some ⟨1, 4, inn.map AV.bool, 0⟩ ∧
    σ.T 3 = .rs 3 0 out.length ∧ σ.H 3 = some ⟨15, 32, out.map Evt.a, 0⟩
def rpEnd (l out : List Evt) (inn : List Bool) (best : Int) (σ : St) : Prop :=
  σ.T 5 = .int .i64 best ∧ σ.T 0 = .sl (l.map Evt.a) ∧ σ.T 4 = .rs 9 0 l.length ∧ σ.H 9 = some ⟨1, 4, inn.map AV.bool, 0⟩ ∧ σ.T 3 = .rs 3 0 out.length ∧ σ.H 3 = some ⟨15, 32, out.map Evt.a, 0⟩
set_option maxHeartbeats 8000000 in
theorem best_loop (l out : List Evt) (inn : List Bool) (hl : l.length ≤ 1000000) (hi0 : inn.length = l.length) (Q : XK → St → Prop)
    (hEnd : ∀ σ best, Best Evt.point Evt.done l inn l.length best → rpEnd l out inn best σ → Q (.exit 2) σ) (k : Nat) (σ : St) (hI : rpI l out inn k σ) :
    run (AFn Try.prog) r_rPts_l9 (thenQ (fun σ' => ∃ m, m < k ∧ rpI l out inn m σ') Q) σ := by
  obtain ⟨i, best, hi, rfl, hB, t5, t6, t0, t4, h9, t3, h3⟩ := hI
  simp only [r_rPts_l9]
  by_cases hlt : i < l.length
  case neg =>
    have hlt' : ¬ (i : Int) < (l.length : Int) := by omega
    have e : i = l.length := by omega
    subst e
    simp (maxSteps := 4000000) only [go_sem, ↓reduceIte, reduceCtorEq, Nat.reduceEqDiff, Nat.reduceBEq, Nat.reduceAdd, Nat.reduceSub, Nat.reduceMul, Nat.reduceLT, Nat.reduceLeDiff, Nat.reduceBNe, Int.reduceBEq, Int.reduceBNe, Int.reduceLT, Int.reduceLE, Par.a, Opr.a, Ans.a, nul, t5, t6, t0, hlt', List.length_map]
    refine hEnd _ best hB ⟨?_, ?_, ?_, ?_, ?_, ?_⟩
    · simp (maxSteps := 4000000) only [go_sem, ↓reduceIte, reduceCtorEq, Nat.reduceEqDiff, Nat.reduceBEq, Nat.reduceAdd, Nat.reduceSub, Nat.reduceMul, Nat.reduceLT, Nat.reduceLeDiff, Nat.reduceBNe, Int.reduceBEq, Int.reduceBNe, Int.reduceLT, Int.reduceLE, Par.a, Opr.a, Ans.a, nul, t5]
    · simp (maxSteps := 4000000) only [go_sem, ↓reduceIte, reduceCtorEq, Nat.reduceEqDiff, Nat.reduceBEq, Nat.reduceAdd, Nat.reduceSub, Nat.reduceMul, Nat.reduceLT, Nat.reduceLeDiff, Nat.reduceBNe, Int.reduceBEq, Int.reduceBNe, Int.reduceLT, Int.reduceLE, Par.a, Opr.a, Ans.a, nul, t0]
    · simp (maxSteps := 4000000) only [go_sem, ↓reduceIte, reduceCtorEq, Nat.reduceEqDiff, Nat.reduceBEq, Nat.reduceAdd, Nat.reduceSub, Nat.reduceMul, Nat.reduceLT, Nat.reduceLeDiff, Nat.reduceBNe, Int.reduceBEq, Int.reduceBNe, Int.reduceLT, Int.reduceLE, Par.a, Opr.a, Ans.a, nul, t4]
    · simp (maxSteps := 4000000) only [go_sem, ↓reduceIte, reduceCtorEq, Nat.reduceEqDiff, Nat.reduceBEq, Nat.reduceAdd, Nat.reduceSub, Nat.reduceMul, Nat.reduceLT, Nat.reduceLeDiff, Nat.reduceBNe, Int.reduceBEq, Int.reduceBNe, Int.reduceLT, Int.reduceLE, Par.a, Opr.a, Ans.a, nul, h9]
    · simp (maxSteps := 4000000) only [go_sem, ↓reduceIte, reduceCtorEq, Nat.reduceEqDiff, Nat.reduceBEq, Nat.reduceAdd, Nat.reduceSub, Nat.reduceMul, Nat.reduceLT, Nat.reduceLeDiff, Nat.reduceBNe, Int.reduceBEq, Int.reduceBNe, Int.reduceLT, Int.reduceLE, Par.a, Opr.a, Ans.a, nul, t3]
    · simp (maxSteps := 4000000) only [go_sem, ↓reduceIte, reduceCtorEq, Nat.reduceEqDiff, Nat.reduceBEq, Nat.reduceAdd, Nat.reduceSub, Nat.reduceMul, Nat.reduceLT, Nat.reduceLeDiff, Nat.reduceBNe, Int.reduceBEq, Int.reduceBNe, Int.reduceLT, Int.reduceLE, Par.a, Opr.a, Ans.a, nul, h3]
  have hlt' : (i : Int) < (l.length : Int) := by omega
  obtain ⟨e, he⟩ := get_lt hlt
  obtain ⟨b, hb⟩ := get_lt (l := inn) (j := i) (by omega)
  have hge := at_map (f := Evt.a) he
  have hgb := at_map (f := AV.bool) hb
  simp only [Evt.a] at hge
  have hw := wrapS (j := i) (by omega)
  have hil : i < inn.length := by omega
  have fin : ∀ (best' : Int) (σ' : St), Best Evt.point Evt.done l inn (i + 1) best' → σ'.T 5 = .int .i64 best' → σ'.T 6 = .int .i64 ((i + 1 : Nat) : Int) → σ'.T 0 = .sl (l.map Evt.a) → σ'.T 4 = .rs 9 0 l.length → σ'.H 9 = some ⟨1, 4, inn.map AV.bool, 0⟩ →
      σ'.T 3 = .rs 3 0 out.length → σ'.H 3 = some ⟨15, 32, out.map Evt.a, 0⟩ → ∃ m, m < l.length - i ∧ rpI l out inn m σ' := fun best' σ' a1 a2 a3 a4 a5 a6 a7 a8 =>
    ⟨l.length - (i + 1), by omega, i + 1, best', by omega, rfl, a1, a2, a3, a4, a5, a6, a7, a8⟩
  have hll : inn.length = l.length := hi0
  cases hd : e.done with
  | false =>
    simp (maxSteps := 4000000) only [go_sem, ↓reduceIte, reduceCtorEq, Nat.reduceEqDiff, Nat.reduceBEq, Nat.reduceAdd, Nat.reduceSub, Nat.reduceMul, Nat.reduceLT, Nat.reduceLeDiff, Nat.reduceBNe, Int.reduceBEq, Int.reduceBNe, Int.reduceLT, Int.reduceLE, Par.a, Opr.a, Ans.a, nul, t5, t6, t0, t4, h9, t3, h3, hlt', hge, hgb, hd, hw, hlt, hil, List.length_map, Int.toNat_natCast]
    (repeat refine And.intro (by omega) ?_)
    refine fin best _ (Best.skip (hi0.symm) hB he hb (.inl (by rw [hd]; rfl))) ?_ ?_ ?_ ?_ ?_ ?_ ?_
    · simp (maxSteps := 4000000) only [go_sem, ↓reduceIte, reduceCtorEq, Nat.reduceEqDiff, Nat.reduceBEq, Nat.reduceAdd, Nat.reduceSub, Nat.reduceMul, Nat.reduceLT, Nat.reduceLeDiff, Nat.reduceBNe, Int.reduceBEq, Int.reduceBNe, Int.reduceLT, Int.reduceLE, Par.a, Opr.a, Ans.a, nul, t5]
    · simp (maxSteps := 4000000) only [go_sem, ↓reduceIte, reduceCtorEq, Nat.reduceEqDiff, Nat.reduceBEq, Nat.reduceAdd, Nat.reduceSub, Nat.reduceMul, Nat.reduceLT, Nat.reduceLeDiff, Nat.reduceBNe, Int.reduceBEq, Int.reduceBNe, Int.reduceLT, Int.reduceLE, Par.a, Opr.a, Ans.a, nul, hw]
    · simp (maxSteps := 4000000) only [go_sem, ↓reduceIte, reduceCtorEq, Nat.reduceEqDiff, Nat.reduceBEq, Nat.reduceAdd, Nat.reduceSub, Nat.reduceMul, Nat.reduceLT, Nat.reduceLeDiff, Nat.reduceBNe, Int.reduceBEq, Int.reduceBNe, Int.reduceLT, Int.reduceLE, Par.a, Opr.a, Ans.a, nul, t0]
    · simp (maxSteps := 4000000) only [go_sem, ↓reduceIte, reduceCtorEq, Nat.reduceEqDiff, Nat.reduceBEq, Nat.reduceAdd, Nat.reduceSub, Nat.reduceMul, Nat.reduceLT, Nat.reduceLeDiff, Nat.reduceBNe, Int.reduceBEq, Int.reduceBNe, Int.reduceLT, Int.reduceLE, Par.a, Opr.a, Ans.a, nul, t4]
    · simp (maxSteps := 4000000) only [go_sem, ↓reduceIte, reduceCtorEq, Nat.reduceEqDiff, Nat.reduceBEq, Nat.reduceAdd, Nat.reduceSub, Nat.reduceMul, Nat.reduceLT, Nat.reduceLeDiff, Nat.reduceBNe, Int.reduceBEq, Int.reduceBNe, Int.reduceLT, Int.reduceLE, Par.a, Opr.a, Ans.a, nul, h9]
    · simp (maxSteps := 4000000) only [go_sem, ↓reduceIte, reduceCtorEq, Nat.reduceEqDiff, Nat.reduceBEq, Nat.reduceAdd, Nat.reduceSub, Nat.reduceMul, Nat.reduceLT, Nat.reduceLeDiff, Nat.reduceBNe, Int.reduceBEq, Int.reduceBNe, Int.reduceLT, Int.reduceLE, Par.a, Opr.a, Ans.a, nul, t3]
    · simp (maxSteps := 4000000) only [go_sem, ↓reduceIte, reduceCtorEq, Nat.reduceEqDiff, Nat.reduceBEq, Nat.reduceAdd, Nat.reduceSub, Nat.reduceMul, Nat.reduceLT, Nat.reduceLeDiff, Nat.reduceBNe, Int.reduceBEq, Int.reduceBNe, Int.reduceLT, Int.reduceLE, Par.a, Opr.a, Ans.a, nul, h3]
  | true =>
    cases b with
    | true =>
      simp (maxSteps := 4000000) only [go_sem, ↓reduceIte, reduceCtorEq, Nat.reduceEqDiff, Nat.reduceBEq, Nat.reduceAdd, Nat.reduceSub, Nat.reduceMul, Nat.reduceLT, Nat.reduceLeDiff, Nat.reduceBNe, Int.reduceBEq, Int.reduceBNe, Int.reduceLT, Int.reduceLE, Par.a, Opr.a, Ans.a, nul, t5, t6, t0, t4, h9, t3, h3, hlt', hge, hgb, hd, hw, hlt, hil, hll, List.length_map, Int.toNat_natCast]
      (repeat refine And.intro (by omega) ?_)
      refine fin best _ (Best.skip (hi0.symm) hB he hb (.inl (by rw [hd]; rfl))) ?_ ?_ ?_ ?_ ?_ ?_ ?_
      · simp (maxSteps := 4000000) only [go_sem, ↓reduceIte, reduceCtorEq, Nat.reduceEqDiff, Nat.reduceBEq, Nat.reduceAdd, Nat.reduceSub, Nat.reduceMul, Nat.reduceLT, Nat.reduceLeDiff, Nat.reduceBNe, Int.reduceBEq, Int.reduceBNe, Int.reduceLT, Int.reduceLE, Par.a, Opr.a, Ans.a, nul, t5]
      · simp (maxSteps := 4000000) only [go_sem, ↓reduceIte, reduceCtorEq, Nat.reduceEqDiff, Nat.reduceBEq, Nat.reduceAdd, Nat.reduceSub, Nat.reduceMul, Nat.reduceLT, Nat.reduceLeDiff, Nat.reduceBNe, Int.reduceBEq, Int.reduceBNe, Int.reduceLT, Int.reduceLE, Par.a, Opr.a, Ans.a, nul, hw]
      · simp (maxSteps := 4000000) only [go_sem, ↓reduceIte, reduceCtorEq, Nat.reduceEqDiff, Nat.reduceBEq, Nat.reduceAdd, Nat.reduceSub, Nat.reduceMul, Nat.reduceLT, Nat.reduceLeDiff, Nat.reduceBNe, Int.reduceBEq, Int.reduceBNe, Int.reduceLT, Int.reduceLE, Par.a, Opr.a, Ans.a, nul, t0]
      · simp (maxSteps := 4000000) only [go_sem, ↓reduceIte, reduceCtorEq, Nat.reduceEqDiff, Nat.reduceBEq, Nat.reduceAdd, Nat.reduceSub, Nat.reduceMul, Nat.reduceLT, Nat.reduceLeDiff, Nat.reduceBNe, Int.reduceBEq, Int.reduceBNe, Int.reduceLT, Int.reduceLE, Par.a, Opr.a, Ans.a, nul, t4]
      · simp (maxSteps := 4000000) only [go_sem, ↓reduceIte, reduceCtorEq, Nat.reduceEqDiff, Nat.reduceBEq, Nat.reduceAdd, Nat.reduceSub, Nat.reduceMul, Nat.reduceLT, Nat.reduceLeDiff, Nat.reduceBNe, Int.reduceBEq, Int.reduceBNe, Int.reduceLT, Int.reduceLE, Par.a, Opr.a, Ans.a, nul, h9]
      · simp (maxSteps := 4000000) only [go_sem, ↓reduceIte, reduceCtorEq, Nat.reduceEqDiff, Nat.reduceBEq, Nat.reduceAdd, Nat.reduceSub, Nat.reduceMul, Nat.reduceLT, Nat.reduceLeDiff, Nat.reduceBNe, Int.reduceBEq, Int.reduceBNe, Int.reduceLT, Int.reduceLE, Par.a, Opr.a, Ans.a, nul, t3]
      · simp (maxSteps := 4000000) only [go_sem, ↓reduceIte, reduceCtorEq, Nat.reduceEqDiff, Nat.reduceBEq, Nat.reduceAdd, Nat.reduceSub, Nat.reduceMul, Nat.reduceLT, Nat.reduceLeDiff, Nat.reduceBNe, Int.reduceBEq, Int.reduceBNe, Int.reduceLT, Int.reduceLE, Par.a, Opr.a, Ans.a, nul, h3]
    | false =>
      rcases id hB with ⟨hm1, _⟩ | ⟨p, x, hp, hpi, hx, _, _, _, _⟩
      · subst hm1
        have hneg : (-1 : Int) < 0 := by decide
        simp (maxSteps := 4000000) only [go_sem, ↓reduceIte, reduceCtorEq, Nat.reduceEqDiff, Nat.reduceBEq, Nat.reduceAdd, Nat.reduceSub, Nat.reduceMul, Nat.reduceLT, Nat.reduceLeDiff, Nat.reduceBNe, Int.reduceBEq, Int.reduceBNe, Int.reduceLT, Int.reduceLE, Par.a, Opr.a, Ans.a, nul, t5, t6, t0, t4, h9, t3, h3, hlt', hge, hgb, hd, hw, hlt, hil, hll, hneg, List.length_map, Int.toNat_natCast]
        (repeat refine And.intro (by omega) ?_)
        refine fin i _ (Best.take (hi0.symm) hB he hb hd (.inl rfl)) ?_ ?_ ?_ ?_ ?_ ?_ ?_
        · simp (maxSteps := 4000000) only [go_sem, ↓reduceIte, reduceCtorEq, Nat.reduceEqDiff, Nat.reduceBEq, Nat.reduceAdd, Nat.reduceSub, Nat.reduceMul, Nat.reduceLT, Nat.reduceLeDiff, Nat.reduceBNe, Int.reduceBEq, Int.reduceBNe, Int.reduceLT, Int.reduceLE, Par.a, Opr.a, Ans.a, nul, t6]
        · simp (maxSteps := 4000000) only [go_sem, ↓reduceIte, reduceCtorEq, Nat.reduceEqDiff, Nat.reduceBEq, Nat.reduceAdd, Nat.reduceSub, Nat.reduceMul, Nat.reduceLT, Nat.reduceLeDiff, Nat.reduceBNe, Int.reduceBEq, Int.reduceBNe, Int.reduceLT, Int.reduceLE, Par.a, Opr.a, Ans.a, nul, hw]
        · simp (maxSteps := 4000000) only [go_sem, ↓reduceIte, reduceCtorEq, Nat.reduceEqDiff, Nat.reduceBEq, Nat.reduceAdd, Nat.reduceSub, Nat.reduceMul, Nat.reduceLT, Nat.reduceLeDiff, Nat.reduceBNe, Int.reduceBEq, Int.reduceBNe, Int.reduceLT, Int.reduceLE, Par.a, Opr.a, Ans.a, nul, t0]
        · simp (maxSteps := 4000000) only [go_sem, ↓reduceIte, reduceCtorEq, Nat.reduceEqDiff, Nat.reduceBEq, Nat.reduceAdd, Nat.reduceSub, Nat.reduceMul, Nat.reduceLT, Nat.reduceLeDiff, Nat.reduceBNe, Int.reduceBEq, Int.reduceBNe, Int.reduceLT, Int.reduceLE, Par.a, Opr.a, Ans.a, nul, t4]
        · simp (maxSteps := 4000000) only [go_sem, ↓reduceIte, reduceCtorEq, Nat.reduceEqDiff, Nat.reduceBEq, Nat.reduceAdd, Nat.reduceSub, Nat.reduceMul, Nat.reduceLT, Nat.reduceLeDiff, Nat.reduceBNe, Int.reduceBEq, Int.reduceBNe, Int.reduceLT, Int.reduceLE, Par.a, Opr.a, Ans.a, nul, h9]
        · simp (maxSteps := 4000000) only [go_sem, ↓reduceIte, reduceCtorEq, Nat.reduceEqDiff, Nat.reduceBEq, Nat.reduceAdd, Nat.reduceSub, Nat.reduceMul, Nat.reduceLT, Nat.reduceLeDiff, Nat.reduceBNe, Int.reduceBEq, Int.reduceBNe, Int.reduceLT, Int.reduceLE, Par.a, Opr.a, Ans.a, nul, t3]
        · simp (maxSteps := 4000000) only [go_sem, ↓reduceIte, reduceCtorEq, Nat.reduceEqDiff, Nat.reduceBEq, Nat.reduceAdd, Nat.reduceSub, Nat.reduceMul, Nat.reduceLT, Nat.reduceLeDiff, Nat.reduceBNe, Int.reduceBEq, Int.reduceBNe, Int.reduceLT, Int.reduceLE, Par.a, Opr.a, Ans.a, nul, h3]
      · subst hp
        have hgx := at_map (f := Evt.a) hx
        simp only [Evt.a] at hgx
        have hpl : (p : Int) < (l.length : Int) := by omega
        have hpn : ¬ (p : Int) < 0 := by omega
        have hpl' : p < l.length := by omega
        by_cases hk : e.point < x.point
        · simp (maxSteps := 4000000) only [go_sem, ↓reduceIte, reduceCtorEq, Nat.reduceEqDiff, Nat.reduceBEq, Nat.reduceAdd, Nat.reduceSub, Nat.reduceMul, Nat.reduceLT, Nat.reduceLeDiff, Nat.reduceBNe, Int.reduceBEq, Int.reduceBNe, Int.reduceLT, Int.reduceLE, Par.a, Opr.a, Ans.a, nul, t5, t6, t0, t4, h9, t3, h3, hlt', hge, hgb, hgx, hd, hw, hlt, hil, hll, hpl, hpn, hpl', hk, List.length_map, Int.toNat_natCast]
          (repeat refine And.intro (by omega) ?_)
          refine fin i _ (Best.take (hi0.symm) hB he hb hd (.inr ⟨p, x, rfl, hx, hk⟩)) ?_ ?_ ?_ ?_ ?_ ?_ ?_
          · simp (maxSteps := 4000000) only [go_sem, ↓reduceIte, reduceCtorEq, Nat.reduceEqDiff, Nat.reduceBEq, Nat.reduceAdd, Nat.reduceSub, Nat.reduceMul, Nat.reduceLT, Nat.reduceLeDiff, Nat.reduceBNe, Int.reduceBEq, Int.reduceBNe, Int.reduceLT, Int.reduceLE, Par.a, Opr.a, Ans.a, nul, t6]
          · simp (maxSteps := 4000000) only [go_sem, ↓reduceIte, reduceCtorEq, Nat.reduceEqDiff, Nat.reduceBEq, Nat.reduceAdd, Nat.reduceSub, Nat.reduceMul, Nat.reduceLT, Nat.reduceLeDiff, Nat.reduceBNe, Int.reduceBEq, Int.reduceBNe, Int.reduceLT, Int.reduceLE, Par.a, Opr.a, Ans.a, nul, hw]
          · simp (maxSteps := 4000000) only [go_sem, ↓reduceIte, reduceCtorEq, Nat.reduceEqDiff, Nat.reduceBEq, Nat.reduceAdd, Nat.reduceSub, Nat.reduceMul, Nat.reduceLT, Nat.reduceLeDiff, Nat.reduceBNe, Int.reduceBEq, Int.reduceBNe, Int.reduceLT, Int.reduceLE, Par.a, Opr.a, Ans.a, nul, t0]
          · simp (maxSteps := 4000000) only [go_sem, ↓reduceIte, reduceCtorEq, Nat.reduceEqDiff, Nat.reduceBEq, Nat.reduceAdd, Nat.reduceSub, Nat.reduceMul, Nat.reduceLT, Nat.reduceLeDiff, Nat.reduceBNe, Int.reduceBEq, Int.reduceBNe, Int.reduceLT, Int.reduceLE, Par.a, Opr.a, Ans.a, nul, t4]
          · simp (maxSteps := 4000000) only [go_sem, ↓reduceIte, reduceCtorEq, Nat.reduceEqDiff, Nat.reduceBEq, Nat.reduceAdd, Nat.reduceSub, Nat.reduceMul, Nat.reduceLT, Nat.reduceLeDiff, Nat.reduceBNe, Int.reduceBEq, Int.reduceBNe, Int.reduceLT, Int.reduceLE, Par.a, Opr.a, Ans.a, nul, h9]
          · simp (maxSteps := 4000000) only [go_sem, ↓reduceIte, reduceCtorEq, Nat.reduceEqDiff, Nat.reduceBEq, Nat.reduceAdd, Nat.reduceSub, Nat.reduceMul, Nat.reduceLT, Nat.reduceLeDiff, Nat.reduceBNe, Int.reduceBEq, Int.reduceBNe, Int.reduceLT, Int.reduceLE, Par.a, Opr.a, Ans.a, nul, t3]
          · simp (maxSteps := 4000000) only [go_sem, ↓reduceIte, reduceCtorEq, Nat.reduceEqDiff, Nat.reduceBEq, Nat.reduceAdd, Nat.reduceSub, Nat.reduceMul, Nat.reduceLT, Nat.reduceLeDiff, Nat.reduceBNe, Int.reduceBEq, Int.reduceBNe, Int.reduceLT, Int.reduceLE, Par.a, Opr.a, Ans.a, nul, h3]
        · simp (maxSteps := 4000000) only [go_sem, ↓reduceIte, reduceCtorEq, Nat.reduceEqDiff, Nat.reduceBEq, Nat.reduceAdd, Nat.reduceSub, Nat.reduceMul, Nat.reduceLT, Nat.reduceLeDiff, Nat.reduceBNe, Int.reduceBEq, Int.reduceBNe, Int.reduceLT, Int.reduceLE, Par.a, Opr.a, Ans.a, nul, t5, t6, t0, t4, h9, t3, h3, hlt', hge, hgb, hgx, hd, hw, hlt, hil, hll, hpl, hpn, hpl', hk, List.length_map, Int.toNat_natCast]
          (repeat refine And.intro (by omega) ?_)
          refine fin p _ (Best.skip (hi0.symm) hB he hb (.inr ⟨p, x, rfl, hx, by omega⟩)) ?_ ?_ ?_ ?_ ?_ ?_ ?_
          · simp (maxSteps := 4000000) only [go_sem, ↓reduceIte, reduceCtorEq, Nat.reduceEqDiff, Nat.reduceBEq, Nat.reduceAdd, Nat.reduceSub, Nat.reduceMul, Nat.reduceLT, Nat.reduceLeDiff, Nat.reduceBNe, Int.reduceBEq, Int.reduceBNe, Int.reduceLT, Int.reduceLE, Par.a, Opr.a, Ans.a, nul, t5]
          · simp (maxSteps := 4000000) only [go_sem, ↓reduceIte, reduceCtorEq, Nat.reduceEqDiff, Nat.reduceBEq, Nat.reduceAdd, Nat.reduceSub, Nat.reduceMul, Nat.reduceLT, Nat.reduceLeDiff, Nat.reduceBNe, Int.reduceBEq, Int.reduceBNe, Int.reduceLT, Int.reduceLE, Par.a, Opr.a, Ans.a, nul, hw]
          · simp (maxSteps := 4000000) only [go_sem, ↓reduceIte, reduceCtorEq, Nat.reduceEqDiff, Nat.reduceBEq, Nat.reduceAdd, Nat.reduceSub, Nat.reduceMul, Nat.reduceLT, Nat.reduceLeDiff, Nat.reduceBNe, Int.reduceBEq, Int.reduceBNe, Int.reduceLT, Int.reduceLE, Par.a, Opr.a, Ans.a, nul, t0]
          · simp (maxSteps := 4000000) only [go_sem, ↓reduceIte, reduceCtorEq, Nat.reduceEqDiff, Nat.reduceBEq, Nat.reduceAdd, Nat.reduceSub, Nat.reduceMul, Nat.reduceLT, Nat.reduceLeDiff, Nat.reduceBNe, Int.reduceBEq, Int.reduceBNe, Int.reduceLT, Int.reduceLE, Par.a, Opr.a, Ans.a, nul, t4]
          · simp (maxSteps := 4000000) only [go_sem, ↓reduceIte, reduceCtorEq, Nat.reduceEqDiff, Nat.reduceBEq, Nat.reduceAdd, Nat.reduceSub, Nat.reduceMul, Nat.reduceLT, Nat.reduceLeDiff, Nat.reduceBNe, Int.reduceBEq, Int.reduceBNe, Int.reduceLT, Int.reduceLE, Par.a, Opr.a, Ans.a, nul, h9]
          · simp (maxSteps := 4000000) only [go_sem, ↓reduceIte, reduceCtorEq, Nat.reduceEqDiff, Nat.reduceBEq, Nat.reduceAdd, Nat.reduceSub, Nat.reduceMul, Nat.reduceLT, Nat.reduceLeDiff, Nat.reduceBNe, Int.reduceBEq, Int.reduceBNe, Int.reduceLT, Int.reduceLE, Par.a, Opr.a, Ans.a, nul, t3]
          · simp (maxSteps := 4000000) only [go_sem, ↓reduceIte, reduceCtorEq, Nat.reduceEqDiff, Nat.reduceBEq, Nat.reduceAdd, Nat.reduceSub, Nat.reduceMul, Nat.reduceLT, Nat.reduceLeDiff, Nat.reduceBNe, Int.reduceBEq, Int.reduceBNe, Int.reduceLT, Int.reduceLE, Par.a, Opr.a, Ans.a, nul, h3]
set_option maxHeartbeats 8000000 in
theorem rPts_ok (l : List Evt) (hl : l.length ≤ 1000000) : AFn Try.prog 17 [.sl (l.map Evt.a)] (.own 15 32 ((ptsF l).map Evt.a)) := by
  refine fn_rPts rfl ?_
  obtain ⟨R, hR⟩ : ∃ R, ptsF l = R := ⟨_, rfl⟩
  rw [hR]
  have h0 : srt Evt.point (remG Evt.done l (List.replicate l.length false)) = R := by rw [remG_none]; exact hR
  have hRl : R.length ≤ l.length := by
    rw [← hR]; unfold ptsF; rw [srt_length]; exact List.length_filter_le _ _
  have hrep : (List.replicate l.length false).map AV.bool = List.replicate l.length (AV.bool false) := by simp
  have hln : Int.toNat (l.length : Int) = l.length := Int.toNat_natCast _
  simp (maxSteps := 4000000) only [go_sem, ↓reduceIte, reduceCtorEq, Nat.reduceEqDiff, Nat.reduceBEq, Nat.reduceAdd, Nat.reduceSub, Nat.reduceMul, Nat.reduceLT, Nat.reduceLeDiff, Nat.reduceBNe, Int.reduceBEq, Int.reduceBNe, Int.reduceLT, Int.reduceLE, Par.a, Opr.a, Ans.a, nul, List.length_map, hln]
  refine ⟨⟨by omega, by omega, by omega, rfl, by decide⟩, run_loop (rpO l R) (k := (srt Evt.point (remG Evt.done l (List.replicate l.length false))).length) ⟨List.replicate l.length false, [], List.length_replicate, by rw [List.nil_append]; exact h0, rfl, ?_, ?_, ?_, ?_, ?_⟩ ?_⟩
  · simp (maxSteps := 4000000) only [go_sem, ↓reduceIte, reduceCtorEq, Nat.reduceEqDiff, Nat.reduceBEq, Nat.reduceAdd, Nat.reduceSub, Nat.reduceMul, Nat.reduceLT, Nat.reduceLeDiff, Nat.reduceBNe, Int.reduceBEq, Int.reduceBNe, Int.reduceLT, Int.reduceLE, Par.a, Opr.a, Ans.a, nul]
  · simp (maxSteps := 4000000) only [go_sem, ↓reduceIte, reduceCtorEq, Nat.reduceEqDiff, Nat.reduceBEq, Nat.reduceAdd, Nat.reduceSub, Nat.reduceMul, Nat.reduceLT, Nat.reduceLeDiff, Nat.reduceBNe, Int.reduceBEq, Int.reduceBNe, Int.reduceLT, Int.reduceLE, Par.a, Opr.a, Ans.a, nul, List.length_replicate]
  · (simp (maxSteps := 4000000) only [go_sem, ↓reduceIte, reduceCtorEq, Nat.reduceEqDiff, Nat.reduceBEq, Nat.reduceAdd, Nat.reduceSub, Nat.reduceMul, Nat.reduceLT, Nat.reduceLeDiff, Nat.reduceBNe, Int.reduceBEq, Int.reduceBNe, Int.reduceLT, Int.reduceLE, Par.a, Opr.a, Ans.a, nul, hrep]) <;> rfl
  · (simp (maxSteps := 4000000) only [go_sem, ↓reduceIte, reduceCtorEq, Nat.reduceEqDiff, Nat.reduceBEq, Nat.reduceAdd, Nat.reduceSub, Nat.reduceMul, Nat.reduceLT, Nat.reduceLeDiff, Nat.reduceBNe, Int.reduceBEq, Int.reduceBNe, Int.reduceLT, Int.reduceLE, Par.a, Opr.a, Ans.a, nul]) <;> rfl
  · (simp (maxSteps := 4000000) only [go_sem, ↓reduceIte, reduceCtorEq, Nat.reduceEqDiff, Nat.reduceBEq, Nat.reduceAdd, Nat.reduceSub, Nat.reduceMul, Nat.reduceLT, Nat.reduceLeDiff, Nat.reduceBNe, Int.reduceBEq, Int.reduceBNe, Int.reduceLT, Int.reduceLE, Par.a, Opr.a, Ans.a, nul]) <;> rfl
  clear h0 hrep hR
  rintro k σ ⟨inn, out, hil, hR, rfl, t0, t4, h9, t3, h3⟩
  simp only [r_rPts_l14]
  have hB0 : Best Evt.point Evt.done l inn 0 (-1) := .inl ⟨rfl, by simp [remG]⟩
  simp (maxSteps := 4000000) only [go_sem, ↓reduceIte, reduceCtorEq, Nat.reduceEqDiff, Nat.reduceBEq, Nat.reduceAdd, Nat.reduceSub, Nat.reduceMul, Nat.reduceLT, Nat.reduceLeDiff, Nat.reduceBNe, Int.reduceBEq, Int.reduceBNe, Int.reduceLT, Int.reduceLE, Par.a, Opr.a, Ans.a, nul, t0, t4, h9, t3, h3]
  refine run_loop (rpI l out inn) (k := l.length) ⟨0, -1, Nat.zero_le _, rfl, hB0, ?_, ?_, ?_, ?_, ?_, ?_, ?_⟩ (best_loop l out inn hl hil _ ?_)
  · (simp (maxSteps := 4000000) only [go_sem, ↓reduceIte, reduceCtorEq, Nat.reduceEqDiff, Nat.reduceBEq, Nat.reduceAdd, Nat.reduceSub, Nat.reduceMul, Nat.reduceLT, Nat.reduceLeDiff, Nat.reduceBNe, Int.reduceBEq, Int.reduceBNe, Int.reduceLT, Int.reduceLE, Par.a, Opr.a, Ans.a, nul]) <;> rfl
  · (simp (maxSteps := 4000000) only [go_sem, ↓reduceIte, reduceCtorEq, Nat.reduceEqDiff, Nat.reduceBEq, Nat.reduceAdd, Nat.reduceSub, Nat.reduceMul, Nat.reduceLT, Nat.reduceLeDiff, Nat.reduceBNe, Int.reduceBEq, Int.reduceBNe, Int.reduceLT, Int.reduceLE, Par.a, Opr.a, Ans.a, nul]) <;> rfl
  · simp (maxSteps := 4000000) only [go_sem, ↓reduceIte, reduceCtorEq, Nat.reduceEqDiff, Nat.reduceBEq, Nat.reduceAdd, Nat.reduceSub, Nat.reduceMul, Nat.reduceLT, Nat.reduceLeDiff, Nat.reduceBNe, Int.reduceBEq, Int.reduceBNe, Int.reduceLT, Int.reduceLE, Par.a, Opr.a, Ans.a, nul, t0]
  · simp (maxSteps := 4000000) only [go_sem, ↓reduceIte, reduceCtorEq, Nat.reduceEqDiff, Nat.reduceBEq, Nat.reduceAdd, Nat.reduceSub, Nat.reduceMul, Nat.reduceLT, Nat.reduceLeDiff, Nat.reduceBNe, Int.reduceBEq, Int.reduceBNe, Int.reduceLT, Int.reduceLE, Par.a, Opr.a, Ans.a, nul, t4]
  · simp (maxSteps := 4000000) only [go_sem, ↓reduceIte, reduceCtorEq, Nat.reduceEqDiff, Nat.reduceBEq, Nat.reduceAdd, Nat.reduceSub, Nat.reduceMul, Nat.reduceLT, Nat.reduceLeDiff, Nat.reduceBNe, Int.reduceBEq, Int.reduceBNe, Int.reduceLT, Int.reduceLE, Par.a, Opr.a, Ans.a, nul, h9]
  · simp (maxSteps := 4000000) only [go_sem, ↓reduceIte, reduceCtorEq, Nat.reduceEqDiff, Nat.reduceBEq, Nat.reduceAdd, Nat.reduceSub, Nat.reduceMul, Nat.reduceLT, Nat.reduceLeDiff, Nat.reduceBNe, Int.reduceBEq, Int.reduceBNe, Int.reduceLT, Int.reduceLE, Par.a, Opr.a, Ans.a, nul, t3]
  · simp (maxSteps := 4000000) only [go_sem, ↓reduceIte, reduceCtorEq, Nat.reduceEqDiff, Nat.reduceBEq, Nat.reduceAdd, Nat.reduceSub, Nat.reduceMul, Nat.reduceLT, Nat.reduceLeDiff, Nat.reduceBNe, Int.reduceBEq, Int.reduceBNe, Int.reduceLT, Int.reduceLE, Par.a, Opr.a, Ans.a, nul, h3]
  clear t0 t4 h9 t3 h3
  rintro σ best hB ⟨t5, t0, t4, h9, t3, h3⟩
  rcases Best.done hil.symm hB with ⟨rfl, hs⟩ | ⟨p, x, rfl, hpl, hx, hbf, hs⟩
  · rw [hs, List.append_nil] at hR
    subst hR
    have hneg : (-1 : Int) < 0 := by decide
    simp (maxSteps := 4000000) only [go_sem, ↓reduceIte, reduceCtorEq, Nat.reduceEqDiff, Nat.reduceBEq, Nat.reduceAdd, Nat.reduceSub, Nat.reduceMul, Nat.reduceLT, Nat.reduceLeDiff, Nat.reduceBNe, Int.reduceBEq, Int.reduceBNe, Int.reduceLT, Int.reduceLE, Par.a, Opr.a, Ans.a, nul, t5, t0, t4, h9, t3, h3, hneg, List.length_map]
  · have hpn : ¬ (p : Int) < 0 := by omega
    have hpl' : (p : Int) < (l.length : Int) := by omega
    have hgx := at_map (f := Evt.a) hx
    simp only [Evt.a] at hgx
    have hset : (inn.map AV.bool).set p (.bool true) = (inn.set p true).map AV.bool := by rw [List.map_set]
    have hgb := at_map (f := AV.bool) hbf
    have hpi : p < inn.length := by omega
    rw [hs] at hR
    have hlen := congrArg List.length hR
    rw [List.length_append, List.length_cons] at hlen
    have tk : List.take out.length (out.map Evt.a) = out.map Evt.a := List.take_of_length_le (by simp)
    have ho1 : (out ++ [x]).map Evt.a = out.map Evt.a ++ [x.a] := List.map_append
    have ho2 : (out ++ [x]).length = out.length + 1 := List.length_append
    simp only [Evt.a] at ho1
    simp (maxSteps := 4000000) only [go_sem, ↓reduceIte, reduceCtorEq, Nat.reduceEqDiff, Nat.reduceBEq, Nat.reduceAdd, Nat.reduceSub, Nat.reduceMul, Nat.reduceLT, Nat.reduceLeDiff, Nat.reduceBNe, Int.reduceBEq, Int.reduceBNe, Int.reduceLT, Int.reduceLE, Par.a, Opr.a, Ans.a, nul, t5, t0, t4, h9, t3, h3, hpn, hpl', hgx, hgb, hset, hpl, hpi, hil, tk, List.length_map, Int.toNat_natCast]
    refine ⟨by omega, by omega, ⟨⟨by omega, by omega⟩, fun d hd => ?_⟩, (srt Evt.point (remG Evt.done l (inn.set p true))).length, by rw [hs, List.length_cons]; omega, inn.set p true, out ++ [x], by rw [List.length_set]; exact hil, by rw [List.append_assoc]; exact hR, rfl, ?_, ?_, ?_, ?_, ?_⟩
    · rcases hd with rfl | hd
      · exact ⟨rfl, rfl⟩
      · cases hd
    · simp (maxSteps := 4000000) only [go_sem, ↓reduceIte, reduceCtorEq, Nat.reduceEqDiff, Nat.reduceBEq, Nat.reduceAdd, Nat.reduceSub, Nat.reduceMul, Nat.reduceLT, Nat.reduceLeDiff, Nat.reduceBNe, Int.reduceBEq, Int.reduceBNe, Int.reduceLT, Int.reduceLE, Par.a, Opr.a, Ans.a, nul, t0]
    · simp (maxSteps := 4000000) only [go_sem, ↓reduceIte, reduceCtorEq, Nat.reduceEqDiff, Nat.reduceBEq, Nat.reduceAdd, Nat.reduceSub, Nat.reduceMul, Nat.reduceLT, Nat.reduceLeDiff, Nat.reduceBNe, Int.reduceBEq, Int.reduceBNe, Int.reduceLT, Int.reduceLE, Par.a, Opr.a, Ans.a, nul, t4]
    · simp (maxSteps := 4000000) only [go_sem, ↓reduceIte, reduceCtorEq, Nat.reduceEqDiff, Nat.reduceBEq, Nat.reduceAdd, Nat.reduceSub, Nat.reduceMul, Nat.reduceLT, Nat.reduceLeDiff, Nat.reduceBNe, Int.reduceBEq, Int.reduceBNe, Int.reduceLT, Int.reduceLE, Par.a, Opr.a, Ans.a, nul, h9, hset]
    · simp (maxSteps := 4000000) only [go_sem, ↓reduceIte, reduceCtorEq, Nat.reduceEqDiff, Nat.reduceBEq, Nat.reduceAdd, Nat.reduceSub, Nat.reduceMul, Nat.reduceLT, Nat.reduceLeDiff, Nat.reduceBNe, Int.reduceBEq, Int.reduceBNe, Int.reduceLT, Int.reduceLE, Par.a, Opr.a, Ans.a, nul, ho2]
    · simp (maxSteps := 4000000) only [go_sem, ↓reduceIte, reduceCtorEq, Nat.reduceEqDiff, Nat.reduceBEq, Nat.reduceAdd, Nat.reduceSub, Nat.reduceMul, Nat.reduceLT, Nat.reduceLeDiff, Nat.reduceBNe, Int.reduceBEq, Int.reduceBNe, Int.reduceLT, Int.reduceLE, Par.a, Opr.a, Ans.a, nul, h3, tk, ho1]
end
section
/-
  Are nodes few, with few things? The document's Light, walked.
-/
open Go.RowKit
set_option linter.unusedVariables false
set_option linter.unusedSimpArgs false
set_option maxRecDepth 100000
attribute [local go_sem ↓] runOp headOp
def sumN {α : Type} (f : α → Nat) : List α → Nat
  | [] => 0
  | x :: l => f x + sumN f l
theorem sumN_at {α : Type} {f : α → Nat} {l : List α} {j : Nat} {x : α} (h : l[j]? = some x) : sumN f (l.drop j) = f x + sumN f (l.drop (j + 1)) := by
  rw [drop_at h]; rfl
theorem sumN_len {α : Type} {f : α → Nat} (hf : ∀ x, 1 ≤ f x) : ∀ l : List α, l.length ≤ sumN f l
  | [] => Nat.le_refl _
  | x :: l => by
    have := sumN_len hf l
    have := hf x
    show l.length + 1 ≤ f x + sumN f l
    omega
def Par.bulk (p : Par) : Nat := 1 + p.key.size + p.val.size
def Msg.bulk (m : Msg) : Nat := 1 + m.key.size + m.hi.size + m.val.size
def longInv (l : List AV) (most : Int) (rest : Nat → Nat) (r : Bool) (k : Nat) (σ : St) : Prop :=
  ∃ (j n : Nat), j ≤ l.length ∧ k = l.length - j ∧ σ.T 0 = .sl l ∧ σ.T 1 = .int .i64 most ∧ σ.T 5 = .int .i64 n ∧ σ.T 6 = .int .i64 j ∧ n ≤ 900000000000000 ∧ decide (((n + rest j : Nat) : Int) ≤ most) = r
/-! ### percolate/percolateref09.Long -/
def r_rLong9_0 : Reg := ⟨[], [⟨(.mv (.c (.bool false))), (some 4), none, [], []⟩], [], [], false⟩
def r_rLong9_1 : Reg := ⟨[], [⟨(.mv (.c (.int .i64 0))), (some 5), none, [], []⟩], [], [], false⟩
def r_rLong9_2 : Reg := ⟨[], [⟨(.mv (.c (.int .i64 0))), (some 6), none, [], []⟩], [], [], false⟩
def t_rLong9_3 : List ROp := [⟨(.mv (.t 6)), (some 7), none, [], []⟩, ⟨(.mv (.t 0)), (some 8), none, [], []⟩, ⟨(.len false (.t 8)), (some 9), none, [], []⟩, ⟨(.bin .lss (.t 7) (.t 9)), (some 10), none, [], []⟩, ⟨(.mv (.t 10)), (some 11), none, [], []⟩, ⟨(.mv (.t 5)), (some 12), (some (11, true)), [], []⟩, ⟨(.mv (.t 1)), (some 13), (some (11, true)), [], []⟩, ⟨(.bin .leq (.t 12) (.t 13)), (some 14), (some (11, true)), [], []⟩, ⟨(.pick (.t 11) (.t 14) (.c (.bool false))), (some 15), none, [], []⟩]
def r_rLong9_3 : Reg := ⟨[], t_rLong9_3, [], [], false⟩
def h_rLong9_4 : List ROp := [⟨(.mv (.t 5)), (some 18), none, [], []⟩, ⟨(.mv (.t 0)), (some 19), none, [], []⟩, ⟨(.mv (.t 6)), (some 20), none, [], []⟩, ⟨(.iaddr 2 (.t 19) (.t 20)), (some 21), none, [], []⟩, ⟨(.faddr 0 (.t 21)), (some 22), none, [], []⟩, ⟨(.load 1 false (.t 22)), (some 23), none, [], []⟩, ⟨(.len true (.t 23)), (some 24), none, [], []⟩, ⟨(.bin .add (.c (.int .i64 1)) (.t 24)), (some 25), none, [], []⟩, ⟨(.mv (.t 0)), (some 26), none, [], []⟩, ⟨(.mv (.t 6)), (some 27), none, [], []⟩, ⟨(.iaddr 2 (.t 26) (.t 27)), (some 28), none, [], []⟩, ⟨(.faddr 1 (.t 28)), (some 29), none, [], []⟩, ⟨(.load 1 false (.t 29)), (some 30), none, [], []⟩, ⟨(.len true (.t 30)), (some 31), none, [], []⟩, ⟨(.bin .add (.t 25) (.t 31)), (some 32), none, [], []⟩]
def r_rLong9_4 : Reg := ⟨h_rLong9_4, [⟨(.bin .add (.t 18) (.t 32)), (some 33), none, [], []⟩, ⟨(.mv (.t 33)), (some 5), none, [], []⟩], [], [], true⟩
def t_rLong9_5 : List ROp := [⟨(.mv (.t 6)), (some 16), none, [], []⟩, ⟨(.bin .add (.t 16) (.c (.int .i64 1))), (some 17), none, [], []⟩, ⟨(.mv (.t 17)), (some 6), none, [], []⟩]
def r_rLong9_5 : Reg := ⟨[], t_rLong9_5, [], [], false⟩
def r_rLong9_l6 : IR := (.seq (.seq (.reg r_rLong9_3)
  (.cond (.t 15) .skip
  (.exit 0)))
  (.seq (.block 1 (.reg r_rLong9_4))
  (.reg r_rLong9_5)))
def t_rLong9_7 : List ROp := [⟨(.mv (.t 5)), (some 34), none, [], []⟩, ⟨(.mv (.t 1)), (some 35), none, [], []⟩, ⟨(.bin .leq (.t 34) (.t 35)), (some 36), none, [], []⟩, ⟨(.mv (.t 36)), (some 4), none, [], []⟩]
def r_rLong9_7 : Reg := ⟨[], t_rLong9_7, [], [], false⟩
def ir_rLong9 : IR := (.seq (.reg r_rLong9_0)
  (.seq (.reg r_rLong9_1)
  (.seq (.seq (.reg r_rLong9_2)
  (.block 0 (.loop r_rLong9_l6)))
  (.seq (.reg r_rLong9_7)
  .ret))))
def res_rLong9 : List RDesc := [(.tmp 4)]
theorem e_rLong9_0 (C : FuncId → List AV → AV → Prop) (σ : St) (K : St → Prop) : runReg C r_rLong9_0 σ K = runOps C [⟨(.mv (.c (.bool false))), (some 4), none, [], []⟩] (σ.kills []) K := rfl
theorem e_rLong9_1 (C : FuncId → List AV → AV → Prop) (σ : St) (K : St → Prop) : runReg C r_rLong9_1 σ K = runOps C [⟨(.mv (.c (.int .i64 0))), (some 5), none, [], []⟩] (σ.kills []) K := rfl
theorem e_rLong9_2 (C : FuncId → List AV → AV → Prop) (σ : St) (K : St → Prop) : runReg C r_rLong9_2 σ K = runOps C [⟨(.mv (.c (.int .i64 0))), (some 6), none, [], []⟩] (σ.kills []) K := rfl
theorem e_rLong9_3 (C : FuncId → List AV → AV → Prop) (σ : St) (K : St → Prop) : runReg C r_rLong9_3 σ K = runOps C t_rLong9_3 (σ.kills []) K := rfl
theorem e_rLong9_4 (C : FuncId → List AV → AV → Prop) (σ : St) (K : St → Prop) : runReg C r_rLong9_4 σ K = runHead C [] [⟨(.bin .add (.t 18) (.t 32)), (some 33), none, [], []⟩, ⟨(.mv (.t 33)), (some 5), none, [], []⟩] h_rLong9_4 (σ.kills []) K := rfl
theorem e_rLong9_5 (C : FuncId → List AV → AV → Prop) (σ : St) (K : St → Prop) : runReg C r_rLong9_5 σ K = runOps C t_rLong9_5 (σ.kills []) K := rfl
theorem e_rLong9_7 (C : FuncId → List AV → AV → Prop) (σ : St) (K : St → Prop) : runReg C r_rLong9_7 σ K = runOps C t_rLong9_7 (σ.kills []) K := rfl
theorem fn_rLong9 {args : List AV} {r : AV} (ha : args.length.ble Try.f28.ntmps = true) (h : run (AFn Try.prog) ir_rLong9 (endQ res_rLong9 r) (initSt args)) : AFn Try.prog 28 args r :=
  AFn.of_code (pv := false) (hint := fun _ => []) (c := Try.f28.body.getD .skip) (by kernel_rfl) (by kernel_rfl) Try.func28 (by kernel_rfl) (by kernel_rfl) (by kernel_rfl) (of_decide_eq_true (by kernel_rfl)) (Nat.le_of_ble_eq_true ha) (Nat.le_of_ble_eq_true (by kernel_rfl)) (run_ok h)
attribute [local go_sem ↓] ir_rLong9
attribute [local go_sem] res_rLong9 e_rLong9_0 e_rLong9_1 e_rLong9_2 e_rLong9_3 t_rLong9_3 e_rLong9_4 h_rLong9_4 e_rLong9_5 t_rLong9_5 e_rLong9_7 t_rLong9_7
theorem rLong9_ok (l : List Par) (most : Int) (h1 : 0 ≤ most) (h2 : most ≤ 1000000) (hs : ∀ m, m ∈ l → m.key.size ≤ 281474976710656 ∧ m.val.size ≤ 281474976710656) (hl : l.length ≤ 281474976710656) :
    AFn Try.prog 28 [.sl (l.map Par.a), .int .i64 most] (.bool (decide ((sumN Par.bulk l : Int) ≤ most))) := by
  refine fn_rLong9 rfl ?_
  simp (maxSteps := 4000000) only [go_sem, ↓reduceIte, reduceCtorEq, Nat.reduceEqDiff, Nat.reduceBEq, Nat.reduceAdd, Nat.reduceSub, Nat.reduceMul, Nat.reduceLT, Nat.reduceLeDiff, Nat.reduceBNe, Int.reduceBEq, Int.reduceBNe, Int.reduceLT, Int.reduceLE, Msg.a, Par.a, Nd.a]
  refine run_loop (longInv (l.map Par.a) most (fun j => sumN Par.bulk (l.drop j)) (decide ((sumN Par.bulk l : Int) ≤ most))) (k := (l.map Par.a).length) ⟨0, 0, by omega, rfl, rfl, rfl, rfl, rfl, by omega, ?_⟩ ?_
  · simp
  rintro k σ ⟨j, n, hj, rfl, t0, t1, t5, t6, hn2, hr⟩
  rw [List.length_map] at hj
  simp only [r_rLong9_l6]
  by_cases hlt : j < l.length
  · have hlt' : (j : Int) < (l.length : Int) := by omega
    by_cases hm : (n : Int) ≤ most
    · obtain ⟨x, hx⟩ := get_lt hlt
      have hgj := at_map (f := Par.a) hx
      simp only [Par.a] at hgj
      have hw := wrapS (j := j) (by omega)
      obtain ⟨s1, s3⟩ := hs x (List.mem_of_getElem? hx)
      have w1 : IntKind.i64.wrap (1 + (x.key.size : Int)) = 1 + (x.key.size : Int) := IntWalk.i64_in _ (by omega)
      have w3 : IntKind.i64.wrap (1 + (x.key.size : Int) + (x.val.size : Int)) = 1 + (x.key.size : Int) + (x.val.size : Int) := IntWalk.i64_in _ (by omega)
      have w4 : IntKind.i64.wrap ((n : Int) + (1 + (x.key.size : Int) + (x.val.size : Int))) = ((n + x.bulk : Nat) : Int) := by
        rw [IntWalk.i64_in _ (by omega)]; unfold Par.bulk; omega
      simp only [sumN_at hx] at hr
      simp (maxSteps := 4000000) only [go_sem, ↓reduceIte, reduceCtorEq, Nat.reduceEqDiff, Nat.reduceBEq, Nat.reduceAdd, Nat.reduceSub, Nat.reduceMul, Nat.reduceLT, Nat.reduceLeDiff, Nat.reduceBNe, Int.reduceBEq, Int.reduceBNe, Int.reduceLT, Int.reduceLE, Msg.a, Par.a, Nd.a, t0, t1, t5, t6, hlt', hm, hgj, List.length_map, Int.toNat_natCast, w1, w3, w4, hw]
      (repeat refine And.intro (by omega) ?_)
      refine ⟨l.length - (j + 1), by omega, j + 1, n + x.bulk, by rw [List.length_map]; omega, by rw [List.length_map], ?_, ?_, ?_, ?_, by unfold Par.bulk; omega, ?_⟩
      · simp (maxSteps := 4000000) only [go_sem, ↓reduceIte, reduceCtorEq, Nat.reduceEqDiff, Nat.reduceBEq, Nat.reduceAdd, Nat.reduceSub, Nat.reduceMul, Nat.reduceLT, Nat.reduceLeDiff, Nat.reduceBNe, Int.reduceBEq, Int.reduceBNe, Int.reduceLT, Int.reduceLE, Msg.a, Par.a, Nd.a, t0, t1, t5, t6]
      · simp (maxSteps := 4000000) only [go_sem, ↓reduceIte, reduceCtorEq, Nat.reduceEqDiff, Nat.reduceBEq, Nat.reduceAdd, Nat.reduceSub, Nat.reduceMul, Nat.reduceLT, Nat.reduceLeDiff, Nat.reduceBNe, Int.reduceBEq, Int.reduceBNe, Int.reduceLT, Int.reduceLE, Msg.a, Par.a, Nd.a, t0, t1, t5, t6]
      · simp (maxSteps := 4000000) only [go_sem, ↓reduceIte, reduceCtorEq, Nat.reduceEqDiff, Nat.reduceBEq, Nat.reduceAdd, Nat.reduceSub, Nat.reduceMul, Nat.reduceLT, Nat.reduceLeDiff, Nat.reduceBNe, Int.reduceBEq, Int.reduceBNe, Int.reduceLT, Int.reduceLE, Msg.a, Par.a, Nd.a, t0, t1, t5, t6]
      · simp (maxSteps := 4000000) only [go_sem, ↓reduceIte, reduceCtorEq, Nat.reduceEqDiff, Nat.reduceBEq, Nat.reduceAdd, Nat.reduceSub, Nat.reduceMul, Nat.reduceLT, Nat.reduceLeDiff, Nat.reduceBNe, Int.reduceBEq, Int.reduceBNe, Int.reduceLT, Int.reduceLE, Msg.a, Par.a, Nd.a, t0, t1, t5, t6]
      · rw [← hr, Nat.add_assoc]
    · simp (maxSteps := 4000000) only [go_sem, ↓reduceIte, reduceCtorEq, Nat.reduceEqDiff, Nat.reduceBEq, Nat.reduceAdd, Nat.reduceSub, Nat.reduceMul, Nat.reduceLT, Nat.reduceLeDiff, Nat.reduceBNe, Int.reduceBEq, Int.reduceBNe, Int.reduceLT, Int.reduceLE, Msg.a, Par.a, Nd.a, t0, t1, t5, t6, hlt', hm, List.length_map]
      have : ¬ ((n + sumN Par.bulk (l.drop j) : Nat) : Int) ≤ most := by omega
      simp only [decide_eq_false this] at hr
      exact of_decide_eq_false hr.symm
  · have hlt' : ¬ (j : Int) < (l.length : Int) := by omega
    simp (maxSteps := 4000000) only [go_sem, ↓reduceIte, reduceCtorEq, Nat.reduceEqDiff, Nat.reduceBEq, Nat.reduceAdd, Nat.reduceSub, Nat.reduceMul, Nat.reduceLT, Nat.reduceLeDiff, Nat.reduceBNe, Int.reduceBEq, Int.reduceBNe, Int.reduceLT, Int.reduceLE, Msg.a, Par.a, Nd.a, t0, t1, t5, t6, hlt', List.length_map]
    rw [← hr]
    show decide (((n + sumN Par.bulk (l.drop j) : Nat) : Int) ≤ most) = _
    rw [List.drop_eq_nil_of_le (by omega)]
    exact decide_eq_decide.2 Iff.rfl
/-! ### Light -/
end
section
/-
  Histories: are there few events, of few bytes: walked.
-/
open Go.RowKit
set_option linter.unusedVariables false
set_option linter.unusedSimpArgs false
set_option maxRecDepth 100000
attribute [local go_sem ↓] runOp headOp
/-! ### percolate/percolateref07.Long -/
def r_l7_0 : Reg := ⟨[], [⟨(.box 6 26 (.t 0)), (some 2), none, [], []⟩, ⟨(.mv (.c (.bool false))), (some 4), none, [], []⟩], [2], [], false⟩
def t_l7_1 : List ROp := [⟨(.faddr 1 (.t 2)), (some 5), none, [], []⟩, ⟨(.load 1 false (.t 5)), (some 6), none, [], []⟩, ⟨(.len true (.t 6)), (some 7), none, [], []⟩, ⟨(.mv (.t 1)), (some 8), none, [], []⟩, ⟨(.bin .leq (.t 7) (.t 8)), (some 9), none, [], []⟩, ⟨(.mv (.t 9)), (some 10), none, [], []⟩, ⟨(.faddr 2 (.t 2)), (some 11), (some (10, true)), [], []⟩, ⟨(.load 1 false (.t 11)), (some 12), (some (10, true)), [], []⟩, ⟨(.len true (.t 12)), (some 13), (some (10, true)), [], []⟩, ⟨(.mv (.t 1)), (some 14), (some (10, true)), [], []⟩, ⟨(.bin .leq (.t 13) (.t 14)), (some 15), (some (10, true)), [], []⟩, ⟨(.pick (.t 10) (.t 15) (.c (.bool false))), (some 16), none, [], []⟩, ⟨(.mv (.t 16)), (some 17), none, [], []⟩, ⟨(.faddr 4 (.t 2)), (some 18), (some (17, true)), [], []⟩, ⟨(.load 1 false (.t 18)), (some 19), (some (17, true)), [], []⟩, ⟨(.len true (.t 19)), (some 20), (some (17, true)), [], []⟩, ⟨(.mv (.t 1)), (some 21), (some (17, true)), [], []⟩, ⟨(.bin .leq (.t 20) (.t 21)), (some 22), (some (17, true)), [], []⟩, ⟨(.pick (.t 17) (.t 22) (.c (.bool false))), (some 23), none, [], []⟩, ⟨(.mv (.t 23)), (some 4), none, [], []⟩]
def r_l7_1 : Reg := ⟨[], t_l7_1, [], [], false⟩
def ir_l7 : IR := (.seq (.reg r_l7_0)
  (.seq (.reg r_l7_1)
  .ret))
def res_l7 : List RDesc := [(.tmp 4)]
theorem e_l7_0 (C : FuncId → List AV → AV → Prop) (σ : St) (K : St → Prop) : runReg C r_l7_0 σ K = runOps C [⟨(.box 6 26 (.t 0)), (some 2), none, [], []⟩, ⟨(.mv (.c (.bool false))), (some 4), none, [], []⟩] (σ.kills [2]) K := rfl
theorem e_l7_1 (C : FuncId → List AV → AV → Prop) (σ : St) (K : St → Prop) : runReg C r_l7_1 σ K = runOps C t_l7_1 (σ.kills []) K := rfl
theorem fn_l7 {args : List AV} {r : AV} (ha : args.length.ble Try.f27.ntmps = true) (h : run (AFn Try.prog) ir_l7 (endQ res_l7 r) (initSt args)) : AFn Try.prog 27 args r :=
  AFn.of_code (pv := false) (hint := fun _ => []) (c := Try.f27.body.getD .skip) (by kernel_rfl) (by kernel_rfl) Try.func27 (by kernel_rfl) (by kernel_rfl) (by kernel_rfl) (of_decide_eq_true (by kernel_rfl)) (Nat.le_of_ble_eq_true ha) (Nat.le_of_ble_eq_true (by kernel_rfl)) (run_ok h)
/-! ### percolate/percolateref38.Light -/
def r_rLt_0 : Reg := ⟨[], [⟨(.mv (.c (.bool false))), (some 6), none, [], []⟩], [], [], false⟩
def t_rLt_1 : List ROp := [⟨(.mv (.t 0)), (some 8), none, [], []⟩, ⟨(.len false (.t 8)), (some 9), none, [], []⟩, ⟨(.mv (.t 1)), (some 10), none, [], []⟩, ⟨(.bin .gtr (.t 9) (.t 10)), (some 11), none, [], []⟩]
def r_rLt_1 : Reg := ⟨[], t_rLt_1, [], [], false⟩
def r_rLt_2 : Reg := ⟨[], [⟨(.mv (.c (.bool false))), (some 6), none, [], []⟩], [], [], false⟩
def r_rLt_3 : Reg := ⟨[], [⟨(.mv (.c (.int .i64 0))), (some 7), none, [], []⟩], [], [], false⟩
def t_rLt_4 : List ROp := [⟨(.mv (.t 7)), (some 12), none, [], []⟩, ⟨(.mv (.t 0)), (some 13), none, [], []⟩, ⟨(.len false (.t 13)), (some 14), none, [], []⟩, ⟨(.bin .lss (.t 12) (.t 14)), (some 15), none, [], []⟩]
def r_rLt_4 : Reg := ⟨[], t_rLt_4, [], [], false⟩
def t_rLt_5 : List ROp := [⟨(.mv (.t 0)), (some 18), none, [24, 45], []⟩, ⟨(.mv (.t 7)), (some 19), none, [24, 45], []⟩, ⟨(.iaddr 15 (.t 18) (.t 19)), (some 20), none, [24, 45], []⟩, ⟨(.faddr 1 (.t 20)), (some 21), none, [24, 45], []⟩, ⟨(.load 6 true (.t 21)), (some 22), none, [24, 45], []⟩, ⟨(.mv (.t 2)), (some 23), none, [24, 45], []⟩, ⟨(.callv (.c (.clo 27 [] [])) [(.t 22), (.t 23)]), (some 24), none, [45], []⟩, ⟨(.un .not (.t 24)), (some 25), none, [45], []⟩, ⟨(.mv (.t 25)), (some 26), none, [45], []⟩, ⟨(.mv (.t 0)), (some 27), (some (26, false)), [45], []⟩, ⟨(.mv (.t 7)), (some 28), (some (26, false)), [45], []⟩, ⟨(.iaddr 15 (.t 27) (.t 28)), (some 29), (some (26, false)), [45], []⟩, ⟨(.faddr 7 (.t 29)), (some 30), (some (26, false)), [45], []⟩, ⟨(.faddr 2 (.t 30)), (some 31), (some (26, false)), [45], []⟩, ⟨(.load 1 false (.t 31)), (some 32), (some (26, false)), [45], []⟩, ⟨(.len true (.t 32)), (some 33), (some (26, false)), [45], []⟩, ⟨(.mv (.t 2)), (some 34), (some (26, false)), [45], []⟩, ⟨(.bin .gtr (.t 33) (.t 34)), (some 35), (some (26, false)), [45], []⟩, ⟨(.pick (.t 26) (.c (.bool true)) (.t 35)), (some 36), none, [45], []⟩, ⟨(.mv (.t 36)), (some 37), none, [45], []⟩, ⟨(.mv (.t 0)), (some 38), (some (37, false)), [45], []⟩, ⟨(.mv (.t 7)), (some 39), (some (37, false)), [45], []⟩, ⟨(.iaddr 15 (.t 38) (.t 39)), (some 40), (some (37, false)), [45], []⟩, ⟨(.faddr 7 (.t 40)), (some 41), (some (37, false)), [45], []⟩, ⟨(.faddr 3 (.t 41)), (some 42), (some (37, false)), [45], []⟩, ⟨(.load 1 false (.t 42)), (some 43), (some (37, false)), [45], []⟩, ⟨(.mv (.t 2)), (some 44), (some (37, false)), [45], []⟩, ⟨(.callv (.c (.clo 28 [] [])) [(.t 43), (.t 44)]), (some 45), (some (37, false)), [], []⟩, ⟨(.un .not (.t 45)), (some 46), (some (37, false)), [], []⟩, ⟨(.pick (.t 37) (.c (.bool true)) (.t 46)), (some 47), none, [], []⟩]
def r_rLt_5 : Reg := ⟨[], t_rLt_5, [24, 45], [], false⟩
def r_rLt_6 : Reg := ⟨[], [⟨(.mv (.c (.bool false))), (some 6), none, [], []⟩], [], [], false⟩
def t_rLt_7 : List ROp := [⟨(.mv (.t 7)), (some 16), none, [], []⟩, ⟨(.bin .add (.t 16) (.c (.int .i64 1))), (some 17), none, [], []⟩, ⟨(.mv (.t 17)), (some 7), none, [], []⟩]
def r_rLt_7 : Reg := ⟨[], t_rLt_7, [], [], false⟩
def r_rLt_l8 : IR := (.seq (.seq (.reg r_rLt_4)
  (.cond (.t 15) .skip
  (.exit 0)))
  (.seq (.block 1 (.seq (.reg r_rLt_5)
  (.cond (.t 47) (.seq (.reg r_rLt_6)
  .ret)
  .skip)))
  (.reg r_rLt_7)))
def r_rLt_9 : Reg := ⟨[], [⟨(.mv (.c (.bool true))), (some 6), none, [], []⟩], [], [], false⟩
def ir_rLt : IR := (.seq (.reg r_rLt_0)
  (.seq (.seq (.reg r_rLt_1)
  (.cond (.t 11) (.seq (.reg r_rLt_2)
  .ret)
  .skip))
  (.seq (.seq (.reg r_rLt_3)
  (.block 0 (.loop r_rLt_l8)))
  (.seq (.reg r_rLt_9)
  .ret))))
def res_rLt : List RDesc := [(.tmp 6)]
theorem e_rLt_0 (C : FuncId → List AV → AV → Prop) (σ : St) (K : St → Prop) : runReg C r_rLt_0 σ K = runOps C [⟨(.mv (.c (.bool false))), (some 6), none, [], []⟩] (σ.kills []) K := rfl
theorem e_rLt_1 (C : FuncId → List AV → AV → Prop) (σ : St) (K : St → Prop) : runReg C r_rLt_1 σ K = runOps C t_rLt_1 (σ.kills []) K := rfl
theorem e_rLt_2 (C : FuncId → List AV → AV → Prop) (σ : St) (K : St → Prop) : runReg C r_rLt_2 σ K = runOps C [⟨(.mv (.c (.bool false))), (some 6), none, [], []⟩] (σ.kills []) K := rfl
theorem e_rLt_3 (C : FuncId → List AV → AV → Prop) (σ : St) (K : St → Prop) : runReg C r_rLt_3 σ K = runOps C [⟨(.mv (.c (.int .i64 0))), (some 7), none, [], []⟩] (σ.kills []) K := rfl
theorem e_rLt_4 (C : FuncId → List AV → AV → Prop) (σ : St) (K : St → Prop) : runReg C r_rLt_4 σ K = runOps C t_rLt_4 (σ.kills []) K := rfl
theorem e_rLt_5 (C : FuncId → List AV → AV → Prop) (σ : St) (K : St → Prop) : runReg C r_rLt_5 σ K = runOps C t_rLt_5 (σ.kills [24, 45]) K := rfl
theorem e_rLt_6 (C : FuncId → List AV → AV → Prop) (σ : St) (K : St → Prop) : runReg C r_rLt_6 σ K = runOps C [⟨(.mv (.c (.bool false))), (some 6), none, [], []⟩] (σ.kills []) K := rfl
theorem e_rLt_7 (C : FuncId → List AV → AV → Prop) (σ : St) (K : St → Prop) : runReg C r_rLt_7 σ K = runOps C t_rLt_7 (σ.kills []) K := rfl
theorem e_rLt_9 (C : FuncId → List AV → AV → Prop) (σ : St) (K : St → Prop) : runReg C r_rLt_9 σ K = runOps C [⟨(.mv (.c (.bool true))), (some 6), none, [], []⟩] (σ.kills []) K := rfl
theorem fn_rLt {args : List AV} {r : AV} (ha : args.length.ble Try.f5.ntmps = true) (h : run (AFn Try.prog) ir_rLt (endQ res_rLt r) (initSt args)) : AFn Try.prog 5 args r :=
  AFn.of_code (pv := false) (hint := fun _ => []) (c := Try.f5.body.getD .skip) (by kernel_rfl) (by kernel_rfl) Try.func5 (by kernel_rfl) (by kernel_rfl) (by kernel_rfl) (of_decide_eq_true (by kernel_rfl)) (Nat.le_of_ble_eq_true ha) (Nat.le_of_ble_eq_true (by kernel_rfl)) (run_ok h)
attribute [local go_sem ↓] ir_l7
attribute [local go_sem] res_l7 e_l7_0 e_l7_1 t_l7_1
attribute [local go_sem ↓] ir_rLt
attribute [local go_sem] res_rLt e_rLt_0 e_rLt_1 t_rLt_1 e_rLt_2 e_rLt_3 e_rLt_4 t_rLt_4 e_rLt_5 t_rLt_5 e_rLt_6 e_rLt_7 t_rLt_7 e_rLt_9
def opL (o : Opr) (n : Int) : Bool := decide ((o.key.size : Int) ≤ n) && (decide ((o.hi.size : Int) ≤ n) && decide ((o.val.size : Int) ≤ n))
theorem l7_ok (o : Opr) (n : Int) : AFn Try.prog 27 [o.a, .int .i64 n] (.bool (opL o n)) := by
  refine fn_l7 rfl ?_
  unfold opL
  by_cases c1 : (o.key.size : Int) ≤ n
  · rw [decide_eq_true c1, Bool.true_and]
    by_cases c2 : (o.hi.size : Int) ≤ n
    · rw [decide_eq_true c2, Bool.true_and]
      by_cases c3 : (o.val.size : Int) ≤ n
      · rw [decide_eq_true c3]
        simp (maxSteps := 4000000) only [go_sem, ↓reduceIte, reduceCtorEq, Nat.reduceEqDiff, Nat.reduceBEq, Nat.reduceAdd, Nat.reduceSub, Nat.reduceMul, Nat.reduceLT, Nat.reduceLeDiff, Nat.reduceBNe, Int.reduceBEq, Int.reduceBNe, Int.reduceLT, Int.reduceLE, Par.a, Opr.a, Ans.a, nul, c1, c2, c3]
      · rw [decide_eq_false c3]
        simp (maxSteps := 4000000) only [go_sem, ↓reduceIte, reduceCtorEq, Nat.reduceEqDiff, Nat.reduceBEq, Nat.reduceAdd, Nat.reduceSub, Nat.reduceMul, Nat.reduceLT, Nat.reduceLeDiff, Nat.reduceBNe, Int.reduceBEq, Int.reduceBNe, Int.reduceLT, Int.reduceLE, Par.a, Opr.a, Ans.a, nul, c1, c2, c3]
    · rw [decide_eq_false c2, Bool.false_and]
      simp (maxSteps := 4000000) only [go_sem, ↓reduceIte, reduceCtorEq, Nat.reduceEqDiff, Nat.reduceBEq, Nat.reduceAdd, Nat.reduceSub, Nat.reduceMul, Nat.reduceLT, Nat.reduceLeDiff, Nat.reduceBNe, Int.reduceBEq, Int.reduceBNe, Int.reduceLT, Int.reduceLE, Par.a, Opr.a, Ans.a, nul, c1, c2]
  · rw [decide_eq_false c1, Bool.false_and]
    simp (maxSteps := 4000000) only [go_sem, ↓reduceIte, reduceCtorEq, Nat.reduceEqDiff, Nat.reduceBEq, Nat.reduceAdd, Nat.reduceSub, Nat.reduceMul, Nat.reduceLT, Nat.reduceLeDiff, Nat.reduceBNe, Int.reduceBEq, Int.reduceBNe, Int.reduceLT, Int.reduceLE, Par.a, Opr.a, Ans.a, nul, c1]
def evL (n : Int) (e : Evt) : Bool := opL e.op n && (decide ((e.ans.val.size : Int) ≤ n) && decide ((sumN Par.bulk e.ans.prs : Int) ≤ n))
def lightE (l : List Evt) (n most : Int) : Bool := decide ((l.length : Int) ≤ n) && l.all (evL most)
def rLtInv (l : List Evt) (n most : Int) (R : Bool) (k : Nat) (σ : St) : Prop :=
  ∃ j : Nat, j ≤ l.length ∧ k = l.length - j ∧ σ.T 0 = .sl (l.map Evt.a) ∧ σ.T 2 = .int .i64 most ∧ σ.T 7 = .int .i64 j ∧ (l.drop j).all (evL most) = R
set_option maxHeartbeats 2000000 in
theorem rLt_ok (l : List Evt) (n most : Int) (h1 : 0 ≤ most) (h2 : most ≤ 1000000) (hs : ∀ x, x ∈ l → x.ok) (hl : l.length ≤ 281474976710656) :
    AFn Try.prog 5 [.sl (l.map Evt.a), .int .i64 n, .int .i64 most] (.bool (lightE l n most)) := by
  refine fn_rLt rfl ?_
  unfold lightE
  by_cases hn : (l.length : Int) ≤ n
  case neg =>
    have hn' : n < (l.length : Int) := by omega
    rw [decide_eq_false hn, Bool.false_and]
    simp (maxSteps := 4000000) only [go_sem, ↓reduceIte, reduceCtorEq, Nat.reduceEqDiff, Nat.reduceBEq, Nat.reduceAdd, Nat.reduceSub, Nat.reduceMul, Nat.reduceLT, Nat.reduceLeDiff, Nat.reduceBNe, Int.reduceBEq, Int.reduceBNe, Int.reduceLT, Int.reduceLE, Par.a, Opr.a, Ans.a, nul, hn', List.length_map]
  have hn' : ¬ n < (l.length : Int) := by omega
  rw [decide_eq_true hn, Bool.true_and]
  obtain ⟨R, hR⟩ : ∃ R, l.all (evL most) = R := ⟨_, rfl⟩
  rw [hR]
  simp (maxSteps := 4000000) only [go_sem, ↓reduceIte, reduceCtorEq, Nat.reduceEqDiff, Nat.reduceBEq, Nat.reduceAdd, Nat.reduceSub, Nat.reduceMul, Nat.reduceLT, Nat.reduceLeDiff, Nat.reduceBNe, Int.reduceBEq, Int.reduceBNe, Int.reduceLT, Int.reduceLE, Par.a, Opr.a, Ans.a, nul, hn', List.length_map]
  refine run_loop (rLtInv l n most R) (k := l.length) ⟨0, by omega, rfl, ?_, ?_, ?_, hR⟩ ?_
  · (simp (maxSteps := 4000000) only [go_sem, ↓reduceIte, reduceCtorEq, Nat.reduceEqDiff, Nat.reduceBEq, Nat.reduceAdd, Nat.reduceSub, Nat.reduceMul, Nat.reduceLT, Nat.reduceLeDiff, Nat.reduceBNe, Int.reduceBEq, Int.reduceBNe, Int.reduceLT, Int.reduceLE, Par.a, Opr.a, Ans.a, nul]) <;> rfl
  · (simp (maxSteps := 4000000) only [go_sem, ↓reduceIte, reduceCtorEq, Nat.reduceEqDiff, Nat.reduceBEq, Nat.reduceAdd, Nat.reduceSub, Nat.reduceMul, Nat.reduceLT, Nat.reduceLeDiff, Nat.reduceBNe, Int.reduceBEq, Int.reduceBNe, Int.reduceLT, Int.reduceLE, Par.a, Opr.a, Ans.a, nul]) <;> rfl
  · (simp (maxSteps := 4000000) only [go_sem, ↓reduceIte, reduceCtorEq, Nat.reduceEqDiff, Nat.reduceBEq, Nat.reduceAdd, Nat.reduceSub, Nat.reduceMul, Nat.reduceLT, Nat.reduceLeDiff, Nat.reduceBNe, Int.reduceBEq, Int.reduceBNe, Int.reduceLT, Int.reduceLE, Par.a, Opr.a, Ans.a, nul]) <;> rfl
  clear hR hn hn'
  rintro k σ ⟨j, hj, rfl, t0, t2, t7, hr⟩
  simp only [r_rLt_l8]
  by_cases hlt : j < l.length
  case neg =>
    have hlt' : ¬ (j : Int) < (l.length : Int) := by omega
    rw [List.drop_eq_nil_of_le (by omega), List.all_nil] at hr
    subst hr
    simp (maxSteps := 4000000) only [go_sem, ↓reduceIte, reduceCtorEq, Nat.reduceEqDiff, Nat.reduceBEq, Nat.reduceAdd, Nat.reduceSub, Nat.reduceMul, Nat.reduceLT, Nat.reduceLeDiff, Nat.reduceBNe, Int.reduceBEq, Int.reduceBNe, Int.reduceLT, Int.reduceLE, Par.a, Opr.a, Ans.a, nul, t0, t2, t7, hlt', List.length_map]
  have hlt' : (j : Int) < (l.length : Int) := by omega
  obtain ⟨x, hx⟩ := get_lt hlt
  have hgx := at_map (f := Evt.a) hx
  have hxo := hs x (List.mem_of_getElem? hx)
  have c1 := l7_ok x.op most
  have c2 := rLong9_ok x.ans.prs most h1 h2 (fun m hm => by have := hxo.ans.prs.2 m hm; exact ⟨this.key, this.val⟩) hxo.ans.prs.1
  simp only [Evt.a] at hgx
  simp only [Opr.a] at c1
  have hw := wrapS (j := j) (by omega)
  rw [drop_at hx, List.all_cons] at hr
  have hb : evL most x = (opL x.op most && (decide ((x.ans.val.size : Int) ≤ most) && decide ((sumN Par.bulk x.ans.prs : Int) ≤ most))) := rfl
  rw [hb] at hr
  generalize decide ((sumN Par.bulk x.ans.prs : Int) ≤ most) = b3 at *
  generalize opL x.op most = b1 at *
  cases b1
  · simp only [Bool.false_and] at hr
    subst hr
    (repeat (first | simp (maxSteps := 4000000) only [go_sem, ↓reduceIte, reduceCtorEq, Nat.reduceEqDiff, Nat.reduceBEq, Nat.reduceAdd, Nat.reduceSub, Nat.reduceMul, Nat.reduceLT, Nat.reduceLeDiff, Nat.reduceBNe, Int.reduceBEq, Int.reduceBNe, Int.reduceLT, Int.reduceLE, Par.a, Opr.a, Ans.a, nul, t0, t2, t7, hlt', hgx, hlt, List.length_map, Int.toNat_natCast] | refine calling (c1) ?_ | refine callingH (c1) ?_ | refine calling (c2) ?_ | refine callingH (c2) ?_ | refine And.intro (by omega) ?_ | refine And.intro (fun d hd => by (repeat (rcases hd with rfl | hd; · exact ⟨rfl, rfl⟩)); cases hd) ?_))
  by_cases q : (x.ans.val.size : Int) ≤ most
  · have q' : ¬ most < (x.ans.val.size : Int) := by omega
    rw [decide_eq_true q] at hr
    cases b3
    · simp only [Bool.and_false, Bool.false_and] at hr
      subst hr
      (repeat (first | simp (maxSteps := 4000000) only [go_sem, ↓reduceIte, reduceCtorEq, Nat.reduceEqDiff, Nat.reduceBEq, Nat.reduceAdd, Nat.reduceSub, Nat.reduceMul, Nat.reduceLT, Nat.reduceLeDiff, Nat.reduceBNe, Int.reduceBEq, Int.reduceBNe, Int.reduceLT, Int.reduceLE, Par.a, Opr.a, Ans.a, nul, t0, t2, t7, hlt', hgx, hlt, q', List.length_map, Int.toNat_natCast] | refine calling (c1) ?_ | refine callingH (c1) ?_ | refine calling (c2) ?_ | refine callingH (c2) ?_ | refine And.intro (by omega) ?_ | refine And.intro (fun d hd => by (repeat (rcases hd with rfl | hd; · exact ⟨rfl, rfl⟩)); cases hd) ?_))
    · simp only [Bool.true_and] at hr
      (repeat (first | simp (maxSteps := 4000000) only [go_sem, ↓reduceIte, reduceCtorEq, Nat.reduceEqDiff, Nat.reduceBEq, Nat.reduceAdd, Nat.reduceSub, Nat.reduceMul, Nat.reduceLT, Nat.reduceLeDiff, Nat.reduceBNe, Int.reduceBEq, Int.reduceBNe, Int.reduceLT, Int.reduceLE, Par.a, Opr.a, Ans.a, nul, t0, t2, t7, hlt', hgx, hlt, q', hw, List.length_map, Int.toNat_natCast] | refine calling (c1) ?_ | refine callingH (c1) ?_ | refine calling (c2) ?_ | refine callingH (c2) ?_ | refine And.intro (by omega) ?_ | refine And.intro (fun d hd => by (repeat (rcases hd with rfl | hd; · exact ⟨rfl, rfl⟩)); cases hd) ?_))
      refine ⟨l.length - (j + 1), by omega, j + 1, by omega, rfl, ?_, ?_, ?_, hr⟩
      · simp (maxSteps := 4000000) only [go_sem, ↓reduceIte, reduceCtorEq, Nat.reduceEqDiff, Nat.reduceBEq, Nat.reduceAdd, Nat.reduceSub, Nat.reduceMul, Nat.reduceLT, Nat.reduceLeDiff, Nat.reduceBNe, Int.reduceBEq, Int.reduceBNe, Int.reduceLT, Int.reduceLE, Par.a, Opr.a, Ans.a, nul, t0]
      · simp (maxSteps := 4000000) only [go_sem, ↓reduceIte, reduceCtorEq, Nat.reduceEqDiff, Nat.reduceBEq, Nat.reduceAdd, Nat.reduceSub, Nat.reduceMul, Nat.reduceLT, Nat.reduceLeDiff, Nat.reduceBNe, Int.reduceBEq, Int.reduceBNe, Int.reduceLT, Int.reduceLE, Par.a, Opr.a, Ans.a, nul, t2]
      · simp (maxSteps := 4000000) only [go_sem, ↓reduceIte, reduceCtorEq, Nat.reduceEqDiff, Nat.reduceBEq, Nat.reduceAdd, Nat.reduceSub, Nat.reduceMul, Nat.reduceLT, Nat.reduceLeDiff, Nat.reduceBNe, Int.reduceBEq, Int.reduceBNe, Int.reduceLT, Int.reduceLE, Par.a, Opr.a, Ans.a, nul, hw]
  · have q' : most < (x.ans.val.size : Int) := by omega
    rw [decide_eq_false q] at hr
    simp only [Bool.false_and, Bool.and_false] at hr
    subst hr
    (repeat (first | simp (maxSteps := 4000000) only [go_sem, ↓reduceIte, reduceCtorEq, Nat.reduceEqDiff, Nat.reduceBEq, Nat.reduceAdd, Nat.reduceSub, Nat.reduceMul, Nat.reduceLT, Nat.reduceLeDiff, Nat.reduceBNe, Int.reduceBEq, Int.reduceBNe, Int.reduceLT, Int.reduceLE, Par.a, Opr.a, Ans.a, nul, t0, t2, t7, hlt', hgx, hlt, q', List.length_map, Int.toNat_natCast] | refine calling (c1) ?_ | refine callingH (c1) ?_ | refine calling (c2) ?_ | refine callingH (c2) ?_ | refine And.intro (by omega) ?_ | refine And.intro (fun d hd => by (repeat (rcases hd with rfl | hd; · exact ⟨rfl, rfl⟩)); cases hd) ?_))
    all_goals omega
end
end Go.Proofs.Ytjkicoiiadgebaa
