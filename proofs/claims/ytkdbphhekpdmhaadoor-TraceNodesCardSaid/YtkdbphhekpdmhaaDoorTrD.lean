/-
  Traces: nodes as lines: the code, walked.
-/
import Derived.Test.YtkdbphhekpdmhaaDoorTrC
namespace Go.Proofs.YtkdbphhekpdmhaaDoor
open Go.RowKit
set_option linter.unusedVariables false
set_option linter.unusedSimpArgs false
set_option maxRecDepth 100000
attribute [local go_sem ↓] runOp headOp
attribute [local go_sem] ev0 ev1 ev2 ev3 ev4 evA stHOk.eq_1 stHOk.eq_2 stHSt.eq_1 stHSt.eq_2 okV valV fzV okF valF okBld valBld mxOk.eq_1 mxOk.eq_2 mxVal.eq_1 mxVal.eq_2 cellFit.eq_1 cellFit.eq_2 cellFit.eq_3 cellEq.eq_1 cellEq.eq_2 cellEq.eq_3 upd_at AV.flatB AV.flatBs binIok binIV binSok binSV cellsOk.eq_1 cellsOk.eq_2 cellsVal.eq_1 cellsVal.eq_2 objCells.eq_1 objCells.eq_2 objZ.eq_1 objZ.eq_2 objProt.eq_1 objProt.eq_2 oneObj ptrOk.eq_1 ptrOk.eq_2 ptrOk.eq_3 ptrCells.eq_1 ptrCells.eq_2 ptrCells.eq_3 lenOk.eq_1 lenOk.eq_2 lenOk.eq_3 lenOk.eq_4 lenVal.eq_1 lenVal.eq_2 lenVal.eq_3 lenVal.eq_4 faOk.eq_1 faOk.eq_2 faOk.eq_3 faVal.eq_1 faVal.eq_2 faVal.eq_3 iaOk.eq_1 iaOk.eq_2 iaOk.eq_3 iaVal.eq_1 iaVal.eq_2 iaVal.eq_3 slcLen.eq_1 slcLen.eq_2 slcLen.eq_3 slcLen.eq_4 bdOk.eq_1 bdOk.eq_2 bdVal.eq_1 bdVal.eq_2 slcOk.eq_1 slcOk.eq_2 slcOk.eq_3 slcOk.eq_4 slcVal.eq_1 slcVal.eq_2 slcVal.eq_3 slcVal.eq_4 slcFz.eq_1 slcFz.eq_2 byOk.eq_1 byOk.eq_2 byOk.eq_3 byOk.eq_4 byOk.eq_5 byOk.eq_6 byOk.eq_7 byVal.eq_1 byVal.eq_2 byVal.eq_3 byFz.eq_1 byFz.eq_2 byFz.eq_3 byOks byVals byFzs allOne resSt.eq_1 resSt.eq_2 resName.eq_1 resName.eq_2 stOk.eq_1 stOk.eq_2 stArr.eq_1 stArr.eq_2 stSt.eq_1 stSt.eq_2 AV.patch nameOk_none gB.eq_1 gB.eq_2 gB.eq_3 gIs.eq_1 gIs.eq_2 gIs.eq_3 retV resV resVs evalV cellsV St.byval List.getD_cons_zero List.getD_cons_succ List.getD_nil List.map_cons List.map_nil List.length_cons List.length_nil List.take_succ_cons List.take_zero List.drop_succ_cons List.drop_zero List.headD_cons List.set_cons_zero List.append_nil List.nil_append List.cons_append List.contains_cons List.contains_nil List.elem_cons List.elem_nil List.all_cons List.all_nil List.getElem?_cons_zero List.getElem?_cons_succ List.filterMap_cons List.filterMap_nil Option.isSome_some Option.isSome_none Option.map_some Option.map_none Option.some.injEq AV.int.injEq AV.bool.injEq AV.str.injEq AV.tup.injEq AV.agg.injEq AV.sl.injEq List.cons.injEq Bool.false_eq_true Bool.true_eq_false Bool.not_true Bool.not_false Bool.and_true Bool.true_and Bool.or_false Bool.or_true Bool.false_or Bool.true_or Bool.or_self Bool.and_self Bool.not_eq_true' Bool.not_eq_false' Bool.not_not beq_self_eq_true true_and and_true false_and and_false and_self not_true_eq_false not_false_eq_true forall_const true_implies false_implies implies_true imp_self Nat.lt_add_one Nat.le_refl Nat.zero_le Nat.add_zero Nat.zero_add decide_true decide_false decide_eq_true_eq decide_eq_false_iff_not exists_eq_left exists_eq_left' ge_iff_le gt_iff_lt ite_branch ite_branch' nilOk.eq_1 nilOk.eq_2 nilMay.eq_1 nilMay.eq_2 AV.isSl.eq_1 objTy'.eq_1 objTy'.eq_2 apSt.eq_1 apArr.eq_1 apArr.eq_2 slOf.eq_1 fitsV List.mem_cons List.not_mem_nil Bool.false_and Bool.and_false primOk.eq_1 primOk.eq_2 primOk.eq_3 primOk.eq_4 primOk.eq_5 primVal.eq_1 primVal.eq_2 primVal.eq_3 primVal.eq_4 primVal.eq_5 mOk.eq_1 mOk.eq_2 mVal.eq_1 mVal.eq_2 mFz.eq_1 mFz.eq_2 mOks mVals mFzs mCalOk.eq_1 mCalOk.eq_2 mFn.eq_1 mFn.eq_2 mArgs.eq_1 mArgs.eq_2 ckOk.eq_1 ckOk.eq_2 cloOk.eq_1 ptrAt.eq_1 sh.eq_1 sh.eq_2 sh.eq_3 sh.eq_4 sh.eq_5 retM shH_small
attribute [local go_sem ↓] ir_tNode
attribute [local go_sem] res_tNode e_tNode_0 e_tNode_1 e_tNode_2 e_tNode_3 e_tNode_4 e_tNode_5 e_tNode_6 e_tNode_7 e_tNode_8 e_tNode_9 e_tNode_11

theorem msgLine_size (m : Msg) (hs : -9223372036854775808 ≤ m.stamp ∧ m.stamp ≤ 9223372036854775807) (h1 : m.key.size ≤ 2000) (h2 : m.hi.size ≤ 2000) (h3 : m.val.size ≤ 2000) : m.line.size ≤ 24100 := by
  have d1 := decS_small m.stamp hs.1 hs.2
  have q1 := quoteF_size m.key
  have q2 := quoteF_size m.hi
  have q3 := quoteF_size m.val
  have e : (⟨#[32]⟩ : ByteArray).size = 1 := rfl
  have hl : ([decS m.stamp, m.word, quoteF m.key] ++ m.rest).length ≤ 4 := by
    unfold Msg.rest
    repeat' split
    all_goals simp
  have h := joinB_size (⟨#[32]⟩ : ByteArray) 6002 ([decS m.stamp, m.word, quoteF m.key] ++ m.rest) (fun x hx => by
    rw [e]
    rcases List.mem_append.1 hx with hx | hx
    · simp only [List.mem_cons, List.not_mem_nil, or_false] at hx
      rcases hx with rfl | rfl | rfl
      · omega
      · unfold Msg.word
        repeat' split
        all_goals decide
      · omega
    · unfold Msg.rest at hx
      split at hx
      · rw [List.mem_singleton.1 hx]; omega
      · split at hx
        · split at hx
          · rw [List.mem_singleton.1 hx]; decide
          · rw [List.mem_singleton.1 hx]; omega
        · cases hx)
  have h2 := Nat.mul_le_mul_right 6002 hl
  unfold Msg.line
  omega
def msgsT (n : Nd) (j : Nat) : ByteArray := (⟨#[109, 115, 103, 115]⟩ : ByteArray) ++ (⟨#[32]⟩ : ByteArray) ++ decS n.msgs.length ++ catF (fun m => (⟨#[32, 44, 32]⟩ : ByteArray) ++ m.line) (n.msgs.take j)
theorem msgsT_size {n : Nd} (h : n.Fit) (j : Nat) : (msgsT n j).size ≤ 49000000 := by
  have d1 := decS_small n.msgs.length (by have := h.nmsg; omega) (by have := h.nmsg; omega)
  have hc := catF_take_size (fun m : Msg => (⟨#[32, 44, 32]⟩ : ByteArray) ++ m.line) 24103 n.msgs j (fun m hm => by
    obtain ⟨a, b, c⟩ := h.ms m hm
    have := msgLine_size m (h.ok.msgs.2 m hm).stamp a b c
    have e : (⟨#[32, 44, 32]⟩ : ByteArray).size = 3 := rfl
    show (_ ++ _ : ByteArray).size ≤ _
    rw [ByteArray.size_append, e]; omega)
  have h2 := Nat.mul_le_mul_right 24103 h.nmsg
  have e1 : (⟨#[109, 115, 103, 115]⟩ : ByteArray).size = 4 := rfl
  have e2 : (⟨#[32]⟩ : ByteArray).size = 1 := rfl
  unfold msgsT
  rw [ByteArray.size_append, ByteArray.size_append, ByteArray.size_append, e1, e2]
  omega
theorem below_size {n : Nd} (h : n.Fit) : n.below.size ≤ 61000000 := by
  have e : (⟨#[32]⟩ : ByteArray).size = 1 := rfl
  unfold Nd.below
  split
  · have hp := fit_pairs h.nrow h.rws
    have := joinB_size (⟨#[32]⟩ : ByteArray) 30000001 [(⟨#[114, 111, 119, 115]⟩ : ByteArray), pairsF n.rows] (fun x hx => by
      simp only [List.mem_cons, List.not_mem_nil, or_false] at hx
      rcases hx with rfl | rfl
      · decide
      · rw [e]; omega)
    simp only [List.length_cons, List.length_nil] at this
    omega
  · have hc := catF_size (fun y : ByteArray => (⟨#[32]⟩ : ByteArray) ++ y) 6002 (kidsW n.pivots 0 n.kids) (fun x hx => by
      have := kidsW_size n.pivots h.pivs n.kids 0 h.ok.kids.2 x hx
      show (_ ++ _ : ByteArray).size ≤ _
      rw [ByteArray.size_append, e]; omega)
    have hl := kidsW_len n.pivots n.kids 0
    have := Nat.mul_le_mul_right 6002 hl
    have h3 := Nat.mul_le_mul_right 12004 h.nkid
    have e1 : (⟨#[107, 105, 100, 115]⟩ : ByteArray).size = 4 := rfl
    rw [ByteArray.size_append, e1]; omega
def tnInv (n : Nd) (e : ByteArray) (k : Nat) (σ : St) : Prop :=
  ∃ j : Nat, j ≤ n.msgs.length ∧ k = n.msgs.length - j ∧ σ.T 1 = .ptr 1 0 0 ∧ σ.H 1 = some ⟨10, 34, [n.a], 0⟩ ∧ σ.T 3 = .str e ∧ σ.T 4 = .str (msgsT n j) ∧ σ.T 19 = .sl (n.msgs.map Msg.a) ∧ σ.T 20 = .int .i64 n.msgs.length ∧ σ.T 21 = .int .i64 j
theorem tNode_core (n : Nd) (h : n.Fit) (e : ByteArray) (he : e = if n.top then (⟨#[42]⟩ : ByteArray) else quoteF n.high) : AFn Tryd.prog 32 [n.a] (.str n.line) := by
  refine fn_tNode rfl ?_
  have hnm := h.nmsg
  have d0 := decS_small n.msgs.length (by omega) (by omega)
  have qh := quoteF_size n.high
  have hh := h.hi
  have es : e.size ≤ 6001 := by
    rw [he]; split
    · decide
    · omega
  have c0 := quote_ok n.high (by omega)
  have c1 := dec_ok n.msgs.length ⟨by omega, by omega⟩
  have c2 := tLine_ok [(⟨#[109, 115, 103, 115]⟩ : ByteArray), decS n.msgs.length] 100 (by simp) (by omega) (by simp [baz]; omega)
  have e2 : joinB [(⟨#[109, 115, 103, 115]⟩ : ByteArray), decS n.msgs.length] (⟨#[32]⟩ : ByteArray) = msgsT n 0 := by
    rw [joinB2]; unfold msgsT; exact (ba_nil _).symm
  rw [e2] at c2
  have cb := tBelow_ok n h
  have bs := below_size h
  have ms := msgsT_size h n.msgs.length
  have em : msgsT n n.msgs.length = msgsF n.msgs := by unfold msgsT msgsF; rw [List.take_length]
  have k1 := dec_ok n.slot h.ok.slot
  have k2 := dec_ok n.level h.ok.level
  have k3 := dec_ok n.seen h.ok.seen
  have k4 := dec_ok n.right h.ok.right
  have z1 := decS_small n.slot h.ok.slot.1 h.ok.slot.2
  have z2 := decS_small n.level h.ok.level.1 h.ok.level.2
  have z3 := decS_small n.seen h.ok.seen.1 h.ok.seen.2
  have z4 := decS_small n.right h.ok.right.1 h.ok.right.2
  have cl := tLine_ok [(⟨#[110, 111, 100, 101]⟩ : ByteArray), decS n.slot, decS n.level, decS n.seen, decS n.right, e, (⟨#[58]⟩ : ByteArray), n.below, (⟨#[58]⟩ : ByteArray), msgsT n n.msgs.length] 100000000 (by simp) (by omega) (by simp [baz]; omega)
  have el : n.line = joinB [(⟨#[110, 111, 100, 101]⟩ : ByteArray), decS n.slot, decS n.level, decS n.seen, decS n.right, e, (⟨#[58]⟩ : ByteArray), n.below, (⟨#[58]⟩ : ByteArray), msgsT n n.msgs.length] (⟨#[32]⟩ : ByteArray) := by
    unfold Nd.line; rw [em, he]
  rw [el]
  cases ht : n.top with
  | true =>
    rw [ht] at he
    simp only [if_true] at he
    (repeat (first | simp (maxSteps := 4000000) only [go_sem, ↓reduceIte, reduceCtorEq, Nat.reduceEqDiff, Nat.reduceBEq, Nat.reduceAdd, Nat.reduceSub, Nat.reduceMul, Nat.reduceLT, Nat.reduceLeDiff, Nat.reduceBNe, Int.reduceBEq, Int.reduceBNe, Int.reduceLT, Int.reduceLE, Msg.a, Par.a, Nd.a, ht, List.length_map] | refine calling (c0) ?_ | refine callingH (c0) ?_ | refine calling (c1) ?_ | refine callingH (c1) ?_ | refine calling (c2) ?_ | refine callingH (c2) ?_ | refine And.intro (by omega) ?_ | refine And.intro (fun d hd => by (repeat (rcases hd with rfl | hd; · exact ⟨rfl, rfl⟩)); cases hd) ?_))
    refine run_loop (tnInv n e) (k := n.msgs.length) ⟨0, by omega, rfl, ?_, ?_, ?_, ?_, ?_, ?_, ?_⟩ ?_
    · simp (maxSteps := 4000000) only [go_sem, ↓reduceIte, reduceCtorEq, Nat.reduceEqDiff, Nat.reduceBEq, Nat.reduceAdd, Nat.reduceSub, Nat.reduceMul, Nat.reduceLT, Nat.reduceLeDiff, Nat.reduceBNe, Int.reduceBEq, Int.reduceBNe, Int.reduceLT, Int.reduceLE, Msg.a, Par.a, Nd.a]
    · simp (maxSteps := 4000000) only [go_sem, ↓reduceIte, reduceCtorEq, Nat.reduceEqDiff, Nat.reduceBEq, Nat.reduceAdd, Nat.reduceSub, Nat.reduceMul, Nat.reduceLT, Nat.reduceLeDiff, Nat.reduceBNe, Int.reduceBEq, Int.reduceBNe, Int.reduceLT, Int.reduceLE, Msg.a, Par.a, Nd.a, ht]
    · simp (maxSteps := 4000000) only [go_sem, ↓reduceIte, reduceCtorEq, Nat.reduceEqDiff, Nat.reduceBEq, Nat.reduceAdd, Nat.reduceSub, Nat.reduceMul, Nat.reduceLT, Nat.reduceLeDiff, Nat.reduceBNe, Int.reduceBEq, Int.reduceBNe, Int.reduceLT, Int.reduceLE, Msg.a, Par.a, Nd.a, he]
    · simp (maxSteps := 4000000) only [go_sem, ↓reduceIte, reduceCtorEq, Nat.reduceEqDiff, Nat.reduceBEq, Nat.reduceAdd, Nat.reduceSub, Nat.reduceMul, Nat.reduceLT, Nat.reduceLeDiff, Nat.reduceBNe, Int.reduceBEq, Int.reduceBNe, Int.reduceLT, Int.reduceLE, Msg.a, Par.a, Nd.a]
    · simp (maxSteps := 4000000) only [go_sem, ↓reduceIte, reduceCtorEq, Nat.reduceEqDiff, Nat.reduceBEq, Nat.reduceAdd, Nat.reduceSub, Nat.reduceMul, Nat.reduceLT, Nat.reduceLeDiff, Nat.reduceBNe, Int.reduceBEq, Int.reduceBNe, Int.reduceLT, Int.reduceLE, Msg.a, Par.a, Nd.a]
    · simp (maxSteps := 4000000) only [go_sem, ↓reduceIte, reduceCtorEq, Nat.reduceEqDiff, Nat.reduceBEq, Nat.reduceAdd, Nat.reduceSub, Nat.reduceMul, Nat.reduceLT, Nat.reduceLeDiff, Nat.reduceBNe, Int.reduceBEq, Int.reduceBNe, Int.reduceLT, Int.reduceLE, Msg.a, Par.a, Nd.a, List.length_map]
    · simp (maxSteps := 4000000) only [go_sem, ↓reduceIte, reduceCtorEq, Nat.reduceEqDiff, Nat.reduceBEq, Nat.reduceAdd, Nat.reduceSub, Nat.reduceMul, Nat.reduceLT, Nat.reduceLeDiff, Nat.reduceBNe, Int.reduceBEq, Int.reduceBNe, Int.reduceLT, Int.reduceLE, Msg.a, Par.a, Nd.a]
      rfl
    rintro k σ ⟨j, hj, rfl, t1, o1, t3, t4, t19, t20, t21⟩
    simp only [r_tNode_l10]
    by_cases hlt : j < n.msgs.length
    · have hlt' : (j : Int) < (n.msgs.length : Int) := by omega
      obtain ⟨x, hx⟩ := get_lt hlt
      have hgj := at_map (f := Msg.a) hx
      simp only [Msg.a] at hgj
      have hw := wrapS (j := j) (by omega)
      obtain ⟨s1, s2, s3⟩ := h.ms x (List.mem_of_getElem? hx)
      have st := (h.ok.msgs.2 x (List.mem_of_getElem? hx)).stamp
      have c4 := tMsg_ok x st s1 s2 s3
      have ls := msgLine_size x st s1 s2 s3
      have ts := msgsT_size h j
      have c5 := tLine_ok [msgsT n j, (⟨#[44]⟩ : ByteArray), x.line] 50000000 (by simp) (by omega) (by simp [baz]; omega)
      have e5 : joinB [msgsT n j, (⟨#[44]⟩ : ByteArray), x.line] (⟨#[32]⟩ : ByteArray) = msgsT n (j + 1) := by
        rw [joinB3]
        unfold msgsT
        rw [take_at hx, catF_snoc]
        have e6 : (⟨#[32]⟩ : ByteArray) ++ (⟨#[44]⟩ : ByteArray) ++ (⟨#[32]⟩ : ByteArray) = (⟨#[32, 44, 32]⟩ : ByteArray) := by decide +kernel
        rw [← e6]
        simp only [ba_assoc]
      rw [e5] at c5
      (repeat (first | simp (maxSteps := 4000000) only [go_sem, ↓reduceIte, reduceCtorEq, Nat.reduceEqDiff, Nat.reduceBEq, Nat.reduceAdd, Nat.reduceSub, Nat.reduceMul, Nat.reduceLT, Nat.reduceLeDiff, Nat.reduceBNe, Int.reduceBEq, Int.reduceBNe, Int.reduceLT, Int.reduceLE, Msg.a, Par.a, Nd.a, t1, o1, t3, t4, t19, t20, t21, hlt', hgj, List.length_map, Int.toNat_natCast] | refine calling (c4) ?_ | refine callingH (c4) ?_ | refine calling (c5) ?_ | refine callingH (c5) ?_ | refine And.intro (by omega) ?_ | refine And.intro (fun d hd => by (repeat (rcases hd with rfl | hd; · exact ⟨rfl, rfl⟩)); cases hd) ?_))
      refine ⟨n.msgs.length - (j + 1), by omega, j + 1, by omega, rfl, ?_, ?_, ?_, ?_, ?_, ?_, ?_⟩ <;>
        (simp (maxSteps := 4000000) only [go_sem, ↓reduceIte, reduceCtorEq, Nat.reduceEqDiff, Nat.reduceBEq, Nat.reduceAdd, Nat.reduceSub, Nat.reduceMul, Nat.reduceLT, Nat.reduceLeDiff, Nat.reduceBNe, Int.reduceBEq, Int.reduceBNe, Int.reduceLT, Int.reduceLE, Msg.a, Par.a, Nd.a, t1, o1, t3, t4, t19, t20, t21, hw])
    · have hlt' : ¬ (j : Int) < (n.msgs.length : Int) := by omega
      obtain rfl : j = n.msgs.length := by omega
      (repeat (first | simp (maxSteps := 4000000) only [go_sem, ↓reduceIte, reduceCtorEq, Nat.reduceEqDiff, Nat.reduceBEq, Nat.reduceAdd, Nat.reduceSub, Nat.reduceMul, Nat.reduceLT, Nat.reduceLeDiff, Nat.reduceBNe, Int.reduceBEq, Int.reduceBNe, Int.reduceLT, Int.reduceLE, Msg.a, Par.a, Nd.a, t1, o1, t3, t4, t19, t20, t21, hlt', List.length_map, Int.toNat_natCast] | refine calling (k1) ?_ | refine callingH (k1) ?_ | refine calling (k2) ?_ | refine callingH (k2) ?_ | refine calling (k3) ?_ | refine callingH (k3) ?_ | refine calling (k4) ?_ | refine callingH (k4) ?_ | refine calling (cb) ?_ | refine callingH (cb) ?_ | refine calling (cl) ?_ | refine callingH (cl) ?_ | refine And.intro (by omega) ?_ | refine And.intro (fun d hd => by (repeat (rcases hd with rfl | hd; · exact ⟨rfl, rfl⟩)); cases hd) ?_))
  | false =>
    rw [ht] at he
    simp only [Bool.false_eq_true, if_false] at he
    (repeat (first | simp (maxSteps := 4000000) only [go_sem, ↓reduceIte, reduceCtorEq, Nat.reduceEqDiff, Nat.reduceBEq, Nat.reduceAdd, Nat.reduceSub, Nat.reduceMul, Nat.reduceLT, Nat.reduceLeDiff, Nat.reduceBNe, Int.reduceBEq, Int.reduceBNe, Int.reduceLT, Int.reduceLE, Msg.a, Par.a, Nd.a, ht, List.length_map] | refine calling (c0) ?_ | refine callingH (c0) ?_ | refine calling (c1) ?_ | refine callingH (c1) ?_ | refine calling (c2) ?_ | refine callingH (c2) ?_ | refine And.intro (by omega) ?_ | refine And.intro (fun d hd => by (repeat (rcases hd with rfl | hd; · exact ⟨rfl, rfl⟩)); cases hd) ?_))
    refine run_loop (tnInv n e) (k := n.msgs.length) ⟨0, by omega, rfl, ?_, ?_, ?_, ?_, ?_, ?_, ?_⟩ ?_
    · simp (maxSteps := 4000000) only [go_sem, ↓reduceIte, reduceCtorEq, Nat.reduceEqDiff, Nat.reduceBEq, Nat.reduceAdd, Nat.reduceSub, Nat.reduceMul, Nat.reduceLT, Nat.reduceLeDiff, Nat.reduceBNe, Int.reduceBEq, Int.reduceBNe, Int.reduceLT, Int.reduceLE, Msg.a, Par.a, Nd.a]
    · simp (maxSteps := 4000000) only [go_sem, ↓reduceIte, reduceCtorEq, Nat.reduceEqDiff, Nat.reduceBEq, Nat.reduceAdd, Nat.reduceSub, Nat.reduceMul, Nat.reduceLT, Nat.reduceLeDiff, Nat.reduceBNe, Int.reduceBEq, Int.reduceBNe, Int.reduceLT, Int.reduceLE, Msg.a, Par.a, Nd.a, ht]
    · simp (maxSteps := 4000000) only [go_sem, ↓reduceIte, reduceCtorEq, Nat.reduceEqDiff, Nat.reduceBEq, Nat.reduceAdd, Nat.reduceSub, Nat.reduceMul, Nat.reduceLT, Nat.reduceLeDiff, Nat.reduceBNe, Int.reduceBEq, Int.reduceBNe, Int.reduceLT, Int.reduceLE, Msg.a, Par.a, Nd.a, he]
    · simp (maxSteps := 4000000) only [go_sem, ↓reduceIte, reduceCtorEq, Nat.reduceEqDiff, Nat.reduceBEq, Nat.reduceAdd, Nat.reduceSub, Nat.reduceMul, Nat.reduceLT, Nat.reduceLeDiff, Nat.reduceBNe, Int.reduceBEq, Int.reduceBNe, Int.reduceLT, Int.reduceLE, Msg.a, Par.a, Nd.a]
    · simp (maxSteps := 4000000) only [go_sem, ↓reduceIte, reduceCtorEq, Nat.reduceEqDiff, Nat.reduceBEq, Nat.reduceAdd, Nat.reduceSub, Nat.reduceMul, Nat.reduceLT, Nat.reduceLeDiff, Nat.reduceBNe, Int.reduceBEq, Int.reduceBNe, Int.reduceLT, Int.reduceLE, Msg.a, Par.a, Nd.a]
    · simp (maxSteps := 4000000) only [go_sem, ↓reduceIte, reduceCtorEq, Nat.reduceEqDiff, Nat.reduceBEq, Nat.reduceAdd, Nat.reduceSub, Nat.reduceMul, Nat.reduceLT, Nat.reduceLeDiff, Nat.reduceBNe, Int.reduceBEq, Int.reduceBNe, Int.reduceLT, Int.reduceLE, Msg.a, Par.a, Nd.a, List.length_map]
    · simp (maxSteps := 4000000) only [go_sem, ↓reduceIte, reduceCtorEq, Nat.reduceEqDiff, Nat.reduceBEq, Nat.reduceAdd, Nat.reduceSub, Nat.reduceMul, Nat.reduceLT, Nat.reduceLeDiff, Nat.reduceBNe, Int.reduceBEq, Int.reduceBNe, Int.reduceLT, Int.reduceLE, Msg.a, Par.a, Nd.a]
      rfl
    rintro k σ ⟨j, hj, rfl, t1, o1, t3, t4, t19, t20, t21⟩
    simp only [r_tNode_l10]
    by_cases hlt : j < n.msgs.length
    · have hlt' : (j : Int) < (n.msgs.length : Int) := by omega
      obtain ⟨x, hx⟩ := get_lt hlt
      have hgj := at_map (f := Msg.a) hx
      simp only [Msg.a] at hgj
      have hw := wrapS (j := j) (by omega)
      obtain ⟨s1, s2, s3⟩ := h.ms x (List.mem_of_getElem? hx)
      have st := (h.ok.msgs.2 x (List.mem_of_getElem? hx)).stamp
      have c4 := tMsg_ok x st s1 s2 s3
      have ls := msgLine_size x st s1 s2 s3
      have ts := msgsT_size h j
      have c5 := tLine_ok [msgsT n j, (⟨#[44]⟩ : ByteArray), x.line] 50000000 (by simp) (by omega) (by simp [baz]; omega)
      have e5 : joinB [msgsT n j, (⟨#[44]⟩ : ByteArray), x.line] (⟨#[32]⟩ : ByteArray) = msgsT n (j + 1) := by
        rw [joinB3]
        unfold msgsT
        rw [take_at hx, catF_snoc]
        have e6 : (⟨#[32]⟩ : ByteArray) ++ (⟨#[44]⟩ : ByteArray) ++ (⟨#[32]⟩ : ByteArray) = (⟨#[32, 44, 32]⟩ : ByteArray) := by decide +kernel
        rw [← e6]
        simp only [ba_assoc]
      rw [e5] at c5
      (repeat (first | simp (maxSteps := 4000000) only [go_sem, ↓reduceIte, reduceCtorEq, Nat.reduceEqDiff, Nat.reduceBEq, Nat.reduceAdd, Nat.reduceSub, Nat.reduceMul, Nat.reduceLT, Nat.reduceLeDiff, Nat.reduceBNe, Int.reduceBEq, Int.reduceBNe, Int.reduceLT, Int.reduceLE, Msg.a, Par.a, Nd.a, t1, o1, t3, t4, t19, t20, t21, hlt', hgj, List.length_map, Int.toNat_natCast] | refine calling (c4) ?_ | refine callingH (c4) ?_ | refine calling (c5) ?_ | refine callingH (c5) ?_ | refine And.intro (by omega) ?_ | refine And.intro (fun d hd => by (repeat (rcases hd with rfl | hd; · exact ⟨rfl, rfl⟩)); cases hd) ?_))
      refine ⟨n.msgs.length - (j + 1), by omega, j + 1, by omega, rfl, ?_, ?_, ?_, ?_, ?_, ?_, ?_⟩ <;>
        (simp (maxSteps := 4000000) only [go_sem, ↓reduceIte, reduceCtorEq, Nat.reduceEqDiff, Nat.reduceBEq, Nat.reduceAdd, Nat.reduceSub, Nat.reduceMul, Nat.reduceLT, Nat.reduceLeDiff, Nat.reduceBNe, Int.reduceBEq, Int.reduceBNe, Int.reduceLT, Int.reduceLE, Msg.a, Par.a, Nd.a, t1, o1, t3, t4, t19, t20, t21, hw])
    · have hlt' : ¬ (j : Int) < (n.msgs.length : Int) := by omega
      obtain rfl : j = n.msgs.length := by omega
      (repeat (first | simp (maxSteps := 4000000) only [go_sem, ↓reduceIte, reduceCtorEq, Nat.reduceEqDiff, Nat.reduceBEq, Nat.reduceAdd, Nat.reduceSub, Nat.reduceMul, Nat.reduceLT, Nat.reduceLeDiff, Nat.reduceBNe, Int.reduceBEq, Int.reduceBNe, Int.reduceLT, Int.reduceLE, Msg.a, Par.a, Nd.a, t1, o1, t3, t4, t19, t20, t21, hlt', List.length_map, Int.toNat_natCast] | refine calling (k1) ?_ | refine callingH (k1) ?_ | refine calling (k2) ?_ | refine callingH (k2) ?_ | refine calling (k3) ?_ | refine callingH (k3) ?_ | refine calling (k4) ?_ | refine callingH (k4) ?_ | refine calling (cb) ?_ | refine callingH (cb) ?_ | refine calling (cl) ?_ | refine callingH (cl) ?_ | refine And.intro (by omega) ?_ | refine And.intro (fun d hd => by (repeat (rcases hd with rfl | hd; · exact ⟨rfl, rfl⟩)); cases hd) ?_))
theorem tNode_ok (n : Nd) (h : n.Fit) : AFn Tryd.prog 32 [n.a] (.str n.line) := tNode_core n h _ rfl
end Go.Proofs.YtkdbphhekpdmhaaDoor
