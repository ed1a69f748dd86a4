/-
  Traces: what the document says of a node's line, walked.
-/
import Derived.Test.YtkdbphhekpdmhaaDoorTrE
namespace Go.Proofs.YtkdbphhekpdmhaaDoor
open Go.RowKit
set_option linter.unusedVariables false
set_option linter.unusedSimpArgs false
set_option maxRecDepth 100000
attribute [local go_sem ↓] runOp headOp
attribute [local go_sem] ev0 ev1 ev2 ev3 ev4 evA stHOk.eq_1 stHOk.eq_2 stHSt.eq_1 stHSt.eq_2 okV valV fzV okF valF okBld valBld mxOk.eq_1 mxOk.eq_2 mxVal.eq_1 mxVal.eq_2 cellFit.eq_1 cellFit.eq_2 cellFit.eq_3 cellEq.eq_1 cellEq.eq_2 cellEq.eq_3 upd_at AV.flatB AV.flatBs binIok binIV binSok binSV cellsOk.eq_1 cellsOk.eq_2 cellsVal.eq_1 cellsVal.eq_2 objCells.eq_1 objCells.eq_2 objZ.eq_1 objZ.eq_2 objProt.eq_1 objProt.eq_2 oneObj ptrOk.eq_1 ptrOk.eq_2 ptrOk.eq_3 ptrCells.eq_1 ptrCells.eq_2 ptrCells.eq_3 lenOk.eq_1 lenOk.eq_2 lenOk.eq_3 lenOk.eq_4 lenVal.eq_1 lenVal.eq_2 lenVal.eq_3 lenVal.eq_4 faOk.eq_1 faOk.eq_2 faOk.eq_3 faVal.eq_1 faVal.eq_2 faVal.eq_3 iaOk.eq_1 iaOk.eq_2 iaOk.eq_3 iaVal.eq_1 iaVal.eq_2 iaVal.eq_3 slcLen.eq_1 slcLen.eq_2 slcLen.eq_3 slcLen.eq_4 bdOk.eq_1 bdOk.eq_2 bdVal.eq_1 bdVal.eq_2 slcOk.eq_1 slcOk.eq_2 slcOk.eq_3 slcOk.eq_4 slcVal.eq_1 slcVal.eq_2 slcVal.eq_3 slcVal.eq_4 slcFz.eq_1 slcFz.eq_2 byOk.eq_1 byOk.eq_2 byOk.eq_3 byOk.eq_4 byOk.eq_5 byOk.eq_6 byOk.eq_7 byVal.eq_1 byVal.eq_2 byVal.eq_3 byFz.eq_1 byFz.eq_2 byFz.eq_3 byOks byVals byFzs allOne resSt.eq_1 resSt.eq_2 resName.eq_1 resName.eq_2 stOk.eq_1 stOk.eq_2 stArr.eq_1 stArr.eq_2 stSt.eq_1 stSt.eq_2 AV.patch nameOk_none gB.eq_1 gB.eq_2 gB.eq_3 gIs.eq_1 gIs.eq_2 gIs.eq_3 retV resV resVs evalV cellsV St.byval List.getD_cons_zero List.getD_cons_succ List.getD_nil List.map_cons List.map_nil List.length_cons List.length_nil List.take_succ_cons List.take_zero List.drop_succ_cons List.drop_zero List.headD_cons List.set_cons_zero List.append_nil List.nil_append List.cons_append List.contains_cons List.contains_nil List.elem_cons List.elem_nil List.all_cons List.all_nil List.getElem?_cons_zero List.getElem?_cons_succ List.filterMap_cons List.filterMap_nil Option.isSome_some Option.isSome_none Option.map_some Option.map_none Option.some.injEq AV.int.injEq AV.bool.injEq AV.str.injEq AV.tup.injEq AV.agg.injEq AV.sl.injEq List.cons.injEq Bool.false_eq_true Bool.true_eq_false Bool.not_true Bool.not_false Bool.and_true Bool.true_and Bool.or_false Bool.or_true Bool.false_or Bool.true_or Bool.or_self Bool.and_self Bool.not_eq_true' Bool.not_eq_false' Bool.not_not beq_self_eq_true true_and and_true false_and and_false and_self not_true_eq_false not_false_eq_true forall_const true_implies false_implies implies_true imp_self Nat.lt_add_one Nat.le_refl Nat.zero_le Nat.add_zero Nat.zero_add decide_true decide_false decide_eq_true_eq decide_eq_false_iff_not exists_eq_left exists_eq_left' ge_iff_le gt_iff_lt ite_branch ite_branch' nilOk.eq_1 nilOk.eq_2 nilMay.eq_1 nilMay.eq_2 AV.isSl.eq_1 objTy'.eq_1 objTy'.eq_2 apSt.eq_1 apArr.eq_1 apArr.eq_2 slOf.eq_1 fitsV List.mem_cons List.not_mem_nil Bool.false_and Bool.and_false primOk.eq_1 primOk.eq_2 primOk.eq_3 primOk.eq_4 primOk.eq_5 primVal.eq_1 primVal.eq_2 primVal.eq_3 primVal.eq_4 primVal.eq_5 mOk.eq_1 mOk.eq_2 mVal.eq_1 mVal.eq_2 mFz.eq_1 mFz.eq_2 mOks mVals mFzs mCalOk.eq_1 mCalOk.eq_2 mFn.eq_1 mFn.eq_2 mArgs.eq_1 mArgs.eq_2 ckOk.eq_1 ckOk.eq_2 cloOk.eq_1 ptrAt.eq_1 sh.eq_1 sh.eq_2 sh.eq_3 sh.eq_4 sh.eq_5 retM shH_small
attribute [local go_sem ↓] ir_r46Node
attribute [local go_sem] res_r46Node e_r46Node_0 e_r46Node_1 e_r46Node_2 e_r46Node_3 e_r46Node_4 e_r46Node_5 e_r46Node_6 e_r46Node_7 e_r46Node_8 e_r46Node_9 e_r46Node_10 e_r46Node_11 e_r46Node_12 e_r46Node_13 e_r46Node_15 e_r46Node_16 e_r46Node_17 e_r46Node_18 e_r46Node_19 e_r46Node_21

def preR (n : Nd) : ByteArray :=
  let b := (⟨#[110, 111, 100, 101, 32]⟩ : ByteArray) ++ decS n.slot ++ (⟨#[32]⟩ : ByteArray) ++ decS n.level ++ (⟨#[32]⟩ : ByteArray) ++ decS n.seen ++ (⟨#[32]⟩ : ByteArray) ++ decS n.right ++ (⟨#[32]⟩ : ByteArray)
  if n.top then b ++ (⟨#[42, 32, 58, 32]⟩ : ByteArray) else b ++ (quoteF n.high ++ (⟨#[32, 58, 32]⟩ : ByteArray))
def kidsR (n : Nd) (j : Nat) : ByteArray := preR n ++ (⟨#[107, 105, 100, 115]⟩ : ByteArray) ++ catF (fun y => (⟨#[32]⟩ : ByteArray) ++ y) (kidsW n.pivots 0 (n.kids.take j))
def msgsR (n : Nd) (j : Nat) : ByteArray := preR n ++ n.below ++ ((⟨#[32, 58, 32, 109, 115, 103, 115, 32]⟩ : ByteArray) ++ decS n.msgs.length) ++ catF (fun m => (⟨#[32, 44, 32]⟩ : ByteArray) ++ m.line) (n.msgs.take j)
theorem line_flat (n : Nd) : n.line = msgsR n n.msgs.length := by
  have e1 : (⟨#[110, 111, 100, 101, 32]⟩ : ByteArray) = (⟨#[110, 111, 100, 101]⟩ : ByteArray) ++ (⟨#[32]⟩ : ByteArray) := by decide +kernel
  have e2 : (⟨#[42, 32, 58, 32]⟩ : ByteArray) = (⟨#[42]⟩ : ByteArray) ++ (⟨#[32]⟩ : ByteArray) ++ (⟨#[58]⟩ : ByteArray) ++ (⟨#[32]⟩ : ByteArray) := by decide +kernel
  have e3 : (⟨#[32, 58, 32]⟩ : ByteArray) = (⟨#[32]⟩ : ByteArray) ++ (⟨#[58]⟩ : ByteArray) ++ (⟨#[32]⟩ : ByteArray) := by decide +kernel
  have e4 : (⟨#[32, 58, 32, 109, 115, 103, 115, 32]⟩ : ByteArray) = (⟨#[32]⟩ : ByteArray) ++ (⟨#[58]⟩ : ByteArray) ++ (⟨#[32]⟩ : ByteArray) ++ (⟨#[109, 115, 103, 115]⟩ : ByteArray) ++ (⟨#[32]⟩ : ByteArray) := by decide +kernel
  unfold Nd.line msgsR msgsF preR
  rw [List.take_length, joinB_cat, e1, e2, e3, e4]
  cases n.top with
  | true => simp only [catF, if_true, ba_assoc, ba_nil]
  | false => simp only [catF, Bool.false_eq_true, if_false, ba_assoc, ba_nil]
theorem preR_size {n : Nd} (h : n.Fit) : (preR n).size ≤ 7000 := by
  have z1 := decS_small n.slot h.ok.slot.1 h.ok.slot.2
  have z2 := decS_small n.level h.ok.level.1 h.ok.level.2
  have z3 := decS_small n.seen h.ok.seen.1 h.ok.seen.2
  have z4 := decS_small n.right h.ok.right.1 h.ok.right.2
  have q := quoteF_size n.high
  have hh := h.hi
  unfold preR
  cases n.top with
  | true => simp only [if_true, ByteArray.size_append, baz, List.size_toArray, List.length_cons, List.length_nil]; omega
  | false => simp only [Bool.false_eq_true, if_false, ByteArray.size_append, baz, List.size_toArray, List.length_cons, List.length_nil]; omega
theorem kidsR_size {n : Nd} (h : n.Fit) (j : Nat) : (kidsR n j).size ≤ 25000000 := by
  have hp := preR_size h
  have e : (⟨#[32]⟩ : ByteArray).size = 1 := rfl
  have e1 : (⟨#[107, 105, 100, 115]⟩ : ByteArray).size = 4 := rfl
  have hc := catF_size (fun y : ByteArray => (⟨#[32]⟩ : ByteArray) ++ y) 6002 (kidsW n.pivots 0 (n.kids.take j)) (fun x hx => by
    have := kidsW_size n.pivots h.pivs (n.kids.take j) 0 (fun x hx => h.ok.kids.2 x (List.mem_of_mem_take hx)) x hx
    show (_ ++ _ : ByteArray).size ≤ _
    rw [ByteArray.size_append, e]; omega)
  have hl := kidsW_len n.pivots (n.kids.take j) 0
  have h2 : (n.kids.take j).length ≤ 2000 := by have := h.nkid; rw [List.length_take]; omega
  have := Nat.mul_le_mul_right 6002 hl
  unfold kidsR
  rw [ByteArray.size_append, ByteArray.size_append, e1]; omega
theorem msgsR_size {n : Nd} (h : n.Fit) (j : Nat) : (msgsR n j).size ≤ 120000000 := by
  have hp := preR_size h
  have hb := below_size h
  have d1 := decS_small n.msgs.length (by have := h.nmsg; omega) (by have := h.nmsg; omega)
  have hc := catF_take_size (fun m : Msg => (⟨#[32, 44, 32]⟩ : ByteArray) ++ m.line) 24103 n.msgs j (fun m hm => by
    obtain ⟨a, b, c⟩ := h.ms m hm
    have := msgLine_size m (h.ok.msgs.2 m hm).stamp a b c
    have e : (⟨#[32, 44, 32]⟩ : ByteArray).size = 3 := rfl
    show (_ ++ _ : ByteArray).size ≤ _
    rw [ByteArray.size_append, e]; omega)
  have h2 := Nat.mul_le_mul_right 24103 h.nmsg
  have e1 : (⟨#[32, 58, 32, 109, 115, 103, 115, 32]⟩ : ByteArray).size = 8 := rfl
  unfold msgsR
  rw [ByteArray.size_append, ByteArray.size_append, ByteArray.size_append, ByteArray.size_append, e1]
  omega
def rkInv (n : Nd) (k : Nat) (σ : St) : Prop :=
  ∃ j : Nat, j ≤ n.kids.length ∧ k = n.kids.length - j ∧ σ.T 1 = .ptr 1 0 0 ∧ σ.H 1 = some ⟨10, 34, [n.a], 0⟩ ∧ σ.T 4 = .int .i64 j ∧ σ.T 3 = .str (kidsR n j)
def rmInv (n : Nd) (k : Nat) (σ : St) : Prop :=
  ∃ j : Nat, j ≤ n.msgs.length ∧ k = n.msgs.length - j ∧ σ.T 1 = .ptr 1 0 0 ∧ σ.H 1 = some ⟨10, 34, [n.a], 0⟩ ∧ σ.T 5 = .int .i64 j ∧ σ.T 3 = .str (msgsR n j)
theorem kidsR_next {n : Nd} {j : Nat} {k : Int} (h : n.kids[j]? = some k) : kidsR n (j + 1) = kidsR n j ++ catF (fun y => (⟨#[32]⟩ : ByteArray) ++ y) ((if 0 < j ∧ j ≤ n.pivots.length then [quoteF (n.pivots.getD (j - 1) ⟨#[]⟩)] else []) ++ [decS k]) := by
  have hl : (n.kids.take j).length = j := by
    have := (List.getElem?_eq_some_iff.1 h).1
    rw [List.length_take]; omega
  unfold kidsR
  rw [take_at h, kidsW_app, hl, Nat.zero_add, catF_app]
  simp only [kidsW, List.append_nil, ba_assoc]
set_option maxHeartbeats 4000000 in
theorem r46Node_ok (n : Nd) (h : n.Fit) : AFn Tryd.prog 33 [n.a] (.str n.line) := by
  refine fn_r46Node rfl ?_
  have hnm := h.nmsg
  have hnk := h.nkid
  have hnp := h.npiv
  have qh := quoteF_size n.high
  have hh := h.hi
  have hps := preR_size h
  have hbs := below_size h
  have d0 := decS_small n.msgs.length (by omega) (by omega)
  have k0 := rDec_ok n.msgs.length ⟨by omega, by omega⟩
  have k1 := rDec_ok n.slot h.ok.slot
  have k2 := rDec_ok n.level h.ok.level
  have k3 := rDec_ok n.seen h.ok.seen
  have k4 := rDec_ok n.right h.ok.right
  have d1 := decS_small n.slot h.ok.slot.1 h.ok.slot.2
  have d2 := decS_small n.level h.ok.level.1 h.ok.level.2
  have d3 := decS_small n.seen h.ok.seen.1 h.ok.seen.2
  have d4 := decS_small n.right h.ok.right.1 h.ok.right.2
  have ch := rQuote_ok n.high (by omega)
  have z3 : ∀ a b c : UInt8, (#[a, b, c] : Array UInt8).size = 3 := fun _ _ _ => rfl
  have z4 : ∀ a b c d : UInt8, (#[a, b, c, d] : Array UInt8).size = 4 := fun _ _ _ _ => rfl
  have z5 : ∀ a b c d e : UInt8, (#[a, b, c, d, e] : Array UInt8).size = 5 := fun _ _ _ _ _ => rfl
  have z8 : ∀ a b c d e f g h : UInt8, (#[a, b, c, d, e, f, g, h] : Array UInt8).size = 8 := fun _ _ _ _ _ _ _ _ => rfl
  have loop2 : ∀ {σ : St} {Q : XK → St → Prop}, σ.T 1 = .ptr 1 0 0 → σ.H 1 = some ⟨10, 34, [n.a], 0⟩ → σ.T 5 = .int .i64 0 → σ.T 3 = .str (msgsR n 0) → (∀ σ', σ'.T 3 = .str n.line → Q (.exit 2) σ') → awp (AFn Tryd.prog) (.loop r_r46Node_l20) Q σ := by
    intro σ Q u1 v1 u5 u3 hQ
    refine run_loop (rmInv n) (k := n.msgs.length) ⟨0, by omega, rfl, u1, v1, u5, u3⟩ ?_
    rintro k σ ⟨j, hj, rfl, t1, o1, t5, t3⟩
    simp only [r_r46Node_l20]
    have ms := msgsR_size h j
    by_cases hlt : j < n.msgs.length
    · have hlt' : (j : Int) < (n.msgs.length : Int) := by omega
      obtain ⟨x, hx⟩ := get_lt hlt
      have hgj := at_map (f := Msg.a) hx
      simp only [Msg.a] at hgj
      have hw := wrapS (j := j) (by omega)
      obtain ⟨s1, s2, s3⟩ := h.ms x (List.mem_of_getElem? hx)
      have st := (h.ok.msgs.2 x (List.mem_of_getElem? hx)).stamp
      have c4 := r46Msg_ok x st s1 s2 s3
      have ls := msgLine_size x st s1 s2 s3
      have hn : msgsR n j ++ ((⟨#[32, 44, 32]⟩ : ByteArray) ++ x.line) = msgsR n (j + 1) := by
        unfold msgsR
        rw [take_at hx, catF_snoc]
        simp only [ba_assoc]
      (repeat (first | simp (maxSteps := 4000000) only [go_sem, ↓reduceIte, reduceCtorEq, Nat.reduceEqDiff, Nat.reduceBEq, Nat.reduceAdd, Nat.reduceSub, Nat.reduceMul, Nat.reduceLT, Nat.reduceLeDiff, Nat.reduceBNe, Int.reduceBEq, Int.reduceBNe, Int.reduceLT, Int.reduceLE, Msg.a, Par.a, Nd.a, t1, o1, t5, t3, hlt', hgj, List.length_map, Int.toNat_natCast, z3, ByteArray.size_append] | refine calling (c4) ?_ | refine callingH (c4) ?_ | refine And.intro (by omega) ?_ | refine And.intro (fun d hd => by (repeat (rcases hd with rfl | hd; · exact ⟨rfl, rfl⟩)); cases hd) ?_))
      refine ⟨n.msgs.length - (j + 1), by omega, j + 1, by omega, rfl, ?_, ?_, ?_, ?_⟩ <;>
        (simp (maxSteps := 4000000) only [go_sem, ↓reduceIte, reduceCtorEq, Nat.reduceEqDiff, Nat.reduceBEq, Nat.reduceAdd, Nat.reduceSub, Nat.reduceMul, Nat.reduceLT, Nat.reduceLeDiff, Nat.reduceBNe, Int.reduceBEq, Int.reduceBNe, Int.reduceLT, Int.reduceLE, Msg.a, Par.a, Nd.a, t1, o1, t5, t3, hw, hn])
    · have hlt' : ¬ (j : Int) < (n.msgs.length : Int) := by omega
      obtain rfl : j = n.msgs.length := by omega
      rw [← line_flat] at t3
      simp (maxSteps := 4000000) only [go_sem, ↓reduceIte, reduceCtorEq, Nat.reduceEqDiff, Nat.reduceBEq, Nat.reduceAdd, Nat.reduceSub, Nat.reduceMul, Nat.reduceLT, Nat.reduceLeDiff, Nat.reduceBNe, Int.reduceBEq, Int.reduceBNe, Int.reduceLT, Int.reduceLE, Msg.a, Par.a, Nd.a, t1, o1, t5, t3, hlt', List.length_map, Int.toNat_natCast]
      refine hQ _ ?_
      simp (maxSteps := 4000000) only [go_sem, ↓reduceIte, reduceCtorEq, Nat.reduceEqDiff, Nat.reduceBEq, Nat.reduceAdd, Nat.reduceSub, Nat.reduceMul, Nat.reduceLT, Nat.reduceLeDiff, Nat.reduceBNe, Int.reduceBEq, Int.reduceBNe, Int.reduceLT, Int.reduceLE, Msg.a, Par.a, Nd.a, t1, o1, t5, t3]

  have hp0 : (⟨#[110, 111, 100, 101, 32]⟩ : ByteArray) ++ decS n.slot ++ (⟨#[32]⟩ : ByteArray) ++ decS n.level ++ (⟨#[32]⟩ : ByteArray) ++ decS n.seen ++ (⟨#[32]⟩ : ByteArray) ++ decS n.right ++ (⟨#[32]⟩ : ByteArray) ++ (⟨#[42, 32, 58, 32]⟩ : ByteArray) = preR n ∨ n.top = false := by
    unfold preR; cases n.top <;> simp
  have hp1 : (⟨#[110, 111, 100, 101, 32]⟩ : ByteArray) ++ decS n.slot ++ (⟨#[32]⟩ : ByteArray) ++ decS n.level ++ (⟨#[32]⟩ : ByteArray) ++ decS n.seen ++ (⟨#[32]⟩ : ByteArray) ++ decS n.right ++ (⟨#[32]⟩ : ByteArray) ++ (quoteF n.high ++ (⟨#[32, 58, 32]⟩ : ByteArray)) = preR n ∨ n.top = true := by
    unfold preR; cases n.top <;> simp
  have hm0 : preR n ++ n.below ++ ((⟨#[32, 58, 32, 109, 115, 103, 115, 32]⟩ : ByteArray) ++ decS n.msgs.length) = msgsR n 0 := by unfold msgsR; exact (ba_nil _).symm
  by_cases h0 : n.level = 0
  · have b0 : (n.level == 0) = true := by simp [h0]
    have cp := r46Pairs_ok n.rows h.nrow h.rws
    have hp := fit_pairs h.nrow h.rws
    have hb : preR n ++ ((⟨#[114, 111, 119, 115, 32]⟩ : ByteArray) ++ pairsF n.rows) = preR n ++ n.below := by
      unfold Nd.below
      rw [if_pos h0, joinB2, show (⟨#[114, 111, 119, 115, 32]⟩ : ByteArray) = (⟨#[114, 111, 119, 115]⟩ : ByteArray) ++ (⟨#[32]⟩ : ByteArray) by decide +kernel]
    cases ht : n.top with
    | true =>
      have hq := hp0.resolve_right (by rw [ht]; simp)
      (repeat (first | simp (maxSteps := 4000000) only [go_sem, ↓reduceIte, reduceCtorEq, Nat.reduceEqDiff, Nat.reduceBEq, Nat.reduceAdd, Nat.reduceSub, Nat.reduceMul, Nat.reduceLT, Nat.reduceLeDiff, Nat.reduceBNe, Int.reduceBEq, Int.reduceBNe, Int.reduceLT, Int.reduceLE, Msg.a, Par.a, Nd.a, ht, b0, hq, hb, hm0, zz1, z3, z4, z5, z8, List.length_map, ByteArray.size_append] | refine calling (k1) ?_ | refine callingH (k1) ?_ | refine calling (k2) ?_ | refine callingH (k2) ?_ | refine calling (k3) ?_ | refine callingH (k3) ?_ | refine calling (k4) ?_ | refine callingH (k4) ?_ | refine calling (ch) ?_ | refine callingH (ch) ?_ | refine calling (cp) ?_ | refine callingH (cp) ?_ | refine calling (k0) ?_ | refine callingH (k0) ?_ | refine And.intro (by omega) ?_ | refine And.intro (fun d hd => by (repeat (rcases hd with rfl | hd; · exact ⟨rfl, rfl⟩)); cases hd) ?_))
      all_goals (try omega)
      all_goals (repeat (refine And.intro (by omega) ?_))
      refine loop2 ?_ ?_ ?_ ?_ ?_
      · simp (maxSteps := 4000000) only [go_sem, ↓reduceIte, reduceCtorEq, Nat.reduceEqDiff, Nat.reduceBEq, Nat.reduceAdd, Nat.reduceSub, Nat.reduceMul, Nat.reduceLT, Nat.reduceLeDiff, Nat.reduceBNe, Int.reduceBEq, Int.reduceBNe, Int.reduceLT, Int.reduceLE, Msg.a, Par.a, Nd.a, ht]
      · simp (maxSteps := 4000000) only [go_sem, ↓reduceIte, reduceCtorEq, Nat.reduceEqDiff, Nat.reduceBEq, Nat.reduceAdd, Nat.reduceSub, Nat.reduceMul, Nat.reduceLT, Nat.reduceLeDiff, Nat.reduceBNe, Int.reduceBEq, Int.reduceBNe, Int.reduceLT, Int.reduceLE, Msg.a, Par.a, Nd.a, ht]
      · simp (maxSteps := 4000000) only [go_sem, ↓reduceIte, reduceCtorEq, Nat.reduceEqDiff, Nat.reduceBEq, Nat.reduceAdd, Nat.reduceSub, Nat.reduceMul, Nat.reduceLT, Nat.reduceLeDiff, Nat.reduceBNe, Int.reduceBEq, Int.reduceBNe, Int.reduceLT, Int.reduceLE, Msg.a, Par.a, Nd.a]
      · simp (maxSteps := 4000000) only [go_sem, ↓reduceIte, reduceCtorEq, Nat.reduceEqDiff, Nat.reduceBEq, Nat.reduceAdd, Nat.reduceSub, Nat.reduceMul, Nat.reduceLT, Nat.reduceLeDiff, Nat.reduceBNe, Int.reduceBEq, Int.reduceBNe, Int.reduceLT, Int.reduceLE, Msg.a, Par.a, Nd.a, hm0]
      intro σ' u3
      simp (maxSteps := 4000000) only [go_sem, ↓reduceIte, reduceCtorEq, Nat.reduceEqDiff, Nat.reduceBEq, Nat.reduceAdd, Nat.reduceSub, Nat.reduceMul, Nat.reduceLT, Nat.reduceLeDiff, Nat.reduceBNe, Int.reduceBEq, Int.reduceBNe, Int.reduceLT, Int.reduceLE, Msg.a, Par.a, Nd.a, u3]
    | false =>
      have hq := hp1.resolve_right (by rw [ht]; simp)
      (repeat (first | simp (maxSteps := 4000000) only [go_sem, ↓reduceIte, reduceCtorEq, Nat.reduceEqDiff, Nat.reduceBEq, Nat.reduceAdd, Nat.reduceSub, Nat.reduceMul, Nat.reduceLT, Nat.reduceLeDiff, Nat.reduceBNe, Int.reduceBEq, Int.reduceBNe, Int.reduceLT, Int.reduceLE, Msg.a, Par.a, Nd.a, ht, b0, hq, hb, hm0, zz1, z3, z4, z5, z8, List.length_map, ByteArray.size_append] | refine calling (k1) ?_ | refine callingH (k1) ?_ | refine calling (k2) ?_ | refine callingH (k2) ?_ | refine calling (k3) ?_ | refine callingH (k3) ?_ | refine calling (k4) ?_ | refine callingH (k4) ?_ | refine calling (ch) ?_ | refine callingH (ch) ?_ | refine calling (cp) ?_ | refine callingH (cp) ?_ | refine calling (k0) ?_ | refine callingH (k0) ?_ | refine And.intro (by omega) ?_ | refine And.intro (fun d hd => by (repeat (rcases hd with rfl | hd; · exact ⟨rfl, rfl⟩)); cases hd) ?_))
      all_goals (try omega)
      all_goals (repeat (refine And.intro (by omega) ?_))
      refine loop2 ?_ ?_ ?_ ?_ ?_
      · simp (maxSteps := 4000000) only [go_sem, ↓reduceIte, reduceCtorEq, Nat.reduceEqDiff, Nat.reduceBEq, Nat.reduceAdd, Nat.reduceSub, Nat.reduceMul, Nat.reduceLT, Nat.reduceLeDiff, Nat.reduceBNe, Int.reduceBEq, Int.reduceBNe, Int.reduceLT, Int.reduceLE, Msg.a, Par.a, Nd.a, ht]
      · simp (maxSteps := 4000000) only [go_sem, ↓reduceIte, reduceCtorEq, Nat.reduceEqDiff, Nat.reduceBEq, Nat.reduceAdd, Nat.reduceSub, Nat.reduceMul, Nat.reduceLT, Nat.reduceLeDiff, Nat.reduceBNe, Int.reduceBEq, Int.reduceBNe, Int.reduceLT, Int.reduceLE, Msg.a, Par.a, Nd.a, ht]
      · simp (maxSteps := 4000000) only [go_sem, ↓reduceIte, reduceCtorEq, Nat.reduceEqDiff, Nat.reduceBEq, Nat.reduceAdd, Nat.reduceSub, Nat.reduceMul, Nat.reduceLT, Nat.reduceLeDiff, Nat.reduceBNe, Int.reduceBEq, Int.reduceBNe, Int.reduceLT, Int.reduceLE, Msg.a, Par.a, Nd.a]
      · simp (maxSteps := 4000000) only [go_sem, ↓reduceIte, reduceCtorEq, Nat.reduceEqDiff, Nat.reduceBEq, Nat.reduceAdd, Nat.reduceSub, Nat.reduceMul, Nat.reduceLT, Nat.reduceLeDiff, Nat.reduceBNe, Int.reduceBEq, Int.reduceBNe, Int.reduceLT, Int.reduceLE, Msg.a, Par.a, Nd.a, hm0]
      intro σ' u3
      simp (maxSteps := 4000000) only [go_sem, ↓reduceIte, reduceCtorEq, Nat.reduceEqDiff, Nat.reduceBEq, Nat.reduceAdd, Nat.reduceSub, Nat.reduceMul, Nat.reduceLT, Nat.reduceLeDiff, Nat.reduceBNe, Int.reduceBEq, Int.reduceBNe, Int.reduceLT, Int.reduceLE, Msg.a, Par.a, Nd.a, u3]
  · have b0 : (n.level == 0) = false := by simp [h0]
    have hb2 : kidsR n n.kids.length = preR n ++ n.below := by
      unfold kidsR Nd.below
      rw [if_neg h0, List.take_length, ba_assoc]
    have hk0 : preR n ++ (⟨#[107, 105, 100, 115]⟩ : ByteArray) = kidsR n 0 := by unfold kidsR; exact (ba_nil _).symm
    cases ht : n.top with
    | true =>
      have hq := hp0.resolve_right (by rw [ht]; simp)
      (repeat (first | simp (maxSteps := 4000000) only [go_sem, ↓reduceIte, reduceCtorEq, Nat.reduceEqDiff, Nat.reduceBEq, Nat.reduceAdd, Nat.reduceSub, Nat.reduceMul, Nat.reduceLT, Nat.reduceLeDiff, Nat.reduceBNe, Int.reduceBEq, Int.reduceBNe, Int.reduceLT, Int.reduceLE, Msg.a, Par.a, Nd.a, ht, b0, hq, zz1, z3, z4, z5, z8, List.length_map, ByteArray.size_append] | refine calling (k1) ?_ | refine callingH (k1) ?_ | refine calling (k2) ?_ | refine callingH (k2) ?_ | refine calling (k3) ?_ | refine callingH (k3) ?_ | refine calling (k4) ?_ | refine callingH (k4) ?_ | refine calling (ch) ?_ | refine callingH (ch) ?_ | refine And.intro (by omega) ?_ | refine And.intro (fun d hd => by (repeat (rcases hd with rfl | hd; · exact ⟨rfl, rfl⟩)); cases hd) ?_))
      all_goals (try omega)
      all_goals (repeat (refine And.intro (by omega) ?_))
      refine run_loop (rkInv n) (k := n.kids.length) ⟨0, by omega, rfl, ?_, ?_, ?_, ?_⟩ ?_
      · simp (maxSteps := 4000000) only [go_sem, ↓reduceIte, reduceCtorEq, Nat.reduceEqDiff, Nat.reduceBEq, Nat.reduceAdd, Nat.reduceSub, Nat.reduceMul, Nat.reduceLT, Nat.reduceLeDiff, Nat.reduceBNe, Int.reduceBEq, Int.reduceBNe, Int.reduceLT, Int.reduceLE, Msg.a, Par.a, Nd.a, ht]
      · simp (maxSteps := 4000000) only [go_sem, ↓reduceIte, reduceCtorEq, Nat.reduceEqDiff, Nat.reduceBEq, Nat.reduceAdd, Nat.reduceSub, Nat.reduceMul, Nat.reduceLT, Nat.reduceLeDiff, Nat.reduceBNe, Int.reduceBEq, Int.reduceBNe, Int.reduceLT, Int.reduceLE, Msg.a, Par.a, Nd.a, ht]
      · simp (maxSteps := 4000000) only [go_sem, ↓reduceIte, reduceCtorEq, Nat.reduceEqDiff, Nat.reduceBEq, Nat.reduceAdd, Nat.reduceSub, Nat.reduceMul, Nat.reduceLT, Nat.reduceLeDiff, Nat.reduceBNe, Int.reduceBEq, Int.reduceBNe, Int.reduceLT, Int.reduceLE, Msg.a, Par.a, Nd.a]
        rfl
      · simp (maxSteps := 4000000) only [go_sem, ↓reduceIte, reduceCtorEq, Nat.reduceEqDiff, Nat.reduceBEq, Nat.reduceAdd, Nat.reduceSub, Nat.reduceMul, Nat.reduceLT, Nat.reduceLeDiff, Nat.reduceBNe, Int.reduceBEq, Int.reduceBNe, Int.reduceLT, Int.reduceLE, Msg.a, Par.a, Nd.a, hk0]
      rintro k σ ⟨j, hj, rfl, t1, o1, t4, t3⟩
      simp only [r_r46Node_l14]
      have ks := kidsR_size h j
      by_cases hlt : j < n.kids.length
      · have hlt' : (j : Int) < (n.kids.length : Int) := by omega
        obtain ⟨x, hx⟩ := get_lt hlt
        have hgj := at_map (f := AV.int .i64) hx
        have hw := wrapS (j := j) (by omega)
        have ki := h.ok.kids.2 x (List.mem_of_getElem? hx)
        have c1 := rDec_ok x ki
        have dx := decS_small x ki.1 ki.2
        have hn := kidsR_next hx
        by_cases g0 : 0 < j
        · have g0' : (0 : Int) < (j : Int) := by omega
          have tw : IntKind.i64.wrap ((j : Int) - 1) = ((j - 1 : Nat) : Int) := by rw [IntWalk.i64_in _ (by omega)]; omega
          by_cases g1 : j ≤ n.pivots.length
          · have g2 : ((j - 1 : Nat) : Int) < (n.pivots.length : Int) := by omega
            have g3 : (j - 1) < n.pivots.length := by omega
            obtain ⟨y, hy⟩ : ∃ y, n.pivots[j - 1]? = some y := get_lt (by omega)
            have hgy := at_map (f := AV.str) hy
            have hyd : n.pivots.getD (j - 1) ⟨#[]⟩ = y := by rw [List.getD_eq_getElem?_getD, hy]; rfl
            have ys := h.pivs y (List.mem_of_getElem? hy)
            have q1 := quoteF_size y
            have c2 := rQuote_ok y (by omega)
            rw [if_pos ⟨g0, g1⟩, hyd] at hn
            have hn' : kidsR n j ++ ((⟨#[32]⟩ : ByteArray) ++ quoteF y) ++ ((⟨#[32]⟩ : ByteArray) ++ decS x) = kidsR n (j + 1) := by
              rw [hn]; simp only [catF, List.cons_append, List.nil_append, ba_nil, ba_assoc]
            (repeat (first | simp (maxSteps := 4000000) only [go_sem, ↓reduceIte, reduceCtorEq, Nat.reduceEqDiff, Nat.reduceBEq, Nat.reduceAdd, Nat.reduceSub, Nat.reduceMul, Nat.reduceLT, Nat.reduceLeDiff, Nat.reduceBNe, Int.reduceBEq, Int.reduceBNe, Int.reduceLT, Int.reduceLE, Msg.a, Par.a, Nd.a, t1, o1, t4, t3, hlt', hgj, g0', tw, g2, g3, hgy, List.length_map, Int.toNat_natCast, zz1, ByteArray.size_append] | refine calling (c2) ?_ | refine callingH (c2) ?_ | refine calling (c1) ?_ | refine callingH (c1) ?_ | refine And.intro (by omega) ?_ | refine And.intro (fun d hd => by (repeat (rcases hd with rfl | hd; · exact ⟨rfl, rfl⟩)); cases hd) ?_))
            refine ⟨n.kids.length - (j + 1), by omega, j + 1, by omega, rfl, ?_, ?_, ?_, ?_⟩ <;>
              (simp (maxSteps := 4000000) only [go_sem, ↓reduceIte, reduceCtorEq, Nat.reduceEqDiff, Nat.reduceBEq, Nat.reduceAdd, Nat.reduceSub, Nat.reduceMul, Nat.reduceLT, Nat.reduceLeDiff, Nat.reduceBNe, Int.reduceBEq, Int.reduceBNe, Int.reduceLT, Int.reduceLE, Msg.a, Par.a, Nd.a, t1, o1, t4, t3, hw, hn'])
          · have g2 : ¬ ((j - 1 : Nat) : Int) < (n.pivots.length : Int) := by omega
            rw [if_neg (fun e => g1 e.2)] at hn
            have hn' : kidsR n j ++ ((⟨#[32]⟩ : ByteArray) ++ decS x) = kidsR n (j + 1) := by
              rw [hn]; simp only [catF, List.nil_append, ba_nil]
            (repeat (first | simp (maxSteps := 4000000) only [go_sem, ↓reduceIte, reduceCtorEq, Nat.reduceEqDiff, Nat.reduceBEq, Nat.reduceAdd, Nat.reduceSub, Nat.reduceMul, Nat.reduceLT, Nat.reduceLeDiff, Nat.reduceBNe, Int.reduceBEq, Int.reduceBNe, Int.reduceLT, Int.reduceLE, Msg.a, Par.a, Nd.a, t1, o1, t4, t3, hlt', hgj, g0', tw, g2, List.length_map, Int.toNat_natCast, zz1, ByteArray.size_append] | refine calling (c1) ?_ | refine callingH (c1) ?_ | refine And.intro (by omega) ?_ | refine And.intro (fun d hd => by (repeat (rcases hd with rfl | hd; · exact ⟨rfl, rfl⟩)); cases hd) ?_))
            refine ⟨n.kids.length - (j + 1), by omega, j + 1, by omega, rfl, ?_, ?_, ?_, ?_⟩ <;>
              (simp (maxSteps := 4000000) only [go_sem, ↓reduceIte, reduceCtorEq, Nat.reduceEqDiff, Nat.reduceBEq, Nat.reduceAdd, Nat.reduceSub, Nat.reduceMul, Nat.reduceLT, Nat.reduceLeDiff, Nat.reduceBNe, Int.reduceBEq, Int.reduceBNe, Int.reduceLT, Int.reduceLE, Msg.a, Par.a, Nd.a, t1, o1, t4, t3, hw, hn'])
        · have g0' : ¬ (0 : Int) < (j : Int) := by omega
          rw [if_neg (fun e => g0 e.1)] at hn
          have hn' : kidsR n j ++ ((⟨#[32]⟩ : ByteArray) ++ decS x) = kidsR n (j + 1) := by
            rw [hn]; simp only [catF, List.nil_append, ba_nil]
          (repeat (first | simp (maxSteps := 4000000) only [go_sem, ↓reduceIte, reduceCtorEq, Nat.reduceEqDiff, Nat.reduceBEq, Nat.reduceAdd, Nat.reduceSub, Nat.reduceMul, Nat.reduceLT, Nat.reduceLeDiff, Nat.reduceBNe, Int.reduceBEq, Int.reduceBNe, Int.reduceLT, Int.reduceLE, Msg.a, Par.a, Nd.a, t1, o1, t4, t3, hlt', hgj, g0', List.length_map, Int.toNat_natCast, zz1, ByteArray.size_append] | refine calling (c1) ?_ | refine callingH (c1) ?_ | refine And.intro (by omega) ?_ | refine And.intro (fun d hd => by (repeat (rcases hd with rfl | hd; · exact ⟨rfl, rfl⟩)); cases hd) ?_))
          refine ⟨n.kids.length - (j + 1), by omega, j + 1, by omega, rfl, ?_, ?_, ?_, ?_⟩ <;>
            (simp (maxSteps := 4000000) only [go_sem, ↓reduceIte, reduceCtorEq, Nat.reduceEqDiff, Nat.reduceBEq, Nat.reduceAdd, Nat.reduceSub, Nat.reduceMul, Nat.reduceLT, Nat.reduceLeDiff, Nat.reduceBNe, Int.reduceBEq, Int.reduceBNe, Int.reduceLT, Int.reduceLE, Msg.a, Par.a, Nd.a, t1, o1, t4, t3, hw, hn'])
      · have hlt' : ¬ (j : Int) < (n.kids.length : Int) := by omega
        obtain rfl : j = n.kids.length := by omega
        rw [hb2] at t3 ks
        (repeat (first | simp (maxSteps := 4000000) only [go_sem, ↓reduceIte, reduceCtorEq, Nat.reduceEqDiff, Nat.reduceBEq, Nat.reduceAdd, Nat.reduceSub, Nat.reduceMul, Nat.reduceLT, Nat.reduceLeDiff, Nat.reduceBNe, Int.reduceBEq, Int.reduceBNe, Int.reduceLT, Int.reduceLE, Msg.a, Par.a, Nd.a, t1, o1, t4, t3, hlt', z8, ByteArray.size_append, List.length_map, Int.toNat_natCast] | refine calling (k0) ?_ | refine callingH (k0) ?_ | refine And.intro (by omega) ?_ | refine And.intro (fun d hd => by (repeat (rcases hd with rfl | hd; · exact ⟨rfl, rfl⟩)); cases hd) ?_))
        all_goals (try omega)
        all_goals (repeat (refine And.intro (by omega) ?_))
        refine loop2 ?_ ?_ ?_ ?_ ?_
        · simp (maxSteps := 4000000) only [go_sem, ↓reduceIte, reduceCtorEq, Nat.reduceEqDiff, Nat.reduceBEq, Nat.reduceAdd, Nat.reduceSub, Nat.reduceMul, Nat.reduceLT, Nat.reduceLeDiff, Nat.reduceBNe, Int.reduceBEq, Int.reduceBNe, Int.reduceLT, Int.reduceLE, Msg.a, Par.a, Nd.a, t1]
        · simp (maxSteps := 4000000) only [go_sem, ↓reduceIte, reduceCtorEq, Nat.reduceEqDiff, Nat.reduceBEq, Nat.reduceAdd, Nat.reduceSub, Nat.reduceMul, Nat.reduceLT, Nat.reduceLeDiff, Nat.reduceBNe, Int.reduceBEq, Int.reduceBNe, Int.reduceLT, Int.reduceLE, Msg.a, Par.a, Nd.a, o1]
        · simp (maxSteps := 4000000) only [go_sem, ↓reduceIte, reduceCtorEq, Nat.reduceEqDiff, Nat.reduceBEq, Nat.reduceAdd, Nat.reduceSub, Nat.reduceMul, Nat.reduceLT, Nat.reduceLeDiff, Nat.reduceBNe, Int.reduceBEq, Int.reduceBNe, Int.reduceLT, Int.reduceLE, Msg.a, Par.a, Nd.a]
        · simp (maxSteps := 4000000) only [go_sem, ↓reduceIte, reduceCtorEq, Nat.reduceEqDiff, Nat.reduceBEq, Nat.reduceAdd, Nat.reduceSub, Nat.reduceMul, Nat.reduceLT, Nat.reduceLeDiff, Nat.reduceBNe, Int.reduceBEq, Int.reduceBNe, Int.reduceLT, Int.reduceLE, Msg.a, Par.a, Nd.a, hm0]
        intro σ' u3
        simp (maxSteps := 4000000) only [go_sem, ↓reduceIte, reduceCtorEq, Nat.reduceEqDiff, Nat.reduceBEq, Nat.reduceAdd, Nat.reduceSub, Nat.reduceMul, Nat.reduceLT, Nat.reduceLeDiff, Nat.reduceBNe, Int.reduceBEq, Int.reduceBNe, Int.reduceLT, Int.reduceLE, Msg.a, Par.a, Nd.a, u3]
    | false =>
      have hq := hp1.resolve_right (by rw [ht]; simp)
      (repeat (first | simp (maxSteps := 4000000) only [go_sem, ↓reduceIte, reduceCtorEq, Nat.reduceEqDiff, Nat.reduceBEq, Nat.reduceAdd, Nat.reduceSub, Nat.reduceMul, Nat.reduceLT, Nat.reduceLeDiff, Nat.reduceBNe, Int.reduceBEq, Int.reduceBNe, Int.reduceLT, Int.reduceLE, Msg.a, Par.a, Nd.a, ht, b0, hq, zz1, z3, z4, z5, z8, List.length_map, ByteArray.size_append] | refine calling (k1) ?_ | refine callingH (k1) ?_ | refine calling (k2) ?_ | refine callingH (k2) ?_ | refine calling (k3) ?_ | refine callingH (k3) ?_ | refine calling (k4) ?_ | refine callingH (k4) ?_ | refine calling (ch) ?_ | refine callingH (ch) ?_ | refine And.intro (by omega) ?_ | refine And.intro (fun d hd => by (repeat (rcases hd with rfl | hd; · exact ⟨rfl, rfl⟩)); cases hd) ?_))
      all_goals (try omega)
      all_goals (repeat (refine And.intro (by omega) ?_))
      refine run_loop (rkInv n) (k := n.kids.length) ⟨0, by omega, rfl, ?_, ?_, ?_, ?_⟩ ?_
      · simp (maxSteps := 4000000) only [go_sem, ↓reduceIte, reduceCtorEq, Nat.reduceEqDiff, Nat.reduceBEq, Nat.reduceAdd, Nat.reduceSub, Nat.reduceMul, Nat.reduceLT, Nat.reduceLeDiff, Nat.reduceBNe, Int.reduceBEq, Int.reduceBNe, Int.reduceLT, Int.reduceLE, Msg.a, Par.a, Nd.a, ht]
      · simp (maxSteps := 4000000) only [go_sem, ↓reduceIte, reduceCtorEq, Nat.reduceEqDiff, Nat.reduceBEq, Nat.reduceAdd, Nat.reduceSub, Nat.reduceMul, Nat.reduceLT, Nat.reduceLeDiff, Nat.reduceBNe, Int.reduceBEq, Int.reduceBNe, Int.reduceLT, Int.reduceLE, Msg.a, Par.a, Nd.a, ht]
      · simp (maxSteps := 4000000) only [go_sem, ↓reduceIte, reduceCtorEq, Nat.reduceEqDiff, Nat.reduceBEq, Nat.reduceAdd, Nat.reduceSub, Nat.reduceMul, Nat.reduceLT, Nat.reduceLeDiff, Nat.reduceBNe, Int.reduceBEq, Int.reduceBNe, Int.reduceLT, Int.reduceLE, Msg.a, Par.a, Nd.a]
        rfl
      · simp (maxSteps := 4000000) only [go_sem, ↓reduceIte, reduceCtorEq, Nat.reduceEqDiff, Nat.reduceBEq, Nat.reduceAdd, Nat.reduceSub, Nat.reduceMul, Nat.reduceLT, Nat.reduceLeDiff, Nat.reduceBNe, Int.reduceBEq, Int.reduceBNe, Int.reduceLT, Int.reduceLE, Msg.a, Par.a, Nd.a, hk0]
      rintro k σ ⟨j, hj, rfl, t1, o1, t4, t3⟩
      simp only [r_r46Node_l14]
      have ks := kidsR_size h j
      by_cases hlt : j < n.kids.length
      · have hlt' : (j : Int) < (n.kids.length : Int) := by omega
        obtain ⟨x, hx⟩ := get_lt hlt
        have hgj := at_map (f := AV.int .i64) hx
        have hw := wrapS (j := j) (by omega)
        have ki := h.ok.kids.2 x (List.mem_of_getElem? hx)
        have c1 := rDec_ok x ki
        have dx := decS_small x ki.1 ki.2
        have hn := kidsR_next hx
        by_cases g0 : 0 < j
        · have g0' : (0 : Int) < (j : Int) := by omega
          have tw : IntKind.i64.wrap ((j : Int) - 1) = ((j - 1 : Nat) : Int) := by rw [IntWalk.i64_in _ (by omega)]; omega
          by_cases g1 : j ≤ n.pivots.length
          · have g2 : ((j - 1 : Nat) : Int) < (n.pivots.length : Int) := by omega
            have g3 : (j - 1) < n.pivots.length := by omega
            obtain ⟨y, hy⟩ : ∃ y, n.pivots[j - 1]? = some y := get_lt (by omega)
            have hgy := at_map (f := AV.str) hy
            have hyd : n.pivots.getD (j - 1) ⟨#[]⟩ = y := by rw [List.getD_eq_getElem?_getD, hy]; rfl
            have ys := h.pivs y (List.mem_of_getElem? hy)
            have q1 := quoteF_size y
            have c2 := rQuote_ok y (by omega)
            rw [if_pos ⟨g0, g1⟩, hyd] at hn
            have hn' : kidsR n j ++ ((⟨#[32]⟩ : ByteArray) ++ quoteF y) ++ ((⟨#[32]⟩ : ByteArray) ++ decS x) = kidsR n (j + 1) := by
              rw [hn]; simp only [catF, List.cons_append, List.nil_append, ba_nil, ba_assoc]
            (repeat (first | simp (maxSteps := 4000000) only [go_sem, ↓reduceIte, reduceCtorEq, Nat.reduceEqDiff, Nat.reduceBEq, Nat.reduceAdd, Nat.reduceSub, Nat.reduceMul, Nat.reduceLT, Nat.reduceLeDiff, Nat.reduceBNe, Int.reduceBEq, Int.reduceBNe, Int.reduceLT, Int.reduceLE, Msg.a, Par.a, Nd.a, t1, o1, t4, t3, hlt', hgj, g0', tw, g2, g3, hgy, List.length_map, Int.toNat_natCast, zz1, ByteArray.size_append] | refine calling (c2) ?_ | refine callingH (c2) ?_ | refine calling (c1) ?_ | refine callingH (c1) ?_ | refine And.intro (by omega) ?_ | refine And.intro (fun d hd => by (repeat (rcases hd with rfl | hd; · exact ⟨rfl, rfl⟩)); cases hd) ?_))
            refine ⟨n.kids.length - (j + 1), by omega, j + 1, by omega, rfl, ?_, ?_, ?_, ?_⟩ <;>
              (simp (maxSteps := 4000000) only [go_sem, ↓reduceIte, reduceCtorEq, Nat.reduceEqDiff, Nat.reduceBEq, Nat.reduceAdd, Nat.reduceSub, Nat.reduceMul, Nat.reduceLT, Nat.reduceLeDiff, Nat.reduceBNe, Int.reduceBEq, Int.reduceBNe, Int.reduceLT, Int.reduceLE, Msg.a, Par.a, Nd.a, t1, o1, t4, t3, hw, hn'])
          · have g2 : ¬ ((j - 1 : Nat) : Int) < (n.pivots.length : Int) := by omega
            rw [if_neg (fun e => g1 e.2)] at hn
            have hn' : kidsR n j ++ ((⟨#[32]⟩ : ByteArray) ++ decS x) = kidsR n (j + 1) := by
              rw [hn]; simp only [catF, List.nil_append, ba_nil]
            (repeat (first | simp (maxSteps := 4000000) only [go_sem, ↓reduceIte, reduceCtorEq, Nat.reduceEqDiff, Nat.reduceBEq, Nat.reduceAdd, Nat.reduceSub, Nat.reduceMul, Nat.reduceLT, Nat.reduceLeDiff, Nat.reduceBNe, Int.reduceBEq, Int.reduceBNe, Int.reduceLT, Int.reduceLE, Msg.a, Par.a, Nd.a, t1, o1, t4, t3, hlt', hgj, g0', tw, g2, List.length_map, Int.toNat_natCast, zz1, ByteArray.size_append] | refine calling (c1) ?_ | refine callingH (c1) ?_ | refine And.intro (by omega) ?_ | refine And.intro (fun d hd => by (repeat (rcases hd with rfl | hd; · exact ⟨rfl, rfl⟩)); cases hd) ?_))
            refine ⟨n.kids.length - (j + 1), by omega, j + 1, by omega, rfl, ?_, ?_, ?_, ?_⟩ <;>
              (simp (maxSteps := 4000000) only [go_sem, ↓reduceIte, reduceCtorEq, Nat.reduceEqDiff, Nat.reduceBEq, Nat.reduceAdd, Nat.reduceSub, Nat.reduceMul, Nat.reduceLT, Nat.reduceLeDiff, Nat.reduceBNe, Int.reduceBEq, Int.reduceBNe, Int.reduceLT, Int.reduceLE, Msg.a, Par.a, Nd.a, t1, o1, t4, t3, hw, hn'])
        · have g0' : ¬ (0 : Int) < (j : Int) := by omega
          rw [if_neg (fun e => g0 e.1)] at hn
          have hn' : kidsR n j ++ ((⟨#[32]⟩ : ByteArray) ++ decS x) = kidsR n (j + 1) := by
            rw [hn]; simp only [catF, List.nil_append, ba_nil]
          (repeat (first | simp (maxSteps := 4000000) only [go_sem, ↓reduceIte, reduceCtorEq, Nat.reduceEqDiff, Nat.reduceBEq, Nat.reduceAdd, Nat.reduceSub, Nat.reduceMul, Nat.reduceLT, Nat.reduceLeDiff, Nat.reduceBNe, Int.reduceBEq, Int.reduceBNe, Int.reduceLT, Int.reduceLE, Msg.a, Par.a, Nd.a, t1, o1, t4, t3, hlt', hgj, g0', List.length_map, Int.toNat_natCast, zz1, ByteArray.size_append] | refine calling (c1) ?_ | refine callingH (c1) ?_ | refine And.intro (by omega) ?_ | refine And.intro (fun d hd => by (repeat (rcases hd with rfl | hd; · exact ⟨rfl, rfl⟩)); cases hd) ?_))
          refine ⟨n.kids.length - (j + 1), by omega, j + 1, by omega, rfl, ?_, ?_, ?_, ?_⟩ <;>
            (simp (maxSteps := 4000000) only [go_sem, ↓reduceIte, reduceCtorEq, Nat.reduceEqDiff, Nat.reduceBEq, Nat.reduceAdd, Nat.reduceSub, Nat.reduceMul, Nat.reduceLT, Nat.reduceLeDiff, Nat.reduceBNe, Int.reduceBEq, Int.reduceBNe, Int.reduceLT, Int.reduceLE, Msg.a, Par.a, Nd.a, t1, o1, t4, t3, hw, hn'])
      · have hlt' : ¬ (j : Int) < (n.kids.length : Int) := by omega
        obtain rfl : j = n.kids.length := by omega
        rw [hb2] at t3 ks
        (repeat (first | simp (maxSteps := 4000000) only [go_sem, ↓reduceIte, reduceCtorEq, Nat.reduceEqDiff, Nat.reduceBEq, Nat.reduceAdd, Nat.reduceSub, Nat.reduceMul, Nat.reduceLT, Nat.reduceLeDiff, Nat.reduceBNe, Int.reduceBEq, Int.reduceBNe, Int.reduceLT, Int.reduceLE, Msg.a, Par.a, Nd.a, t1, o1, t4, t3, hlt', z8, ByteArray.size_append, List.length_map, Int.toNat_natCast] | refine calling (k0) ?_ | refine callingH (k0) ?_ | refine And.intro (by omega) ?_ | refine And.intro (fun d hd => by (repeat (rcases hd with rfl | hd; · exact ⟨rfl, rfl⟩)); cases hd) ?_))
        all_goals (try omega)
        all_goals (repeat (refine And.intro (by omega) ?_))
        refine loop2 ?_ ?_ ?_ ?_ ?_
        · simp (maxSteps := 4000000) only [go_sem, ↓reduceIte, reduceCtorEq, Nat.reduceEqDiff, Nat.reduceBEq, Nat.reduceAdd, Nat.reduceSub, Nat.reduceMul, Nat.reduceLT, Nat.reduceLeDiff, Nat.reduceBNe, Int.reduceBEq, Int.reduceBNe, Int.reduceLT, Int.reduceLE, Msg.a, Par.a, Nd.a, t1]
        · simp (maxSteps := 4000000) only [go_sem, ↓reduceIte, reduceCtorEq, Nat.reduceEqDiff, Nat.reduceBEq, Nat.reduceAdd, Nat.reduceSub, Nat.reduceMul, Nat.reduceLT, Nat.reduceLeDiff, Nat.reduceBNe, Int.reduceBEq, Int.reduceBNe, Int.reduceLT, Int.reduceLE, Msg.a, Par.a, Nd.a, o1]
        · simp (maxSteps := 4000000) only [go_sem, ↓reduceIte, reduceCtorEq, Nat.reduceEqDiff, Nat.reduceBEq, Nat.reduceAdd, Nat.reduceSub, Nat.reduceMul, Nat.reduceLT, Nat.reduceLeDiff, Nat.reduceBNe, Int.reduceBEq, Int.reduceBNe, Int.reduceLT, Int.reduceLE, Msg.a, Par.a, Nd.a]
        · simp (maxSteps := 4000000) only [go_sem, ↓reduceIte, reduceCtorEq, Nat.reduceEqDiff, Nat.reduceBEq, Nat.reduceAdd, Nat.reduceSub, Nat.reduceMul, Nat.reduceLT, Nat.reduceLeDiff, Nat.reduceBNe, Int.reduceBEq, Int.reduceBNe, Int.reduceLT, Int.reduceLE, Msg.a, Par.a, Nd.a, hm0]
        intro σ' u3
        simp (maxSteps := 4000000) only [go_sem, ↓reduceIte, reduceCtorEq, Nat.reduceEqDiff, Nat.reduceBEq, Nat.reduceAdd, Nat.reduceSub, Nat.reduceMul, Nat.reduceLT, Nat.reduceLeDiff, Nat.reduceBNe, Int.reduceBEq, Int.reduceBNe, Int.reduceLT, Int.reduceLE, Msg.a, Par.a, Nd.a, u3]
end Go.Proofs.YtkdbphhekpdmhaaDoor
