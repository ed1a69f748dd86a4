/-
  Layer 6: words, a text as a word.
-/
import Derived.Test.YtkdbphhekpdmhaaDoorPkC
import Derived.Test.YtkdbphhekpdmhaaDoorPkA
import Derived.Lib.CutLaws
namespace Go.Proofs.YtkdbphhekpdmhaaDoor
open Go.RowKit
set_option linter.unusedVariables false
set_option linter.unusedSimpArgs false
set_option maxRecDepth 100000
attribute [local go_sem ↓] runOp headOp
attribute [local go_sem] ev0 ev1 ev2 ev3 ev4 evA stHOk.eq_1 stHOk.eq_2 stHSt.eq_1 stHSt.eq_2 okV valV fzV okF valF okBld valBld mxOk.eq_1 mxOk.eq_2 mxVal.eq_1 mxVal.eq_2 cellFit.eq_1 cellFit.eq_2 cellFit.eq_3 cellEq.eq_1 cellEq.eq_2 cellEq.eq_3 upd_at AV.flatB AV.flatBs binIok binIV binSok binSV cellsOk.eq_1 cellsOk.eq_2 cellsVal.eq_1 cellsVal.eq_2 objCells.eq_1 objCells.eq_2 objZ.eq_1 objZ.eq_2 objProt.eq_1 objProt.eq_2 oneObj ptrOk.eq_1 ptrOk.eq_2 ptrOk.eq_3 ptrCells.eq_1 ptrCells.eq_2 ptrCells.eq_3 lenOk.eq_1 lenOk.eq_2 lenOk.eq_3 lenOk.eq_4 lenVal.eq_1 lenVal.eq_2 lenVal.eq_3 lenVal.eq_4 faOk.eq_1 faOk.eq_2 faOk.eq_3 faVal.eq_1 faVal.eq_2 faVal.eq_3 iaOk.eq_1 iaOk.eq_2 iaOk.eq_3 iaVal.eq_1 iaVal.eq_2 iaVal.eq_3 slcLen.eq_1 slcLen.eq_2 slcLen.eq_3 slcLen.eq_4 bdOk.eq_1 bdOk.eq_2 bdVal.eq_1 bdVal.eq_2 slcOk.eq_1 slcOk.eq_2 slcOk.eq_3 slcOk.eq_4 slcVal.eq_1 slcVal.eq_2 slcVal.eq_3 slcVal.eq_4 slcFz.eq_1 slcFz.eq_2 byOk.eq_1 byOk.eq_2 byOk.eq_3 byOk.eq_4 byOk.eq_5 byOk.eq_6 byOk.eq_7 byVal.eq_1 byVal.eq_2 byVal.eq_3 byFz.eq_1 byFz.eq_2 byFz.eq_3 byOks byVals byFzs allOne resSt.eq_1 resSt.eq_2 resName.eq_1 resName.eq_2 stOk.eq_1 stOk.eq_2 stArr.eq_1 stArr.eq_2 stSt.eq_1 stSt.eq_2 AV.patch nameOk_none gB.eq_1 gB.eq_2 gB.eq_3 gIs.eq_1 gIs.eq_2 gIs.eq_3 retV resV resVs evalV cellsV St.byval List.getD_cons_zero List.getD_cons_succ List.getD_nil List.map_cons List.map_nil List.length_cons List.length_nil List.take_succ_cons List.take_zero List.drop_succ_cons List.drop_zero List.headD_cons List.set_cons_zero List.append_nil List.nil_append List.cons_append List.contains_cons List.contains_nil List.elem_cons List.elem_nil List.all_cons List.all_nil List.getElem?_cons_zero List.getElem?_cons_succ List.filterMap_cons List.filterMap_nil Option.isSome_some Option.isSome_none Option.map_some Option.map_none Option.some.injEq AV.int.injEq AV.bool.injEq AV.str.injEq AV.tup.injEq AV.agg.injEq AV.sl.injEq List.cons.injEq Bool.false_eq_true Bool.true_eq_false Bool.not_true Bool.not_false Bool.and_true Bool.true_and Bool.or_false Bool.or_true Bool.false_or Bool.true_or Bool.or_self Bool.and_self Bool.not_eq_true' Bool.not_eq_false' Bool.not_not beq_self_eq_true true_and and_true false_and and_false and_self not_true_eq_false not_false_eq_true forall_const true_implies false_implies implies_true imp_self Nat.lt_add_one Nat.le_refl Nat.zero_le Nat.add_zero Nat.zero_add decide_true decide_false decide_eq_true_eq decide_eq_false_iff_not exists_eq_left exists_eq_left' ge_iff_le gt_iff_lt ite_branch ite_branch' nilOk.eq_1 nilOk.eq_2 nilMay.eq_1 nilMay.eq_2 AV.isSl.eq_1 objTy'.eq_1 objTy'.eq_2 apSt.eq_1 apArr.eq_1 apArr.eq_2 slOf.eq_1 fitsV List.mem_cons List.not_mem_nil Bool.false_and Bool.and_false primOk.eq_1 primOk.eq_2 primOk.eq_3 primOk.eq_4 primOk.eq_5 primVal.eq_1 primVal.eq_2 primVal.eq_3 primVal.eq_4 primVal.eq_5 mOk.eq_1 mOk.eq_2 mVal.eq_1 mVal.eq_2 mFz.eq_1 mFz.eq_2 mOks mVals mFzs mCalOk.eq_1 mCalOk.eq_2 mFn.eq_1 mFn.eq_2 mArgs.eq_1 mArgs.eq_2 ckOk.eq_1 ckOk.eq_2 cloOk.eq_1 ptrAt.eq_1 sh.eq_1 sh.eq_2 sh.eq_3 sh.eq_4 sh.eq_5 retM shH_small
/-! ### percolate/pack.Words -/
def r_words_0 : Reg := ⟨[], [⟨(.mknil 1 9), (some 2), none, [], []⟩], [2], [], false⟩
def r_words_1 : Reg := ⟨[], [⟨(.mv (.t 0)), (some 3), none, [4], []⟩, ⟨(.callv (.c (.clo 67 [] [])) [(.t 3), (.c (.str ⟨#[32]⟩))]), (some 4), none, [], []⟩, ⟨(.mv (.t 4)), (some 2), none, [], []⟩], [4], [], false⟩
def ir_words : IR := (.seq (.reg r_words_0)
  (.seq (.reg r_words_1)
  .ret))
def res_words : List RDesc := [(.tmp 2)]
theorem e_words_0 (C : FuncId → List AV → AV → Prop) (σ : St) (K : St → Prop) : runReg C r_words_0 σ K = runOps C [⟨(.mknil 1 9), (some 2), none, [], []⟩] (σ.kills [2]) K := rfl
theorem e_words_1 (C : FuncId → List AV → AV → Prop) (σ : St) (K : St → Prop) : runReg C r_words_1 σ K = runOps C [⟨(.mv (.t 0)), (some 3), none, [4], []⟩, ⟨(.callv (.c (.clo 67 [] [])) [(.t 3), (.c (.str ⟨#[32]⟩))]), (some 4), none, [], []⟩, ⟨(.mv (.t 4)), (some 2), none, [], []⟩] (σ.kills [4]) K := rfl
theorem fn_words {args : List AV} {r : AV} (ha : args.length.ble Tryd.f68.ntmps = true) (h : run (AFn Tryd.prog) ir_words (endQ res_words r) (initSt args)) : AFn Tryd.prog 68 args r :=
  AFn.of_code (hint := fun _ => []) (c := Tryd.f68.body.getD .skip) (by kernel_rfl) (by kernel_rfl) Tryd.func68 (by kernel_rfl) (by kernel_rfl) (by kernel_rfl) (of_decide_eq_true (by kernel_rfl)) (Nat.le_of_ble_eq_true ha) (Nat.le_of_ble_eq_true (by kernel_rfl)) (run_ok h)

attribute [local go_sem ↓] ir_words
attribute [local go_sem] res_words e_words_0 e_words_1

theorem split_len {sep : ByteArray} (h1 : 1 ≤ sep.size) : ∀ (n : Nat) (s : ByteArray), Lib.countB s sep = n → (Lib.splitB sep 0 n s).length = n + 1 := by
  intro n
  induction n with
  | zero => intro s _; rfl
  | succ n ih =>
    intro s hc
    rcases Lib.indexB_cases s sep with h | ⟨i, h, _⟩
    · rw [Lib.countB_miss s sep h] at hc; omega
    · rw [Lib.countB_hit s sep i h1 h] at hc
      rw [Lib.splitB_hit sep 0 n s i h, List.length_cons, ih _ (by omega)]
def splitL (s sep : ByteArray) : List ByteArray := Lib.splitB sep 0 (Lib.countB s sep) s
theorem split_ok (s sep : ByteArray) (hs : s.size ≤ 1000000) (h1 : 1 ≤ sep.size) (h9 : (splitL s sep).length ≤ maxLen) : AFn Tryd.prog 67 [.str s, .str sep] (.own 1 9 ((splitL s sep).map .str)) := by
  refine .flat2' (by kernel_rfl) str_flat str_flat fun w hG => ?_
  obtain ⟨m, hm⟩ := hG.cell0
  refine (Tryd.strings_Split s sep m w (by omega) hm h1).mono ?_
  rintro e w' ⟨rfl, rfl⟩
  have hl := split_len h1 _ s rfl
  refine ⟨_, rfl, (Below.refl _ _).alloc (Nat.le_refl _) _, fun Q base hB => ?_⟩
  refine ⟨by omega, fun d hd => ?_, .inr ⟨w.heap.size, Lib.countB s sep + 1, _, ?_, hB, heap_alloc_new w _, ?_, ?_, ?_, fun i d j c hi hj => ?_⟩⟩
  · obtain ⟨x, _, rfl⟩ := List.mem_map.1 hd
    exact ⟨rfl, fun c hc => by simp [AV.cells] at hc; subst hc; rfl⟩
  · rw [List.length_map]; unfold splitL; rw [hl]
  · simp [hl]
  · rw [List.length_map]; unfold splitL; rw [hl]; exact Nat.le_refl _
  · unfold splitL at h9; rw [hl] at h9; exact h9
  · rw [List.getElem?_map, Option.map_eq_some_iff] at hi
    obtain ⟨x, hx, rfl⟩ := hi
    cases j with
    | succ j => simp [AV.cells] at hj
    | zero =>
      cases hj
      refine ⟨.string x, ?_, .str _⟩
      have hx' : (Lib.splitB sep 0 (Lib.countB s sep) s)[i]? = some x := hx
      simp [hx']
theorem words_ok (s : ByteArray) (hs : s.size ≤ 1000000) (h9 : (splitL s ⟨#[32]⟩).length ≤ maxLen) : AFn Tryd.prog 68 [.str s] (.own 1 9 ((splitL s ⟨#[32]⟩).map .str)) := by
  refine fn_words rfl ?_
  simp (maxSteps := 4000000) only [go_sem, ↓reduceIte, reduceCtorEq, Nat.reduceEqDiff, Nat.reduceBEq, Nat.reduceAdd, Nat.reduceSub, Nat.reduceMul, Nat.reduceLT, Nat.reduceLeDiff, Nat.reduceBNe, Int.reduceBEq, Int.reduceBNe, Int.reduceLT, Int.reduceLE]
  (first | refine calling (split_ok s ⟨#[32]⟩ hs (Nat.le_refl _) h9) ?_ | refine callingH (split_ok s ⟨#[32]⟩ hs (Nat.le_refl _) h9) ?_)
  simp (maxSteps := 4000000) only [go_sem, ↓reduceIte, reduceCtorEq, Nat.reduceEqDiff, Nat.reduceBEq, Nat.reduceAdd, Nat.reduceSub, Nat.reduceMul, Nat.reduceLT, Nat.reduceLeDiff, Nat.reduceBNe, Int.reduceBEq, Int.reduceBNe, Int.reduceLT, Int.reduceLE, List.length_map]
end Go.Proofs.YtkdbphhekpdmhaaDoor
