/-
  Part 11 of a proof: PkJ, Join, GaB, GaC.
-/
import Derived.Lib.ItoaLen
import Derived.Lib.AppendIntMem
import Derived.Test.YtelmejaiapdgnaaDoorGF10
namespace Go.Proofs.YtelmejaiapdgnaaDoor
attribute [local go_sem] ev0 ev1 ev2 ev3 ev4 evA stHOk.eq_1 stHOk.eq_2 stHSt.eq_1 stHSt.eq_2 okV valV fzV okF valF okBld valBld mxOk.eq_1 mxOk.eq_2 mxVal.eq_1 mxVal.eq_2 cellFit.eq_1 cellFit.eq_2 cellFit.eq_3 cellEq.eq_1 cellEq.eq_2 cellEq.eq_3 upd_at AV.flatB AV.flatBs binIok binIV binSok binSV cellsOk.eq_1 cellsOk.eq_2 cellsVal.eq_1 cellsVal.eq_2 objCells.eq_1 objCells.eq_2 objZ.eq_1 objZ.eq_2 objProt.eq_1 objProt.eq_2 oneObj ptrOk.eq_1 ptrOk.eq_2 ptrOk.eq_3 ptrCells.eq_1 ptrCells.eq_2 ptrCells.eq_3 lenOk.eq_1 lenOk.eq_2 lenOk.eq_3 lenOk.eq_4 lenVal.eq_1 lenVal.eq_2 lenVal.eq_3 lenVal.eq_4 faOk.eq_1 faOk.eq_2 faOk.eq_3 faVal.eq_1 faVal.eq_2 faVal.eq_3 iaOk.eq_1 iaOk.eq_2 iaOk.eq_3 iaVal.eq_1 iaVal.eq_2 iaVal.eq_3 slcLen.eq_1 slcLen.eq_2 slcLen.eq_3 slcLen.eq_4 bdOk.eq_1 bdOk.eq_2 bdVal.eq_1 bdVal.eq_2 slcOk.eq_1 slcOk.eq_2 slcOk.eq_3 slcOk.eq_4 slcVal.eq_1 slcVal.eq_2 slcVal.eq_3 slcVal.eq_4 slcFz.eq_1 slcFz.eq_2 loK.eq_1 loK.eq_2 loK.eq_3 rsVal.eq_1 rsVal.eq_2 rsVal.eq_3 byOk.eq_1 byOk.eq_2 byOk.eq_3 byOk.eq_4 byOk.eq_5 byOk.eq_6 byOk.eq_7 byOk.eq_8 byVal.eq_1 byVal.eq_2 byVal.eq_3 byFz.eq_1 byFz.eq_2 byFz.eq_3 byOks byVals byFzs allOne resSt.eq_1 resSt.eq_2 resName.eq_1 resName.eq_2 stOk.eq_1 stOk.eq_2 stArr.eq_1 stArr.eq_2 stSt.eq_1 stSt.eq_2 AV.patch nameOk_none gB.eq_1 gB.eq_2 gB.eq_3 gIs.eq_1 gIs.eq_2 gIs.eq_3 retV resV resVs evalV cellsV St.byval List.getD_cons_zero List.getD_cons_succ List.getD_nil List.map_cons List.map_nil List.length_cons List.length_nil List.take_succ_cons List.take_zero List.drop_succ_cons List.drop_zero List.headD_cons List.set_cons_zero List.append_nil List.nil_append List.cons_append List.contains_cons List.contains_nil List.elem_cons List.elem_nil List.all_cons List.all_nil List.getElem?_cons_zero List.getElem?_cons_succ List.filterMap_cons List.filterMap_nil Option.isSome_some Option.isSome_none Option.map_some Option.map_none Option.some.injEq AV.int.injEq AV.bool.injEq AV.str.injEq AV.tup.injEq AV.agg.injEq AV.sl.injEq List.cons.injEq Bool.false_eq_true Bool.true_eq_false Bool.not_true Bool.not_false Bool.and_true Bool.true_and Bool.or_false Bool.or_true Bool.false_or Bool.true_or Bool.or_self Bool.and_self Bool.not_eq_true' Bool.not_eq_false' Bool.not_not beq_self_eq_true true_and and_true false_and and_false and_self not_true_eq_false not_false_eq_true forall_const true_implies false_implies implies_true imp_self Nat.lt_add_one Nat.le_refl Nat.zero_le Nat.add_zero Nat.zero_add decide_true decide_false decide_eq_true_eq decide_eq_false_iff_not exists_eq_left exists_eq_left' ge_iff_le gt_iff_lt ite_branch ite_branch' nilOk.eq_1 nilOk.eq_2 nilMay.eq_1 nilMay.eq_2 AV.isSl.eq_1 objTy'.eq_1 objTy'.eq_2 apSt.eq_1 apArr.eq_1 apArr.eq_2 apTwo.eq_1 apTwo.eq_2 apSt2.eq_1 apArr2.eq_1 apArr2.eq_2 slOf.eq_1 fitsV List.mem_cons List.not_mem_nil Bool.false_and Bool.and_false primOk.eq_1 primOk.eq_2 primOk.eq_3 primOk.eq_4 primOk.eq_5 primVal.eq_1 primVal.eq_2 primVal.eq_3 primVal.eq_4 primVal.eq_5 mOk.eq_1 mOk.eq_2 mVal.eq_1 mVal.eq_2 mFz.eq_1 mFz.eq_2 mOks mVals mFzs mCalOk.eq_1 mCalOk.eq_2 mFn.eq_1 mFn.eq_2 mArgs.eq_1 mArgs.eq_2 ckOk.eq_1 ckOk.eq_2 cloOk.eq_1 ptrAt.eq_1 sh.eq_1 sh.eq_2 sh.eq_3 sh.eq_4 sh.eq_5 sh.eq_6 retM shH_small evM entOk.eq_1 entOk.eq_2 ents.eq_1 ents.eq_2 kI.eq_1 mpOk.eq_1 mpR.eq_1 lkV.eq_1 lkV.eq_2 remp.eq_2 evP pvOk.eq_1 pvOk.eq_2 pvVal.eq_1 pvVal.eq_2 plOk.eq_1 plOk.eq_2 plOk.eq_3 plV.eq_1 plV.eq_2 plF.eq_1 plF.eq_2 plVal.eq_1 plVal.eq_2 plFz.eq_1 plFz.eq_2 lpOk.eq_1 lpOk.eq_2 lpVal.eq_1 lpVal.eq_2 lpFz.eq_1 lpFz.eq_2 stpOk.eq_1 stpOk.eq_2 stpSt.eq_1 stpSt.eq_2 stpArr.eq_1 keepS.eq_1 keepS.eq_2
section
/-
  Layer 6: a number's digits, a text as a number, and the law PackNumbers.
-/
open Go.RowKit
set_option linter.unusedVariables false
set_option linter.unusedSimpArgs false
set_option maxRecDepth 100000
attribute [local go_sem ↓] runOp headOp
/-! ### percolate/pack.Dec -/
def r_dec_0 : Reg := ⟨[], [⟨(.mv (.c (.str ⟨#[]⟩))), (some 2), none, [], []⟩], [], [], false⟩
def t_dec_1 : List ROp := [⟨(.mv (.t 0)), (some 3), none, [4], []⟩, ⟨(.callv (.c (.clo 30 [] [])) [(.t 3)]), (some 4), none, [], []⟩, ⟨(.mv (.t 4)), (some 2), none, [], []⟩]
def r_dec_1 : Reg := ⟨[], t_dec_1, [4], [], false⟩
def ir_dec : IR := (.seq (.reg r_dec_0)
  (.seq (.reg r_dec_1)
  .ret))
def res_dec : List RDesc := [(.tmp 2)]
theorem e_dec_0 (C : FuncId → List AV → AV → Prop) (σ : St) (K : St → Prop) : runReg C r_dec_0 σ K = runOps C [⟨(.mv (.c (.str ⟨#[]⟩))), (some 2), none, [], []⟩] (σ.kills []) K := rfl
theorem e_dec_1 (C : FuncId → List AV → AV → Prop) (σ : St) (K : St → Prop) : runReg C r_dec_1 σ K = runOps C t_dec_1 (σ.kills [4]) K := rfl
theorem fn_dec {args : List AV} {r : AV} (ha : args.length.ble Tryd.f24.ntmps = true) (h : run (AFn Tryd.prog) ir_dec (endQ res_dec r) (initSt args)) : AFn Tryd.prog 24 args r :=
  AFn.of_code (pv := false) (hint := fun _ => []) (c := Tryd.f24.body.getD .skip) (by kernel_rfl) (by kernel_rfl) Tryd.func24 (by kernel_rfl) (by kernel_rfl) (by kernel_rfl) (of_decide_eq_true (by kernel_rfl)) (Nat.le_of_ble_eq_true ha) (Nat.le_of_ble_eq_true (by kernel_rfl)) (run_ok h)
/-! ### percolate/percolateref06.Dec -/
attribute [local go_sem ↓] ir_dec
attribute [local go_sem] res_dec e_dec_0 e_dec_1 t_dec_1
def decS (n : Int) : ByteArray := ⟨(Lib.itoa n).toArray⟩
theorem decS_size (n : Int) : (decS n).size = (Lib.itoa n).length := rfl
def inI (n : Int) : Prop := -9223372036854775808 ≤ n ∧ n ≤ 9223372036854775807
theorem itoa_ok (n : Int) (h : inI n) : AFn Tryd.prog 30 [.int .i64 n] (.str (decS n)) :=
  .flat1 (by kernel_rfl) int_flat (fun _ _ _ => .str _) fun w hG => (Tryd.strconv_Itoa n h.1 h.2 w hG.2).mono fun e w' ⟨he, k, os, hw⟩ => by
    subst hw
    exact ⟨he, Lib.below_grow _ _ (Nat.le_refl _) _ _⟩
theorem dec_ok (n : Int) (h : inI n) : AFn Tryd.prog 24 [.int .i64 n] (.str (decS n)) := by
  refine fn_dec rfl ?_
  simp (maxSteps := 4000000) only [go_sem, ↓reduceIte, reduceCtorEq, Nat.reduceEqDiff, Nat.reduceBEq, Nat.reduceAdd, Nat.reduceSub, Nat.reduceMul, Nat.reduceLT, Nat.reduceLeDiff, Nat.reduceBNe, Int.reduceBEq, Int.reduceBNe, Int.reduceLT, Int.reduceLE]
  (first | refine calling (itoa_ok n h) ?_ | refine callingH (itoa_ok n h) ?_)
  simp (maxSteps := 4000000) only [go_sem, ↓reduceIte, reduceCtorEq, Nat.reduceEqDiff, Nat.reduceBEq, Nat.reduceAdd, Nat.reduceSub, Nat.reduceMul, Nat.reduceLT, Nat.reduceLeDiff, Nat.reduceBNe, Int.reduceBEq, Int.reduceBNe, Int.reduceLT, Int.reduceLE]
/-! ### digits -/
open Lib (decDigits itoa nDigits)
/-! ### a text as a number -/
end
section
/-
  Words with blanks between them: the library's Join; how long words are.
-/
open Go.RowKit
set_option linter.unusedVariables false
set_option linter.unusedSimpArgs false
set_option maxRecDepth 100000
def joinB (l : List ByteArray) (sep : ByteArray) : ByteArray := ⟨(Lib.join (l.map (·.data.toList)) sep.data.toList).toArray⟩
theorem join_ok (l : List ByteArray) (sep : ByteArray) (hl : l.length ≤ 140737488355328) (hj : (Lib.join (l.map (·.data.toList)) sep.data.toList).length ≤ 140737488355328) : AFn Tryd.prog 25 [.sl (l.map .str), .str sep] (.str (joinB l sep)) := by
  refine ⟨by kernel_rfl, fun w Pr vs hG hPr hlen hvs => ?_⟩
  obtain ⟨a, b, rfl⟩ : ∃ a b, vs = [a, b] := by
    match vs, hlen with
    | [a, b], _ => exact ⟨a, b, rfl⟩
  have h1 := hvs 0 _ a rfl rfl
  have h2 := hvs 1 _ b rfl rfl
  obtain rfl := h2.str_of
  have fin : ∀ {v : Value}, (Calls Tryd.prog 25 #[v, .string sep] w fun e w' => e = .returned (.string (joinB l sep)) ∧ Below w.heap.size w w') → Calls Tryd.prog 25 [v, .string sep].toArray w fun e w' => ∃ u, e = .returned u ∧ Below w.heap.size w w' ∧ RR (fun b o => Pr b o ∨ w.heap.size ≤ b) w.heap.size w' (.str (joinB l sep)) u := fun hc =>
    hc.mono fun e w' ⟨he, hb⟩ => ⟨_, he, hb, .str _⟩
  generalize hq : l.map AV.str = q at h1
  cases h1 with
  | sl _ A cap z u hcap hmax hA h =>
    subst hq
    rw [List.length_map] at hcap hA ⊢
    refine fin ?_
    by_cases h0 : l.length = 0
    · have e0 : l = [] := List.length_eq_zero_iff.1 h0
      subst e0
      refine (Tryd.strings_Join_none A cap sep w).mono fun e w' ⟨he, hw⟩ => ⟨?_, by rw [hw]; exact Below.refl _ _⟩
      rw [he]; rfl
    · obtain ⟨b, off, rfl, hlies⟩ := hA (by omega)
      have hz : z = 1 := by
        obtain ⟨x, hx⟩ : ∃ x, l[0]? = some x := ⟨_, List.getElem?_eq_getElem (by omega)⟩
        exact (hlies.len (.str x) (List.mem_map.2 ⟨x, List.mem_of_getElem? hx, rfl⟩)).symm
      subst hz
      refine (Tryd.strings_Join b off cap l sep w (fun j x hx => ?_) hlies.lt hl hcap hj).mono fun e w' ⟨he, hb⟩ => ⟨he, hb⟩
      have hjl := (List.getElem?_eq_some_iff.1 hx).1
      have := (hlies.at_ j 0 (by rw [List.length_map]; exact hjl) (by omega)).2
      rw [Nat.mul_one, Nat.add_zero] at this
      rw [this]
      have hv := h j (.str x) 0 (.str x) (by rw [List.getElem?_map, hx]; rfl) rfl
      rw [hv.str_of]
/-- few short words, with blanks between them -/
theorem join_len (sep : List UInt8) : ∀ l : List (List UInt8), (Lib.join l sep).length ≤ (l.map fun x => x.length + sep.length).sum
  | [] => by simp [Lib.join_nil]
  | x :: r => by
    rw [Lib.join_cons]
    have : ∀ r : List (List UInt8), (Lib.joinTail sep r).length = (r.map fun x => x.length + sep.length).sum := by
      intro r
      induction r with
      | nil => rfl
      | cons y r ih =>
        show ((sep ++ y) ++ Lib.joinTail sep r).length = _
        rw [List.length_append, ih, List.length_append, List.map_cons, List.sum_cons]; omega
    rw [List.length_append, this, List.map_cons, List.sum_cons]; omega
end
section
/-
  A gauge as a line: the words that the code puts together: walked.
-/
open Go.RowKit
set_option linter.unusedVariables false
set_option linter.unusedSimpArgs false
set_option maxRecDepth 100000
attribute [local go_sem ↓] runOp headOp
/-! ### percolate/gauge.Line$1 -/
def t_addG_0 : List ROp := [⟨(.loadp 1 false (.t 2)), (some 7), none, [9], []⟩, ⟨(.mv (.t 0)), (some 8), none, [9], []⟩, ⟨(.bsl 1 9 [(.t 8)]), (some 9), none, [], []⟩, ⟨(.append 1 9 16 (.t 7) (.t 9)), (some 10), none, [], []⟩, ⟨(.storep 1 (.t 2) (.t 10)), none, none, [], []⟩]
def r_addG_0 : Reg := ⟨[], t_addG_0, [9], [], false⟩
def t_addG_1 : List ROp := [⟨(.mv (.t 1)), (some 11), none, [], []⟩, ⟨(.len false (.t 11)), (some 12), none, [], []⟩, ⟨(.mv (.c (.int .i64 0))), (some 13), none, [], []⟩]
def r_addG_1 : Reg := ⟨[], t_addG_1, [], [], false⟩
def r_addG_2 : Reg := ⟨[], [⟨(.bin .lss (.t 13) (.t 12)), (some 14), none, [], []⟩], [], [], false⟩
def t_addG_3 : List ROp := [⟨(.iaddr 1 (.t 11) (.t 13)), (some 15), none, [], []⟩, ⟨(.load 1 false (.t 15)), (some 16), none, [], []⟩, ⟨(.mv (.t 16)), (some 6), none, [], []⟩]
def r_addG_3 : Reg := ⟨[], t_addG_3, [], [], false⟩
def h_addG_4 : List ROp := [⟨(.loadp 1 false (.t 2)), (some 17), none, [19, 20], []⟩, ⟨(.mv (.t 6)), (some 18), none, [19, 20], []⟩, ⟨(.callv (.c (.clo 24 [] [])) [(.t 18)]), (some 19), none, [20], []⟩, ⟨(.bsl 1 9 [(.t 19)]), (some 20), none, [], []⟩]
def r_addG_4 : Reg := ⟨h_addG_4, [⟨(.append 1 9 16 (.t 17) (.t 20)), (some 21), none, [], []⟩, ⟨(.storep 1 (.t 2) (.t 21)), none, none, [], []⟩], [19, 20], [], true⟩
def r_addG_5 : Reg := ⟨[], [⟨(.bin .add (.t 13) (.c (.int .i64 1))), (some 22), none, [], []⟩, ⟨(.mv (.t 22)), (some 13), none, [], []⟩], [], [], false⟩
def r_addG_l6 : IR := (.seq (.reg r_addG_2)
  (.seq (.cond (.t 14) .skip
  (.exit 0))
  (.seq (.block 1 (.seq (.reg r_addG_3)
  (.reg r_addG_4)))
  (.reg r_addG_5))))
def ir_addG : IR := (.seq (.reg r_addG_0)
  (.seq (.reg r_addG_1)
  (.block 0 (.loop r_addG_l6))))
def res_addG : List RDesc := []
theorem e_addG_0 (C : FuncId → List AV → AV → Prop) (σ : St) (K : St → Prop) : runReg C r_addG_0 σ K = runOps C t_addG_0 (σ.kills [9]) K := rfl
theorem e_addG_1 (C : FuncId → List AV → AV → Prop) (σ : St) (K : St → Prop) : runReg C r_addG_1 σ K = runOps C t_addG_1 (σ.kills []) K := rfl
theorem e_addG_2 (C : FuncId → List AV → AV → Prop) (σ : St) (K : St → Prop) : runReg C r_addG_2 σ K = runOps C [⟨(.bin .lss (.t 13) (.t 12)), (some 14), none, [], []⟩] (σ.kills []) K := rfl
theorem e_addG_3 (C : FuncId → List AV → AV → Prop) (σ : St) (K : St → Prop) : runReg C r_addG_3 σ K = runOps C t_addG_3 (σ.kills []) K := rfl
theorem e_addG_4 (C : FuncId → List AV → AV → Prop) (σ : St) (K : St → Prop) : runReg C r_addG_4 σ K = runHead C [] [⟨(.append 1 9 16 (.t 17) (.t 20)), (some 21), none, [], []⟩, ⟨(.storep 1 (.t 2) (.t 21)), none, none, [], []⟩] h_addG_4 (σ.kills [19, 20]) K := rfl
theorem e_addG_5 (C : FuncId → List AV → AV → Prop) (σ : St) (K : St → Prop) : runReg C r_addG_5 σ K = runOps C [⟨(.bin .add (.t 13) (.c (.int .i64 1))), (some 22), none, [], []⟩, ⟨(.mv (.t 22)), (some 13), none, [], []⟩] (σ.kills []) K := rfl
theorem fng_addG {args : List AV} {S : GS} {res : AV} {R : GS → Prop} (ha : args.length.ble Tryd.f23.ntmps = true) (hag : args.all argG = true) (h : ∀ Hx, run (AFn Tryd.prog) ir_addG (endG res_addG res R Hx) (initG args S Hx)) : GFn Tryd.prog 23 args S res R :=
  GFn.of_code (pv := true) (hint := fun _ => []) (c := Tryd.f23.body.getD .skip) (by kernel_rfl) (by kernel_rfl) Tryd.func23 (by kernel_rfl) (by kernel_rfl) (by kernel_rfl) (of_decide_eq_true (by kernel_rfl)) (Nat.le_of_ble_eq_true ha) (Nat.le_of_ble_eq_true (by kernel_rfl)) hag (fun Hx => run_ok (h Hx))
attribute [local go_sem ↓] ir_addG
attribute [local go_sem] res_addG e_addG_0 t_addG_0 e_addG_1 t_addG_1 e_addG_2 e_addG_3 t_addG_3 e_addG_4 h_addG_4 e_addG_5
/-- the captured list of words -/
def ptsS (l : List ByteArray) (u : Value) : GS := ⟨⟨1, 29, [.cst u], 0⟩, [(0, 0, 0, l.length, u)], [(0, ⟨1, 9, l.map AV.str, 0⟩)]⟩
def ptsR (l : List ByteArray) (S : GS) : Prop := ∃ u : Value, u.oneCell' = true ∧ S = ptsS l u
def agI (Hx : Nat → Option Arr) (l : List ByteArray) (ns : List Int) (k : Nat) (σ : St) : Prop :=
  ∃ (i : Nat) (u : Value), i ≤ ns.length ∧ u.oneCell' = true ∧ k = ns.length - i ∧ σ.T 2 = .ptr 1000 0 0 ∧ σ.T 11 = .sl (ns.map (AV.int .i64)) ∧ σ.T 12 = .int .i64 ns.length ∧ σ.T 13 = .int .i64 i ∧
    σ.T 101000 = .vrs 500 0 (l ++ (ns.take i).map decS).length u ∧ σ.H 500 = some ⟨1, 9, (l ++ (ns.take i).map decS).map AV.str, 0⟩ ∧ σ.H 1000 = some ⟨1, 29, [.cst u], 0⟩ ∧
    (∀ s, s ∈ [501, 502, 503, 504, 505, 506, 507] → σ.H s = none) ∧ ∀ s, σ.H (s + 1001) = Hx (s + 1001)
set_option maxHeartbeats 8000000 in
theorem addG_ok (word : ByteArray) (ns : List Int) (l : List ByteArray) (u : Value) (hu : u.oneCell' = true) (hl : l.length ≤ 1000000) (hn : ns.length ≤ 1000000) (hi : ∀ x, x ∈ ns → inI x) :
    GFn Tryd.prog 23 [.str word, .sl (ns.map (AV.int .i64)), .ptr 1000 0 0] (ptsS l u) (.tup []) (ptsR (l ++ word :: ns.map decS)) := by
  refine fng_addG rfl rfl fun Hx => ?_
  unfold ptsS
  have tk : List.take l.length (l.map AV.str) = l.map AV.str := List.take_of_length_le (by simp)
  simp (maxSteps := 4000000) only [go_sem, ↓reduceIte, reduceCtorEq, Nat.reduceEqDiff, Nat.reduceBEq, Nat.reduceAdd, Nat.reduceSub, Nat.reduceMul, Nat.reduceLT, Nat.reduceLeDiff, Nat.reduceBNe, Int.reduceBEq, Int.reduceBNe, Int.reduceLT, Int.reduceLE, evG, evP, Nat.reduceMod, Nat.reduceDiv, Nat.reduceSub, Nat.reduceLeDiff, idxPrv, Option.isSome_some, Option.isSome_none, Option.getD_some, endG_ret, endG_normal, tk, List.length_map]
  refine ⟨⟨by omega, fun d hd => by (rcases hd with rfl | hd; · exact ⟨rfl, rfl⟩); cases hd⟩, ?_⟩
  intro u1 hu1
  have e0 : (l ++ [word]).map AV.str = l.map AV.str ++ [AV.str word] := List.map_append
  have e1 : (l ++ [word]).length = l.length + 1 := List.length_append
  refine run_loop (agI Hx (l ++ [word]) ns) (k := ns.length) ⟨0, u1, Nat.zero_le _, hu1, rfl, ?_, ?_, ?_, ?_, ?_, ?_, ?_, ?_, ?_⟩ ?_
  · simp (maxSteps := 4000000) only [go_sem, ↓reduceIte, reduceCtorEq, Nat.reduceEqDiff, Nat.reduceBEq, Nat.reduceAdd, Nat.reduceSub, Nat.reduceMul, Nat.reduceLT, Nat.reduceLeDiff, Nat.reduceBNe, Int.reduceBEq, Int.reduceBNe, Int.reduceLT, Int.reduceLE, evG, evP, Nat.reduceMod, Nat.reduceDiv, Nat.reduceSub, Nat.reduceLeDiff, idxPrv, Option.isSome_some, Option.isSome_none, Option.getD_some]
  · simp (maxSteps := 4000000) only [go_sem, ↓reduceIte, reduceCtorEq, Nat.reduceEqDiff, Nat.reduceBEq, Nat.reduceAdd, Nat.reduceSub, Nat.reduceMul, Nat.reduceLT, Nat.reduceLeDiff, Nat.reduceBNe, Int.reduceBEq, Int.reduceBNe, Int.reduceLT, Int.reduceLE, evG, evP, Nat.reduceMod, Nat.reduceDiv, Nat.reduceSub, Nat.reduceLeDiff, idxPrv, Option.isSome_some, Option.isSome_none, Option.getD_some]
  · simp (maxSteps := 4000000) only [go_sem, ↓reduceIte, reduceCtorEq, Nat.reduceEqDiff, Nat.reduceBEq, Nat.reduceAdd, Nat.reduceSub, Nat.reduceMul, Nat.reduceLT, Nat.reduceLeDiff, Nat.reduceBNe, Int.reduceBEq, Int.reduceBNe, Int.reduceLT, Int.reduceLE, evG, evP, Nat.reduceMod, Nat.reduceDiv, Nat.reduceSub, Nat.reduceLeDiff, idxPrv, Option.isSome_some, Option.isSome_none, Option.getD_some]
  · (simp (maxSteps := 4000000) only [go_sem, ↓reduceIte, reduceCtorEq, Nat.reduceEqDiff, Nat.reduceBEq, Nat.reduceAdd, Nat.reduceSub, Nat.reduceMul, Nat.reduceLT, Nat.reduceLeDiff, Nat.reduceBNe, Int.reduceBEq, Int.reduceBNe, Int.reduceLT, Int.reduceLE, evG, evP, Nat.reduceMod, Nat.reduceDiv, Nat.reduceSub, Nat.reduceLeDiff, idxPrv, Option.isSome_some, Option.isSome_none, Option.getD_some]) <;> rfl
  · simp (maxSteps := 4000000) only [go_sem, ↓reduceIte, reduceCtorEq, Nat.reduceEqDiff, Nat.reduceBEq, Nat.reduceAdd, Nat.reduceSub, Nat.reduceMul, Nat.reduceLT, Nat.reduceLeDiff, Nat.reduceBNe, Int.reduceBEq, Int.reduceBNe, Int.reduceLT, Int.reduceLE, evG, evP, Nat.reduceMod, Nat.reduceDiv, Nat.reduceSub, Nat.reduceLeDiff, idxPrv, Option.isSome_some, Option.isSome_none, Option.getD_some, List.take_zero, List.map_nil, List.append_nil, e1]
  · simp (maxSteps := 4000000) only [go_sem, ↓reduceIte, reduceCtorEq, Nat.reduceEqDiff, Nat.reduceBEq, Nat.reduceAdd, Nat.reduceSub, Nat.reduceMul, Nat.reduceLT, Nat.reduceLeDiff, Nat.reduceBNe, Int.reduceBEq, Int.reduceBNe, Int.reduceLT, Int.reduceLE, evG, evP, Nat.reduceMod, Nat.reduceDiv, Nat.reduceSub, Nat.reduceLeDiff, idxPrv, Option.isSome_some, Option.isSome_none, Option.getD_some, List.take_zero, List.map_nil, List.append_nil, e0]
  · simp (maxSteps := 4000000) only [go_sem, ↓reduceIte, reduceCtorEq, Nat.reduceEqDiff, Nat.reduceBEq, Nat.reduceAdd, Nat.reduceSub, Nat.reduceMul, Nat.reduceLT, Nat.reduceLeDiff, Nat.reduceBNe, Int.reduceBEq, Int.reduceBNe, Int.reduceLT, Int.reduceLE, evG, evP, Nat.reduceMod, Nat.reduceDiv, Nat.reduceSub, Nat.reduceLeDiff, idxPrv, Option.isSome_some, Option.isSome_none, Option.getD_some]
  · intro s hs
    simp only [List.mem_cons, List.not_mem_nil, or_false] at hs
    rcases hs with rfl | rfl | rfl | rfl | rfl | rfl | rfl <;> (simp (maxSteps := 4000000) only [go_sem, ↓reduceIte, reduceCtorEq, Nat.reduceEqDiff, Nat.reduceBEq, Nat.reduceAdd, Nat.reduceSub, Nat.reduceMul, Nat.reduceLT, Nat.reduceLeDiff, Nat.reduceBNe, Int.reduceBEq, Int.reduceBNe, Int.reduceLT, Int.reduceLE, evG, evP, Nat.reduceMod, Nat.reduceDiv, Nat.reduceSub, Nat.reduceLeDiff, idxPrv, Option.isSome_some, Option.isSome_none, Option.getD_some])
  · intro s
    have g1 : ¬ s + 1001 < 1000 := by omega
    have g2 : ¬ s + 1001 < 1001 := by omega
    simp (maxSteps := 4000000) only [go_sem, ↓reduceIte, reduceCtorEq, Nat.reduceEqDiff, Nat.reduceBEq, Nat.reduceAdd, Nat.reduceSub, Nat.reduceMul, Nat.reduceLT, Nat.reduceLeDiff, Nat.reduceBNe, Int.reduceBEq, Int.reduceBNe, Int.reduceLT, Int.reduceLE, evG, evP, Nat.reduceMod, Nat.reduceDiv, Nat.reduceSub, Nat.reduceLeDiff, idxPrv, Option.isSome_some, Option.isSome_none, Option.getD_some, g1, g2]
  rintro k σ ⟨i, u2, hi2, hu2, rfl, t2, t11, t12, t13, tg, h500, h1000, hno, hrest⟩
  simp only [r_addG_l6]
  by_cases hlt : i < ns.length
  case neg =>
    have hlt' : ¬ (i : Int) < (ns.length : Int) := by omega
    have et : ns.take i = ns := List.take_of_length_le (by omega)
    rw [et, List.append_assoc] at tg h500
    simp (maxSteps := 4000000) only [go_sem, ↓reduceIte, reduceCtorEq, Nat.reduceEqDiff, Nat.reduceBEq, Nat.reduceAdd, Nat.reduceSub, Nat.reduceMul, Nat.reduceLT, Nat.reduceLeDiff, Nat.reduceBNe, Int.reduceBEq, Int.reduceBNe, Int.reduceLT, Int.reduceLE, evG, evP, Nat.reduceMod, Nat.reduceDiv, Nat.reduceSub, Nat.reduceLeDiff, idxPrv, Option.isSome_some, Option.isSome_none, Option.getD_some, t12, t13, hlt', endG_ret, endG_normal, retG, finG]
    have e2 : l ++ ([word] ++ ns.map decS) = l ++ word :: ns.map decS := rfl
    rw [e2] at tg h500
    refine ⟨ptsS (l ++ word :: ns.map decS) u2, ⟨u2, hu2, rfl⟩, ⟨h1000, fun p hp => ?_, fun i hi => ?_⟩, hrest⟩
    · rw [List.mem_singleton.1 hp]
      refine ⟨by show 0 < 100; omega, ?_⟩
      simp (maxSteps := 4000000) only [go_sem, ↓reduceIte, reduceCtorEq, Nat.reduceEqDiff, Nat.reduceBEq, Nat.reduceAdd, Nat.reduceSub, Nat.reduceMul, Nat.reduceLT, Nat.reduceLeDiff, Nat.reduceBNe, Int.reduceBEq, Int.reduceBNe, Int.reduceLT, Int.reduceLE, evG, evP, Nat.reduceMod, Nat.reduceDiv, Nat.reduceSub, Nat.reduceLeDiff, idxPrv, Option.isSome_some, Option.isSome_none, Option.getD_some, tg]
    · simp only [List.mem_cons, List.not_mem_nil, or_false] at hi
      rcases hi with rfl | rfl | rfl | rfl | rfl | rfl | rfl | rfl
      · exact h500
      · exact hno 501 (by simp)
      · exact hno 502 (by simp)
      · exact hno 503 (by simp)
      · exact hno 504 (by simp)
      · exact hno 505 (by simp)
      · exact hno 506 (by simp)
      · exact hno 507 (by simp)
  have hlt' : (i : Int) < (ns.length : Int) := by omega
  obtain ⟨x, hx⟩ := get_lt hlt
  have hgx := at_map (f := AV.int .i64) hx
  have cd := dec_ok x (hi x (List.mem_of_getElem? hx))
  have hw := wrapS (j := i) (by omega)
  have etk : (ns.take (i + 1)).map decS = (ns.take i).map decS ++ [decS x] := by rw [List.take_add_one, hx, List.map_append]; rfl
  generalize hO : l ++ [word] ++ (ns.take i).map decS = out at *
  have hol : out.length = l.length + 1 + i := by
    rw [← hO]; simp only [List.length_append, List.length_cons, List.length_nil, List.length_map, List.length_take]; omega
  have ttk : List.take out.length (out.map AV.str) = out.map AV.str := List.take_of_length_le (by simp)
  have hO2 : l ++ [word] ++ (ns.take (i + 1)).map decS = out ++ [decS x] := by rw [etk, ← List.append_assoc, hO]
  have ho1 : (out ++ [decS x]).map AV.str = out.map AV.str ++ [AV.str (decS x)] := List.map_append
  have ho2 : (out ++ [decS x]).length = out.length + 1 := List.length_append
  (repeat (first | simp (maxSteps := 4000000) only [go_sem, ↓reduceIte, reduceCtorEq, Nat.reduceEqDiff, Nat.reduceBEq, Nat.reduceAdd, Nat.reduceSub, Nat.reduceMul, Nat.reduceLT, Nat.reduceLeDiff, Nat.reduceBNe, Int.reduceBEq, Int.reduceBNe, Int.reduceLT, Int.reduceLE, evG, evP, Nat.reduceMod, Nat.reduceDiv, Nat.reduceSub, Nat.reduceLeDiff, idxPrv, Option.isSome_some, Option.isSome_none, Option.getD_some, t2, t11, t12, t13, tg, h500, h1000, hlt', hgx, hlt, hw, ttk, List.length_map, Int.toNat_natCast] | refine calling (cd) ?_ | refine callingH (cd) ?_ | refine And.intro (by omega) ?_ | refine And.intro (fun d hd => by (repeat (rcases hd with rfl | hd; · exact ⟨rfl, rfl⟩)); cases hd) ?_))
  refine ⟨⟨by omega, fun d hd => by (rcases hd with rfl | hd; · exact ⟨rfl, rfl⟩); cases hd⟩, ?_⟩
  intro u3 hu3
  refine ⟨ns.length - (i + 1), by omega, i + 1, u3, by omega, hu3, rfl, ?_, ?_, ?_, ?_, ?_, ?_, ?_, ?_, ?_⟩
  · simp (maxSteps := 4000000) only [go_sem, ↓reduceIte, reduceCtorEq, Nat.reduceEqDiff, Nat.reduceBEq, Nat.reduceAdd, Nat.reduceSub, Nat.reduceMul, Nat.reduceLT, Nat.reduceLeDiff, Nat.reduceBNe, Int.reduceBEq, Int.reduceBNe, Int.reduceLT, Int.reduceLE, evG, evP, Nat.reduceMod, Nat.reduceDiv, Nat.reduceSub, Nat.reduceLeDiff, idxPrv, Option.isSome_some, Option.isSome_none, Option.getD_some, t2]
  · simp (maxSteps := 4000000) only [go_sem, ↓reduceIte, reduceCtorEq, Nat.reduceEqDiff, Nat.reduceBEq, Nat.reduceAdd, Nat.reduceSub, Nat.reduceMul, Nat.reduceLT, Nat.reduceLeDiff, Nat.reduceBNe, Int.reduceBEq, Int.reduceBNe, Int.reduceLT, Int.reduceLE, evG, evP, Nat.reduceMod, Nat.reduceDiv, Nat.reduceSub, Nat.reduceLeDiff, idxPrv, Option.isSome_some, Option.isSome_none, Option.getD_some, t11]
  · simp (maxSteps := 4000000) only [go_sem, ↓reduceIte, reduceCtorEq, Nat.reduceEqDiff, Nat.reduceBEq, Nat.reduceAdd, Nat.reduceSub, Nat.reduceMul, Nat.reduceLT, Nat.reduceLeDiff, Nat.reduceBNe, Int.reduceBEq, Int.reduceBNe, Int.reduceLT, Int.reduceLE, evG, evP, Nat.reduceMod, Nat.reduceDiv, Nat.reduceSub, Nat.reduceLeDiff, idxPrv, Option.isSome_some, Option.isSome_none, Option.getD_some, t12]
  · simp (maxSteps := 4000000) only [go_sem, ↓reduceIte, reduceCtorEq, Nat.reduceEqDiff, Nat.reduceBEq, Nat.reduceAdd, Nat.reduceSub, Nat.reduceMul, Nat.reduceLT, Nat.reduceLeDiff, Nat.reduceBNe, Int.reduceBEq, Int.reduceBNe, Int.reduceLT, Int.reduceLE, evG, evP, Nat.reduceMod, Nat.reduceDiv, Nat.reduceSub, Nat.reduceLeDiff, idxPrv, Option.isSome_some, Option.isSome_none, Option.getD_some]
  · rw [hO2, ho2]; simp (maxSteps := 4000000) only [go_sem, ↓reduceIte, reduceCtorEq, Nat.reduceEqDiff, Nat.reduceBEq, Nat.reduceAdd, Nat.reduceSub, Nat.reduceMul, Nat.reduceLT, Nat.reduceLeDiff, Nat.reduceBNe, Int.reduceBEq, Int.reduceBNe, Int.reduceLT, Int.reduceLE, evG, evP, Nat.reduceMod, Nat.reduceDiv, Nat.reduceSub, Nat.reduceLeDiff, idxPrv, Option.isSome_some, Option.isSome_none, Option.getD_some]
  · rw [hO2, ho1]; simp (maxSteps := 4000000) only [go_sem, ↓reduceIte, reduceCtorEq, Nat.reduceEqDiff, Nat.reduceBEq, Nat.reduceAdd, Nat.reduceSub, Nat.reduceMul, Nat.reduceLT, Nat.reduceLeDiff, Nat.reduceBNe, Int.reduceBEq, Int.reduceBNe, Int.reduceLT, Int.reduceLE, evG, evP, Nat.reduceMod, Nat.reduceDiv, Nat.reduceSub, Nat.reduceLeDiff, idxPrv, Option.isSome_some, Option.isSome_none, Option.getD_some]
  · simp (maxSteps := 4000000) only [go_sem, ↓reduceIte, reduceCtorEq, Nat.reduceEqDiff, Nat.reduceBEq, Nat.reduceAdd, Nat.reduceSub, Nat.reduceMul, Nat.reduceLT, Nat.reduceLeDiff, Nat.reduceBNe, Int.reduceBEq, Int.reduceBNe, Int.reduceLT, Int.reduceLE, evG, evP, Nat.reduceMod, Nat.reduceDiv, Nat.reduceSub, Nat.reduceLeDiff, idxPrv, Option.isSome_some, Option.isSome_none, Option.getD_some]
  · intro s hs
    have h0 := hno s hs
    simp only [List.mem_cons, List.not_mem_nil, or_false] at hs
    rcases hs with rfl | rfl | rfl | rfl | rfl | rfl | rfl <;> (simp (maxSteps := 4000000) only [go_sem, ↓reduceIte, reduceCtorEq, Nat.reduceEqDiff, Nat.reduceBEq, Nat.reduceAdd, Nat.reduceSub, Nat.reduceMul, Nat.reduceLT, Nat.reduceLeDiff, Nat.reduceBNe, Int.reduceBEq, Int.reduceBNe, Int.reduceLT, Int.reduceLE, evG, evP, Nat.reduceMod, Nat.reduceDiv, Nat.reduceSub, Nat.reduceLeDiff, idxPrv, Option.isSome_some, Option.isSome_none, Option.getD_some, h0])
  · intro s
    have h0 := hrest s
    have g1 : ¬ s + 1001 = 19 := by omega
    have g2 : ¬ s + 1001 = 20 := by omega
    simp (maxSteps := 4000000) only [go_sem, ↓reduceIte, reduceCtorEq, Nat.reduceEqDiff, Nat.reduceBEq, Nat.reduceAdd, Nat.reduceSub, Nat.reduceMul, Nat.reduceLT, Nat.reduceLeDiff, Nat.reduceBNe, Int.reduceBEq, Int.reduceBNe, Int.reduceLT, Int.reduceLE, evG, evP, Nat.reduceMod, Nat.reduceDiv, Nat.reduceSub, Nat.reduceLeDiff, idxPrv, Option.isSome_some, Option.isSome_none, Option.getD_some, g1, g2, h0]
end
section
/-
  A gauge as a line, by the code: walked.
-/
open Go.RowKit
set_option linter.unusedVariables false
set_option linter.unusedSimpArgs false
set_option maxRecDepth 100000
attribute [local go_sem ↓] runOp headOp
/-! ### percolate/gauge.Line -/
def r_gLn_0 : List XOp := [(.op [1] ⟨(.box 9 37 (.t 0)), (some 1), none, [], []⟩), (.op [] ⟨(.mv (.c (.str ⟨#[]⟩))), (some 2), none, [], []⟩)]
def r_gLn_1 : List XOp := [(.op [3] ⟨(.alloc 1 29 (.cst (.slice none 0 0))), (some 3), none, [], []⟩)]
def r_gLn_2 : List XOp := [(.mkclo 8 23 (.t 3)), (.op [] ⟨(.mv (.t 8)), (some 4), none, [], []⟩)]
def r_gLn_3 : List XOp := [(.op [] ⟨(.mv (.t 4)), (some 9), none, [], []⟩), (.op [] ⟨(.faddr 0 (.t 1)), (some 10), none, [], []⟩), (.op [] ⟨(.load 1 false (.t 10)), (some 11), none, [], []⟩), (.op [12] ⟨(.bsl 1 3 [(.t 11)]), (some 12), none, [], []⟩), (.gcall 13 (.t 9) [(.c (.str ⟨#[110, 111, 100, 101, 115]⟩)), (.t 12)])]
def r_gLn_4 : List XOp := [(.op [] ⟨(.mv (.t 4)), (some 14), none, [], []⟩), (.op [] ⟨(.faddr 1 (.t 1)), (some 15), none, [], []⟩), (.op [] ⟨(.load 1 false (.t 15)), (some 16), none, [], []⟩), (.op [17] ⟨(.bsl 1 3 [(.t 16)]), (some 17), none, [], []⟩), (.gcall 18 (.t 14) [(.c (.str ⟨#[108, 101, 97, 118, 101, 115]⟩)), (.t 17)])]
def r_gLn_5 : List XOp := [(.op [] ⟨(.mv (.t 4)), (some 19), none, [], []⟩), (.op [] ⟨(.faddr 2 (.t 1)), (some 20), none, [], []⟩), (.op [] ⟨(.load 1 false (.t 20)), (some 21), none, [], []⟩), (.op [22] ⟨(.bsl 1 3 [(.t 21)]), (some 22), none, [], []⟩), (.gcall 23 (.t 19) [(.c (.str ⟨#[104, 101, 105, 103, 104, 116]⟩)), (.t 22)])]
def r_gLn_6 : List XOp := [(.op [] ⟨(.mv (.t 4)), (some 24), none, [], []⟩), (.op [] ⟨(.faddr 3 (.t 1)), (some 25), none, [], []⟩), (.op [] ⟨(.load 1 false (.t 25)), (some 26), none, [], []⟩), (.op [27] ⟨(.bsl 1 3 [(.t 26)]), (some 27), none, [], []⟩), (.gcall 28 (.t 24) [(.c (.str ⟨#[114, 111, 119, 115]⟩)), (.t 27)])]
def r_gLn_7 : List XOp := [(.op [] ⟨(.mv (.t 4)), (some 29), none, [], []⟩), (.op [] ⟨(.faddr 4 (.t 1)), (some 30), none, [], []⟩), (.op [] ⟨(.load 1 false (.t 30)), (some 31), none, [], []⟩), (.op [32] ⟨(.bsl 1 3 [(.t 31)]), (some 32), none, [], []⟩), (.gcall 33 (.t 29) [(.c (.str ⟨#[109, 115, 103, 115]⟩)), (.t 32)])]
def r_gLn_8 : List XOp := [(.op [] ⟨(.mv (.t 4)), (some 34), none, [], []⟩), (.op [] ⟨(.faddr 5 (.t 1)), (some 35), none, [], []⟩), (.op [] ⟨(.load 1 false (.t 35)), (some 36), none, [], []⟩), (.op [37] ⟨(.bsl 1 3 [(.t 36)]), (some 37), none, [], []⟩), (.gcall 38 (.t 34) [(.c (.str ⟨#[98, 121, 116, 101, 115]⟩)), (.t 37)])]
def r_gLn_9 : List XOp := [(.op [] ⟨(.mv (.t 4)), (some 39), none, [], []⟩), (.op [] ⟨(.faddr 6 (.t 1)), (some 40), none, [], []⟩), (.op [] ⟨(.load 1 false (.t 40)), (some 41), none, [], []⟩), (.op [42] ⟨(.bsl 1 3 [(.t 41)]), (some 42), none, [], []⟩), (.gcall 43 (.t 39) [(.c (.str ⟨#[101, 109, 112, 116, 121]⟩)), (.t 42)])]
def r_gLn_10 : List XOp := [(.op [] ⟨(.faddr 7 (.t 1)), (some 44), none, [], []⟩), (.op [] ⟨(.loadp 1 false (.t 44)), (some 45), none, [], []⟩), (.op [] ⟨(.len false (.t 45)), (some 46), none, [], []⟩), (.op [] ⟨(.mv (.c (.int .i64 0))), (some 47), none, [], []⟩)]
def r_gLn_11 : List XOp := [(.op [] ⟨(.bin .lss (.t 47) (.t 46)), (some 48), none, [], []⟩)]
def r_gLn_12 : List XOp := [(.op [] ⟨(.mv (.t 47)), (some 49), none, [], []⟩), (.op [] ⟨(.iaddr 1 (.t 45) (.t 47)), (some 50), none, [], []⟩), (.op [] ⟨(.load 1 false (.t 50)), (some 51), none, [], []⟩), (.op [] ⟨(.mv (.t 49)), (some 5), none, [], []⟩), (.op [] ⟨(.mv (.t 51)), (some 6), none, [], []⟩)]
def r_gLn_13 : List XOp := [(.op [] ⟨(.mv (.c (.int .i64 0))), (some 7), none, [], []⟩)]
def r_gLn_14 : List XOp := [(.op [] ⟨(.mv (.t 5)), (some 52), none, [], []⟩), (.op [] ⟨(.faddr 8 (.t 1)), (some 53), none, [], []⟩), (.op [] ⟨(.loadp 1 false (.t 53)), (some 54), none, [], []⟩), (.op [] ⟨(.len false (.t 54)), (some 55), none, [], []⟩), (.op [] ⟨(.bin .lss (.t 52) (.t 55)), (some 56), none, [], []⟩)]
def r_gLn_15 : List XOp := [(.op [] ⟨(.faddr 8 (.t 1)), (some 57), none, [], []⟩), (.op [] ⟨(.loadp 1 false (.t 57)), (some 58), none, [], []⟩), (.op [] ⟨(.mv (.t 5)), (some 59), none, [], []⟩), (.op [] ⟨(.iaddr 1 (.t 58) (.t 59)), (some 60), none, [], []⟩), (.op [] ⟨(.load 1 false (.t 60)), (some 61), none, [], []⟩), (.op [] ⟨(.mv (.t 61)), (some 7), none, [], []⟩)]
def r_gLn_16 : List XOp := [(.op [] ⟨(.mv (.t 4)), (some 62), none, [], []⟩), (.op [] ⟨(.mv (.t 6)), (some 63), none, [], []⟩), (.op [] ⟨(.mv (.t 7)), (some 64), none, [], []⟩), (.op [65] ⟨(.bsl 1 3 [(.t 63), (.t 64)]), (some 65), none, [], []⟩), (.gcall 66 (.t 62) [(.c (.str ⟨#[108, 101, 118, 101, 108]⟩)), (.t 65)])]
def r_gLn_17 : List XOp := [(.op [] ⟨(.bin .add (.t 47) (.c (.int .i64 1))), (some 67), none, [], []⟩), (.op [] ⟨(.mv (.t 67)), (some 47), none, [], []⟩)]
def r_gLn_l18 (P : Program) : IR := (.seq (.regx P r_gLn_11)
  (.seq (.cond (.t 48) .skip
  (.exit 0))
  (.seq (.block 1 (.seq (.regx P r_gLn_12)
  (.seq (.regx P r_gLn_13)
  (.seq (.seq (.regx P r_gLn_14)
  (.cond (.t 56) (.regx P r_gLn_15)
  .skip))
  (.regx P r_gLn_16)))))
  (.regx P r_gLn_17))))
def r_gLn_19 : List XOp := [(.op [] ⟨(.loadp 1 false (.t 3)), (some 68), none, [], []⟩), (.op [69] ⟨(.callv (.c (.clo 25 [] [])) [(.t 68), (.c (.str ⟨#[32]⟩))]), (some 69), none, [], []⟩), (.op [] ⟨(.mv (.t 69)), (some 2), none, [], []⟩)]
def ir_gLn (P : Program) : IR := (.seq (.regx P r_gLn_0)
  (.seq (.seq (.regx P r_gLn_1)
  (.gini [⟨3, 0, 524, 1, 9⟩]))
  (.seq (.regx P r_gLn_2)
  (.seq (.regx P r_gLn_3)
  (.seq (.regx P r_gLn_4)
  (.seq (.regx P r_gLn_5)
  (.seq (.regx P r_gLn_6)
  (.seq (.regx P r_gLn_7)
  (.seq (.regx P r_gLn_8)
  (.seq (.regx P r_gLn_9)
  (.seq (.seq (.regx P r_gLn_10)
  (.block 0 (.loop (r_gLn_l18 P))))
  (.seq (.regx P r_gLn_19)
  .ret))))))))))))
def res_gLn : List RDesc := [(.tmp 2)]
theorem fn_gLn {args : List AV} {r : AV} (ha : args.length.ble Tryd.f13.ntmps = true) (h : run (AFn Tryd.prog) (ir_gLn Tryd.prog) (endQ res_gLn r) (initSt args)) : AFn Tryd.prog 13 args r :=
  AFn.of_code (pv := true) (hint := fun _ => [2]) (c := Tryd.f13.body.getD .skip) (by kernel_rfl) (by kernel_rfl) Tryd.func13 (by kernel_rfl) (by kernel_rfl) (by kernel_rfl) (of_decide_eq_true (by kernel_rfl)) (Nat.le_of_ble_eq_true ha) (Nat.le_of_ble_eq_true (by kernel_rfl)) (run_ok h)
attribute [local go_sem ↓] ir_gLn
attribute [local go_sem] res_gLn r_gLn_0 r_gLn_1 r_gLn_2 r_gLn_3 r_gLn_4 r_gLn_5 r_gLn_6 r_gLn_7 r_gLn_8 r_gLn_9 r_gLn_10 r_gLn_11 r_gLn_12 r_gLn_13 r_gLn_14 r_gLn_15 r_gLn_16 r_gLn_17 r_gLn_19
def gauC (g : Gau) : List AV := [.int .i64 g.nodes, .int .i64 g.leaves, .int .i64 g.height, .int .i64 g.rows, .int .i64 g.msgs, .int .i64 g.bytes, .int .i64 g.empty, .sl (g.levels.map (AV.int .i64)), .sl (g.waits.map (AV.int .i64))]
/-- the line's state: its words so far -/
structure LnF (g : Gau) (l : List ByteArray) (σ : St) : Prop where
  t1 : σ.T 1 = .ptr 1 0 0
  h1 : σ.H 1 = some ⟨9, 37, [.agg (gauC g)], 0⟩
  t4 : σ.T 4 = .clom 23 3
  t3 : σ.T 3 = .ptr 3 0 0
  p : ∃ u : Value, u.oneCell' = true ∧ σ.T 1300 = .vrs 524 0 l.length u ∧ σ.H 524 = some ⟨1, 9, l.map AV.str, 0⟩ ∧ σ.H 3 = some ⟨1, 29, [.cst u], 0⟩
  no : ∀ s, s ∈ [525, 526, 527, 528, 529, 530, 531] → σ.H s = none
theorem ptsIn {T : Nat → AV} {H : Nat → Option Arr} {l : List ByteArray} {u : Value} (h1 : H 3 = some ⟨1, 29, [.cst u], 0⟩) (h2 : T 1300 = .vrs 524 0 l.length u) (h3 : H 524 = some ⟨1, 9, l.map AV.str, 0⟩) (h4 : ∀ s, s ∈ [525, 526, 527, 528, 529, 530, 531] → H s = none) : gsIn T H 3 (ptsS l u) := by
  refine ⟨h1, fun p hp => ?_, fun i hi => ?_⟩
  · rw [List.mem_singleton.1 hp]
    exact ⟨by show 0 < 100; omega, h2⟩
  · simp only [List.mem_cons, List.not_mem_nil, or_false] at hi
    rcases hi with rfl | rfl | rfl | rfl | rfl | rfl | rfl | rfl
    · exact h3
    · exact h4 525 (by simp)
    · exact h4 526 (by simp)
    · exact h4 527 (by simp)
    · exact h4 528 (by simp)
    · exact h4 529 (by simp)
    · exact h4 530 (by simp)
    · exact h4 531 (by simp)
def w_nodes : ByteArray := ⟨#[110, 111, 100, 101, 115]⟩
theorem gl_nodes {g : Gau} {l : List ByteArray} (hl : l.length ≤ 1000) (hi : inI g.nodes) (Q : XK → St → Prop) (σ : St) (h : LnF g l σ) (hQ : ∀ σ', LnF g (l ++ [w_nodes, decS g.nodes]) σ' → Q .normal σ') : run (AFn Tryd.prog) (.regx Tryd.prog r_gLn_3) Q σ := by
  obtain ⟨t1, h1, t4, t3, ⟨u, hu, p1, p2, p3⟩, no⟩ := h
  unfold gauC at h1
  have hc := addG_ok w_nodes [g.nodes] l u hu (by omega) (by simp) (fun x hx => by rw [List.mem_singleton.1 hx]; exact hi)
  unfold w_nodes at hc
  simp only [List.map_cons, List.map_nil] at hc
  have hno := fun s hs => no s hs
  simp (maxSteps := 4000000) only [go_sem, ↓reduceIte, reduceCtorEq, Nat.reduceEqDiff, Nat.reduceBEq, Nat.reduceAdd, Nat.reduceSub, Nat.reduceMul, Nat.reduceLT, Nat.reduceLeDiff, Nat.reduceBNe, Int.reduceBEq, Int.reduceBNe, Int.reduceLT, Int.reduceLE, evG, evP, Nat.reduceMod, Nat.reduceDiv, Nat.reduceSub, Nat.reduceLeDiff, Nat.reduceMul, Nat.reduceAdd, idxPrv, Option.isSome_some, Option.isSome_none, Option.getD_some, t1, h1, t4, List.map_cons, List.map_nil]
  refine ⟨.inl trivial, ?_⟩
  refine gcalling hc (ptsIn (u := u) ?_ ?_ ?_ ?_) ?_
  · simp (maxSteps := 4000000) only [go_sem, ↓reduceIte, reduceCtorEq, Nat.reduceEqDiff, Nat.reduceBEq, Nat.reduceAdd, Nat.reduceSub, Nat.reduceMul, Nat.reduceLT, Nat.reduceLeDiff, Nat.reduceBNe, Int.reduceBEq, Int.reduceBNe, Int.reduceLT, Int.reduceLE, evG, evP, Nat.reduceMod, Nat.reduceDiv, Nat.reduceSub, Nat.reduceLeDiff, Nat.reduceMul, Nat.reduceAdd, idxPrv, Option.isSome_some, Option.isSome_none, Option.getD_some, p3]
  · simp (maxSteps := 4000000) only [go_sem, ↓reduceIte, reduceCtorEq, Nat.reduceEqDiff, Nat.reduceBEq, Nat.reduceAdd, Nat.reduceSub, Nat.reduceMul, Nat.reduceLT, Nat.reduceLeDiff, Nat.reduceBNe, Int.reduceBEq, Int.reduceBNe, Int.reduceLT, Int.reduceLE, evG, evP, Nat.reduceMod, Nat.reduceDiv, Nat.reduceSub, Nat.reduceLeDiff, Nat.reduceMul, Nat.reduceAdd, idxPrv, Option.isSome_some, Option.isSome_none, Option.getD_some, p1]
  · simp (maxSteps := 4000000) only [go_sem, ↓reduceIte, reduceCtorEq, Nat.reduceEqDiff, Nat.reduceBEq, Nat.reduceAdd, Nat.reduceSub, Nat.reduceMul, Nat.reduceLT, Nat.reduceLeDiff, Nat.reduceBNe, Int.reduceBEq, Int.reduceBNe, Int.reduceLT, Int.reduceLE, evG, evP, Nat.reduceMod, Nat.reduceDiv, Nat.reduceSub, Nat.reduceLeDiff, Nat.reduceMul, Nat.reduceAdd, idxPrv, Option.isSome_some, Option.isSome_none, Option.getD_some, p2]
  · intro s hs
    have h0 := hno s hs
    simp only [List.mem_cons, List.not_mem_nil, or_false] at hs
    rcases hs with rfl | rfl | rfl | rfl | rfl | rfl | rfl <;> (simp (maxSteps := 4000000) only [go_sem, ↓reduceIte, reduceCtorEq, Nat.reduceEqDiff, Nat.reduceBEq, Nat.reduceAdd, Nat.reduceSub, Nat.reduceMul, Nat.reduceLT, Nat.reduceLeDiff, Nat.reduceBNe, Int.reduceBEq, Int.reduceBNe, Int.reduceLT, Int.reduceLE, evG, evP, Nat.reduceMod, Nat.reduceDiv, Nat.reduceSub, Nat.reduceLeDiff, Nat.reduceMul, Nat.reduceAdd, idxPrv, Option.isSome_some, Option.isSome_none, Option.getD_some, h0])
  rintro S' ⟨u2, hu2, rfl⟩
  unfold ptsS
  simp (maxSteps := 4000000) only [go_sem, ↓reduceIte, reduceCtorEq, Nat.reduceEqDiff, Nat.reduceBEq, Nat.reduceAdd, Nat.reduceSub, Nat.reduceMul, Nat.reduceLT, Nat.reduceLeDiff, Nat.reduceBNe, Int.reduceBEq, Int.reduceBNe, Int.reduceLT, Int.reduceLE, evG, evP, Nat.reduceMod, Nat.reduceDiv, Nat.reduceSub, Nat.reduceLeDiff, Nat.reduceMul, Nat.reduceAdd, idxPrv, Option.isSome_some, Option.isSome_none, Option.getD_some]
  refine hQ _ ⟨?_, ?_, ?_, ?_, ⟨u2, hu2, ?_, ?_, ?_⟩, ?_⟩
  · simp (maxSteps := 4000000) only [go_sem, ↓reduceIte, reduceCtorEq, Nat.reduceEqDiff, Nat.reduceBEq, Nat.reduceAdd, Nat.reduceSub, Nat.reduceMul, Nat.reduceLT, Nat.reduceLeDiff, Nat.reduceBNe, Int.reduceBEq, Int.reduceBNe, Int.reduceLT, Int.reduceLE, evG, evP, Nat.reduceMod, Nat.reduceDiv, Nat.reduceSub, Nat.reduceLeDiff, Nat.reduceMul, Nat.reduceAdd, idxPrv, Option.isSome_some, Option.isSome_none, Option.getD_some, t1]
  · (simp (maxSteps := 4000000) only [go_sem, ↓reduceIte, reduceCtorEq, Nat.reduceEqDiff, Nat.reduceBEq, Nat.reduceAdd, Nat.reduceSub, Nat.reduceMul, Nat.reduceLT, Nat.reduceLeDiff, Nat.reduceBNe, Int.reduceBEq, Int.reduceBNe, Int.reduceLT, Int.reduceLE, evG, evP, Nat.reduceMod, Nat.reduceDiv, Nat.reduceSub, Nat.reduceLeDiff, Nat.reduceMul, Nat.reduceAdd, idxPrv, Option.isSome_some, Option.isSome_none, Option.getD_some, h1]) <;> rfl
  · simp (maxSteps := 4000000) only [go_sem, ↓reduceIte, reduceCtorEq, Nat.reduceEqDiff, Nat.reduceBEq, Nat.reduceAdd, Nat.reduceSub, Nat.reduceMul, Nat.reduceLT, Nat.reduceLeDiff, Nat.reduceBNe, Int.reduceBEq, Int.reduceBNe, Int.reduceLT, Int.reduceLE, evG, evP, Nat.reduceMod, Nat.reduceDiv, Nat.reduceSub, Nat.reduceLeDiff, Nat.reduceMul, Nat.reduceAdd, idxPrv, Option.isSome_some, Option.isSome_none, Option.getD_some, t4]
  · simp (maxSteps := 4000000) only [go_sem, ↓reduceIte, reduceCtorEq, Nat.reduceEqDiff, Nat.reduceBEq, Nat.reduceAdd, Nat.reduceSub, Nat.reduceMul, Nat.reduceLT, Nat.reduceLeDiff, Nat.reduceBNe, Int.reduceBEq, Int.reduceBNe, Int.reduceLT, Int.reduceLE, evG, evP, Nat.reduceMod, Nat.reduceDiv, Nat.reduceSub, Nat.reduceLeDiff, Nat.reduceMul, Nat.reduceAdd, idxPrv, Option.isSome_some, Option.isSome_none, Option.getD_some, t3]
  · (simp (maxSteps := 4000000) only [go_sem, ↓reduceIte, reduceCtorEq, Nat.reduceEqDiff, Nat.reduceBEq, Nat.reduceAdd, Nat.reduceSub, Nat.reduceMul, Nat.reduceLT, Nat.reduceLeDiff, Nat.reduceBNe, Int.reduceBEq, Int.reduceBNe, Int.reduceLT, Int.reduceLE, evG, evP, Nat.reduceMod, Nat.reduceDiv, Nat.reduceSub, Nat.reduceLeDiff, Nat.reduceMul, Nat.reduceAdd, idxPrv, Option.isSome_some, Option.isSome_none, Option.getD_some]) <;> rfl
  · (simp (maxSteps := 4000000) only [go_sem, ↓reduceIte, reduceCtorEq, Nat.reduceEqDiff, Nat.reduceBEq, Nat.reduceAdd, Nat.reduceSub, Nat.reduceMul, Nat.reduceLT, Nat.reduceLeDiff, Nat.reduceBNe, Int.reduceBEq, Int.reduceBNe, Int.reduceLT, Int.reduceLE, evG, evP, Nat.reduceMod, Nat.reduceDiv, Nat.reduceSub, Nat.reduceLeDiff, Nat.reduceMul, Nat.reduceAdd, idxPrv, Option.isSome_some, Option.isSome_none, Option.getD_some]) <;> rfl
  · (simp (maxSteps := 4000000) only [go_sem, ↓reduceIte, reduceCtorEq, Nat.reduceEqDiff, Nat.reduceBEq, Nat.reduceAdd, Nat.reduceSub, Nat.reduceMul, Nat.reduceLT, Nat.reduceLeDiff, Nat.reduceBNe, Int.reduceBEq, Int.reduceBNe, Int.reduceLT, Int.reduceLE, evG, evP, Nat.reduceMod, Nat.reduceDiv, Nat.reduceSub, Nat.reduceLeDiff, Nat.reduceMul, Nat.reduceAdd, idxPrv, Option.isSome_some, Option.isSome_none, Option.getD_some]) <;> rfl
  · intro s hs
    simp only [List.mem_cons, List.not_mem_nil, or_false] at hs
    rcases hs with rfl | rfl | rfl | rfl | rfl | rfl | rfl <;> (simp (maxSteps := 4000000) only [go_sem, ↓reduceIte, reduceCtorEq, Nat.reduceEqDiff, Nat.reduceBEq, Nat.reduceAdd, Nat.reduceSub, Nat.reduceMul, Nat.reduceLT, Nat.reduceLeDiff, Nat.reduceBNe, Int.reduceBEq, Int.reduceBNe, Int.reduceLT, Int.reduceLE, evG, evP, Nat.reduceMod, Nat.reduceDiv, Nat.reduceSub, Nat.reduceLeDiff, Nat.reduceMul, Nat.reduceAdd, idxPrv, Option.isSome_some, Option.isSome_none, Option.getD_some])
def w_leaves : ByteArray := ⟨#[108, 101, 97, 118, 101, 115]⟩
theorem gl_leaves {g : Gau} {l : List ByteArray} (hl : l.length ≤ 1000) (hi : inI g.leaves) (Q : XK → St → Prop) (σ : St) (h : LnF g l σ) (hQ : ∀ σ', LnF g (l ++ [w_leaves, decS g.leaves]) σ' → Q .normal σ') : run (AFn Tryd.prog) (.regx Tryd.prog r_gLn_4) Q σ := by
  obtain ⟨t1, h1, t4, t3, ⟨u, hu, p1, p2, p3⟩, no⟩ := h
  unfold gauC at h1
  have hc := addG_ok w_leaves [g.leaves] l u hu (by omega) (by simp) (fun x hx => by rw [List.mem_singleton.1 hx]; exact hi)
  unfold w_leaves at hc
  simp only [List.map_cons, List.map_nil] at hc
  have hno := fun s hs => no s hs
  simp (maxSteps := 4000000) only [go_sem, ↓reduceIte, reduceCtorEq, Nat.reduceEqDiff, Nat.reduceBEq, Nat.reduceAdd, Nat.reduceSub, Nat.reduceMul, Nat.reduceLT, Nat.reduceLeDiff, Nat.reduceBNe, Int.reduceBEq, Int.reduceBNe, Int.reduceLT, Int.reduceLE, evG, evP, Nat.reduceMod, Nat.reduceDiv, Nat.reduceSub, Nat.reduceLeDiff, Nat.reduceMul, Nat.reduceAdd, idxPrv, Option.isSome_some, Option.isSome_none, Option.getD_some, t1, h1, t4, List.map_cons, List.map_nil]
  refine ⟨.inl trivial, ?_⟩
  refine gcalling hc (ptsIn (u := u) ?_ ?_ ?_ ?_) ?_
  · simp (maxSteps := 4000000) only [go_sem, ↓reduceIte, reduceCtorEq, Nat.reduceEqDiff, Nat.reduceBEq, Nat.reduceAdd, Nat.reduceSub, Nat.reduceMul, Nat.reduceLT, Nat.reduceLeDiff, Nat.reduceBNe, Int.reduceBEq, Int.reduceBNe, Int.reduceLT, Int.reduceLE, evG, evP, Nat.reduceMod, Nat.reduceDiv, Nat.reduceSub, Nat.reduceLeDiff, Nat.reduceMul, Nat.reduceAdd, idxPrv, Option.isSome_some, Option.isSome_none, Option.getD_some, p3]
  · simp (maxSteps := 4000000) only [go_sem, ↓reduceIte, reduceCtorEq, Nat.reduceEqDiff, Nat.reduceBEq, Nat.reduceAdd, Nat.reduceSub, Nat.reduceMul, Nat.reduceLT, Nat.reduceLeDiff, Nat.reduceBNe, Int.reduceBEq, Int.reduceBNe, Int.reduceLT, Int.reduceLE, evG, evP, Nat.reduceMod, Nat.reduceDiv, Nat.reduceSub, Nat.reduceLeDiff, Nat.reduceMul, Nat.reduceAdd, idxPrv, Option.isSome_some, Option.isSome_none, Option.getD_some, p1]
  · simp (maxSteps := 4000000) only [go_sem, ↓reduceIte, reduceCtorEq, Nat.reduceEqDiff, Nat.reduceBEq, Nat.reduceAdd, Nat.reduceSub, Nat.reduceMul, Nat.reduceLT, Nat.reduceLeDiff, Nat.reduceBNe, Int.reduceBEq, Int.reduceBNe, Int.reduceLT, Int.reduceLE, evG, evP, Nat.reduceMod, Nat.reduceDiv, Nat.reduceSub, Nat.reduceLeDiff, Nat.reduceMul, Nat.reduceAdd, idxPrv, Option.isSome_some, Option.isSome_none, Option.getD_some, p2]
  · intro s hs
    have h0 := hno s hs
    simp only [List.mem_cons, List.not_mem_nil, or_false] at hs
    rcases hs with rfl | rfl | rfl | rfl | rfl | rfl | rfl <;> (simp (maxSteps := 4000000) only [go_sem, ↓reduceIte, reduceCtorEq, Nat.reduceEqDiff, Nat.reduceBEq, Nat.reduceAdd, Nat.reduceSub, Nat.reduceMul, Nat.reduceLT, Nat.reduceLeDiff, Nat.reduceBNe, Int.reduceBEq, Int.reduceBNe, Int.reduceLT, Int.reduceLE, evG, evP, Nat.reduceMod, Nat.reduceDiv, Nat.reduceSub, Nat.reduceLeDiff, Nat.reduceMul, Nat.reduceAdd, idxPrv, Option.isSome_some, Option.isSome_none, Option.getD_some, h0])
  rintro S' ⟨u2, hu2, rfl⟩
  unfold ptsS
  simp (maxSteps := 4000000) only [go_sem, ↓reduceIte, reduceCtorEq, Nat.reduceEqDiff, Nat.reduceBEq, Nat.reduceAdd, Nat.reduceSub, Nat.reduceMul, Nat.reduceLT, Nat.reduceLeDiff, Nat.reduceBNe, Int.reduceBEq, Int.reduceBNe, Int.reduceLT, Int.reduceLE, evG, evP, Nat.reduceMod, Nat.reduceDiv, Nat.reduceSub, Nat.reduceLeDiff, Nat.reduceMul, Nat.reduceAdd, idxPrv, Option.isSome_some, Option.isSome_none, Option.getD_some]
  refine hQ _ ⟨?_, ?_, ?_, ?_, ⟨u2, hu2, ?_, ?_, ?_⟩, ?_⟩
  · simp (maxSteps := 4000000) only [go_sem, ↓reduceIte, reduceCtorEq, Nat.reduceEqDiff, Nat.reduceBEq, Nat.reduceAdd, Nat.reduceSub, Nat.reduceMul, Nat.reduceLT, Nat.reduceLeDiff, Nat.reduceBNe, Int.reduceBEq, Int.reduceBNe, Int.reduceLT, Int.reduceLE, evG, evP, Nat.reduceMod, Nat.reduceDiv, Nat.reduceSub, Nat.reduceLeDiff, Nat.reduceMul, Nat.reduceAdd, idxPrv, Option.isSome_some, Option.isSome_none, Option.getD_some, t1]
  · (simp (maxSteps := 4000000) only [go_sem, ↓reduceIte, reduceCtorEq, Nat.reduceEqDiff, Nat.reduceBEq, Nat.reduceAdd, Nat.reduceSub, Nat.reduceMul, Nat.reduceLT, Nat.reduceLeDiff, Nat.reduceBNe, Int.reduceBEq, Int.reduceBNe, Int.reduceLT, Int.reduceLE, evG, evP, Nat.reduceMod, Nat.reduceDiv, Nat.reduceSub, Nat.reduceLeDiff, Nat.reduceMul, Nat.reduceAdd, idxPrv, Option.isSome_some, Option.isSome_none, Option.getD_some, h1]) <;> rfl
  · simp (maxSteps := 4000000) only [go_sem, ↓reduceIte, reduceCtorEq, Nat.reduceEqDiff, Nat.reduceBEq, Nat.reduceAdd, Nat.reduceSub, Nat.reduceMul, Nat.reduceLT, Nat.reduceLeDiff, Nat.reduceBNe, Int.reduceBEq, Int.reduceBNe, Int.reduceLT, Int.reduceLE, evG, evP, Nat.reduceMod, Nat.reduceDiv, Nat.reduceSub, Nat.reduceLeDiff, Nat.reduceMul, Nat.reduceAdd, idxPrv, Option.isSome_some, Option.isSome_none, Option.getD_some, t4]
  · simp (maxSteps := 4000000) only [go_sem, ↓reduceIte, reduceCtorEq, Nat.reduceEqDiff, Nat.reduceBEq, Nat.reduceAdd, Nat.reduceSub, Nat.reduceMul, Nat.reduceLT, Nat.reduceLeDiff, Nat.reduceBNe, Int.reduceBEq, Int.reduceBNe, Int.reduceLT, Int.reduceLE, evG, evP, Nat.reduceMod, Nat.reduceDiv, Nat.reduceSub, Nat.reduceLeDiff, Nat.reduceMul, Nat.reduceAdd, idxPrv, Option.isSome_some, Option.isSome_none, Option.getD_some, t3]
  · (simp (maxSteps := 4000000) only [go_sem, ↓reduceIte, reduceCtorEq, Nat.reduceEqDiff, Nat.reduceBEq, Nat.reduceAdd, Nat.reduceSub, Nat.reduceMul, Nat.reduceLT, Nat.reduceLeDiff, Nat.reduceBNe, Int.reduceBEq, Int.reduceBNe, Int.reduceLT, Int.reduceLE, evG, evP, Nat.reduceMod, Nat.reduceDiv, Nat.reduceSub, Nat.reduceLeDiff, Nat.reduceMul, Nat.reduceAdd, idxPrv, Option.isSome_some, Option.isSome_none, Option.getD_some]) <;> rfl
  · (simp (maxSteps := 4000000) only [go_sem, ↓reduceIte, reduceCtorEq, Nat.reduceEqDiff, Nat.reduceBEq, Nat.reduceAdd, Nat.reduceSub, Nat.reduceMul, Nat.reduceLT, Nat.reduceLeDiff, Nat.reduceBNe, Int.reduceBEq, Int.reduceBNe, Int.reduceLT, Int.reduceLE, evG, evP, Nat.reduceMod, Nat.reduceDiv, Nat.reduceSub, Nat.reduceLeDiff, Nat.reduceMul, Nat.reduceAdd, idxPrv, Option.isSome_some, Option.isSome_none, Option.getD_some]) <;> rfl
  · (simp (maxSteps := 4000000) only [go_sem, ↓reduceIte, reduceCtorEq, Nat.reduceEqDiff, Nat.reduceBEq, Nat.reduceAdd, Nat.reduceSub, Nat.reduceMul, Nat.reduceLT, Nat.reduceLeDiff, Nat.reduceBNe, Int.reduceBEq, Int.reduceBNe, Int.reduceLT, Int.reduceLE, evG, evP, Nat.reduceMod, Nat.reduceDiv, Nat.reduceSub, Nat.reduceLeDiff, Nat.reduceMul, Nat.reduceAdd, idxPrv, Option.isSome_some, Option.isSome_none, Option.getD_some]) <;> rfl
  · intro s hs
    simp only [List.mem_cons, List.not_mem_nil, or_false] at hs
    rcases hs with rfl | rfl | rfl | rfl | rfl | rfl | rfl <;> (simp (maxSteps := 4000000) only [go_sem, ↓reduceIte, reduceCtorEq, Nat.reduceEqDiff, Nat.reduceBEq, Nat.reduceAdd, Nat.reduceSub, Nat.reduceMul, Nat.reduceLT, Nat.reduceLeDiff, Nat.reduceBNe, Int.reduceBEq, Int.reduceBNe, Int.reduceLT, Int.reduceLE, evG, evP, Nat.reduceMod, Nat.reduceDiv, Nat.reduceSub, Nat.reduceLeDiff, Nat.reduceMul, Nat.reduceAdd, idxPrv, Option.isSome_some, Option.isSome_none, Option.getD_some])
def w_height : ByteArray := ⟨#[104, 101, 105, 103, 104, 116]⟩
theorem gl_height {g : Gau} {l : List ByteArray} (hl : l.length ≤ 1000) (hi : inI g.height) (Q : XK → St → Prop) (σ : St) (h : LnF g l σ) (hQ : ∀ σ', LnF g (l ++ [w_height, decS g.height]) σ' → Q .normal σ') : run (AFn Tryd.prog) (.regx Tryd.prog r_gLn_5) Q σ := by
  obtain ⟨t1, h1, t4, t3, ⟨u, hu, p1, p2, p3⟩, no⟩ := h
  unfold gauC at h1
  have hc := addG_ok w_height [g.height] l u hu (by omega) (by simp) (fun x hx => by rw [List.mem_singleton.1 hx]; exact hi)
  unfold w_height at hc
  simp only [List.map_cons, List.map_nil] at hc
  have hno := fun s hs => no s hs
  simp (maxSteps := 4000000) only [go_sem, ↓reduceIte, reduceCtorEq, Nat.reduceEqDiff, Nat.reduceBEq, Nat.reduceAdd, Nat.reduceSub, Nat.reduceMul, Nat.reduceLT, Nat.reduceLeDiff, Nat.reduceBNe, Int.reduceBEq, Int.reduceBNe, Int.reduceLT, Int.reduceLE, evG, evP, Nat.reduceMod, Nat.reduceDiv, Nat.reduceSub, Nat.reduceLeDiff, Nat.reduceMul, Nat.reduceAdd, idxPrv, Option.isSome_some, Option.isSome_none, Option.getD_some, t1, h1, t4, List.map_cons, List.map_nil]
  refine ⟨.inl trivial, ?_⟩
  refine gcalling hc (ptsIn (u := u) ?_ ?_ ?_ ?_) ?_
  · simp (maxSteps := 4000000) only [go_sem, ↓reduceIte, reduceCtorEq, Nat.reduceEqDiff, Nat.reduceBEq, Nat.reduceAdd, Nat.reduceSub, Nat.reduceMul, Nat.reduceLT, Nat.reduceLeDiff, Nat.reduceBNe, Int.reduceBEq, Int.reduceBNe, Int.reduceLT, Int.reduceLE, evG, evP, Nat.reduceMod, Nat.reduceDiv, Nat.reduceSub, Nat.reduceLeDiff, Nat.reduceMul, Nat.reduceAdd, idxPrv, Option.isSome_some, Option.isSome_none, Option.getD_some, p3]
  · simp (maxSteps := 4000000) only [go_sem, ↓reduceIte, reduceCtorEq, Nat.reduceEqDiff, Nat.reduceBEq, Nat.reduceAdd, Nat.reduceSub, Nat.reduceMul, Nat.reduceLT, Nat.reduceLeDiff, Nat.reduceBNe, Int.reduceBEq, Int.reduceBNe, Int.reduceLT, Int.reduceLE, evG, evP, Nat.reduceMod, Nat.reduceDiv, Nat.reduceSub, Nat.reduceLeDiff, Nat.reduceMul, Nat.reduceAdd, idxPrv, Option.isSome_some, Option.isSome_none, Option.getD_some, p1]
  · simp (maxSteps := 4000000) only [go_sem, ↓reduceIte, reduceCtorEq, Nat.reduceEqDiff, Nat.reduceBEq, Nat.reduceAdd, Nat.reduceSub, Nat.reduceMul, Nat.reduceLT, Nat.reduceLeDiff, Nat.reduceBNe, Int.reduceBEq, Int.reduceBNe, Int.reduceLT, Int.reduceLE, evG, evP, Nat.reduceMod, Nat.reduceDiv, Nat.reduceSub, Nat.reduceLeDiff, Nat.reduceMul, Nat.reduceAdd, idxPrv, Option.isSome_some, Option.isSome_none, Option.getD_some, p2]
  · intro s hs
    have h0 := hno s hs
    simp only [List.mem_cons, List.not_mem_nil, or_false] at hs
    rcases hs with rfl | rfl | rfl | rfl | rfl | rfl | rfl <;> (simp (maxSteps := 4000000) only [go_sem, ↓reduceIte, reduceCtorEq, Nat.reduceEqDiff, Nat.reduceBEq, Nat.reduceAdd, Nat.reduceSub, Nat.reduceMul, Nat.reduceLT, Nat.reduceLeDiff, Nat.reduceBNe, Int.reduceBEq, Int.reduceBNe, Int.reduceLT, Int.reduceLE, evG, evP, Nat.reduceMod, Nat.reduceDiv, Nat.reduceSub, Nat.reduceLeDiff, Nat.reduceMul, Nat.reduceAdd, idxPrv, Option.isSome_some, Option.isSome_none, Option.getD_some, h0])
  rintro S' ⟨u2, hu2, rfl⟩
  unfold ptsS
  simp (maxSteps := 4000000) only [go_sem, ↓reduceIte, reduceCtorEq, Nat.reduceEqDiff, Nat.reduceBEq, Nat.reduceAdd, Nat.reduceSub, Nat.reduceMul, Nat.reduceLT, Nat.reduceLeDiff, Nat.reduceBNe, Int.reduceBEq, Int.reduceBNe, Int.reduceLT, Int.reduceLE, evG, evP, Nat.reduceMod, Nat.reduceDiv, Nat.reduceSub, Nat.reduceLeDiff, Nat.reduceMul, Nat.reduceAdd, idxPrv, Option.isSome_some, Option.isSome_none, Option.getD_some]
  refine hQ _ ⟨?_, ?_, ?_, ?_, ⟨u2, hu2, ?_, ?_, ?_⟩, ?_⟩
  · simp (maxSteps := 4000000) only [go_sem, ↓reduceIte, reduceCtorEq, Nat.reduceEqDiff, Nat.reduceBEq, Nat.reduceAdd, Nat.reduceSub, Nat.reduceMul, Nat.reduceLT, Nat.reduceLeDiff, Nat.reduceBNe, Int.reduceBEq, Int.reduceBNe, Int.reduceLT, Int.reduceLE, evG, evP, Nat.reduceMod, Nat.reduceDiv, Nat.reduceSub, Nat.reduceLeDiff, Nat.reduceMul, Nat.reduceAdd, idxPrv, Option.isSome_some, Option.isSome_none, Option.getD_some, t1]
  · (simp (maxSteps := 4000000) only [go_sem, ↓reduceIte, reduceCtorEq, Nat.reduceEqDiff, Nat.reduceBEq, Nat.reduceAdd, Nat.reduceSub, Nat.reduceMul, Nat.reduceLT, Nat.reduceLeDiff, Nat.reduceBNe, Int.reduceBEq, Int.reduceBNe, Int.reduceLT, Int.reduceLE, evG, evP, Nat.reduceMod, Nat.reduceDiv, Nat.reduceSub, Nat.reduceLeDiff, Nat.reduceMul, Nat.reduceAdd, idxPrv, Option.isSome_some, Option.isSome_none, Option.getD_some, h1]) <;> rfl
  · simp (maxSteps := 4000000) only [go_sem, ↓reduceIte, reduceCtorEq, Nat.reduceEqDiff, Nat.reduceBEq, Nat.reduceAdd, Nat.reduceSub, Nat.reduceMul, Nat.reduceLT, Nat.reduceLeDiff, Nat.reduceBNe, Int.reduceBEq, Int.reduceBNe, Int.reduceLT, Int.reduceLE, evG, evP, Nat.reduceMod, Nat.reduceDiv, Nat.reduceSub, Nat.reduceLeDiff, Nat.reduceMul, Nat.reduceAdd, idxPrv, Option.isSome_some, Option.isSome_none, Option.getD_some, t4]
  · simp (maxSteps := 4000000) only [go_sem, ↓reduceIte, reduceCtorEq, Nat.reduceEqDiff, Nat.reduceBEq, Nat.reduceAdd, Nat.reduceSub, Nat.reduceMul, Nat.reduceLT, Nat.reduceLeDiff, Nat.reduceBNe, Int.reduceBEq, Int.reduceBNe, Int.reduceLT, Int.reduceLE, evG, evP, Nat.reduceMod, Nat.reduceDiv, Nat.reduceSub, Nat.reduceLeDiff, Nat.reduceMul, Nat.reduceAdd, idxPrv, Option.isSome_some, Option.isSome_none, Option.getD_some, t3]
  · (simp (maxSteps := 4000000) only [go_sem, ↓reduceIte, reduceCtorEq, Nat.reduceEqDiff, Nat.reduceBEq, Nat.reduceAdd, Nat.reduceSub, Nat.reduceMul, Nat.reduceLT, Nat.reduceLeDiff, Nat.reduceBNe, Int.reduceBEq, Int.reduceBNe, Int.reduceLT, Int.reduceLE, evG, evP, Nat.reduceMod, Nat.reduceDiv, Nat.reduceSub, Nat.reduceLeDiff, Nat.reduceMul, Nat.reduceAdd, idxPrv, Option.isSome_some, Option.isSome_none, Option.getD_some]) <;> rfl
  · (simp (maxSteps := 4000000) only [go_sem, ↓reduceIte, reduceCtorEq, Nat.reduceEqDiff, Nat.reduceBEq, Nat.reduceAdd, Nat.reduceSub, Nat.reduceMul, Nat.reduceLT, Nat.reduceLeDiff, Nat.reduceBNe, Int.reduceBEq, Int.reduceBNe, Int.reduceLT, Int.reduceLE, evG, evP, Nat.reduceMod, Nat.reduceDiv, Nat.reduceSub, Nat.reduceLeDiff, Nat.reduceMul, Nat.reduceAdd, idxPrv, Option.isSome_some, Option.isSome_none, Option.getD_some]) <;> rfl
  · (simp (maxSteps := 4000000) only [go_sem, ↓reduceIte, reduceCtorEq, Nat.reduceEqDiff, Nat.reduceBEq, Nat.reduceAdd, Nat.reduceSub, Nat.reduceMul, Nat.reduceLT, Nat.reduceLeDiff, Nat.reduceBNe, Int.reduceBEq, Int.reduceBNe, Int.reduceLT, Int.reduceLE, evG, evP, Nat.reduceMod, Nat.reduceDiv, Nat.reduceSub, Nat.reduceLeDiff, Nat.reduceMul, Nat.reduceAdd, idxPrv, Option.isSome_some, Option.isSome_none, Option.getD_some]) <;> rfl
  · intro s hs
    simp only [List.mem_cons, List.not_mem_nil, or_false] at hs
    rcases hs with rfl | rfl | rfl | rfl | rfl | rfl | rfl <;> (simp (maxSteps := 4000000) only [go_sem, ↓reduceIte, reduceCtorEq, Nat.reduceEqDiff, Nat.reduceBEq, Nat.reduceAdd, Nat.reduceSub, Nat.reduceMul, Nat.reduceLT, Nat.reduceLeDiff, Nat.reduceBNe, Int.reduceBEq, Int.reduceBNe, Int.reduceLT, Int.reduceLE, evG, evP, Nat.reduceMod, Nat.reduceDiv, Nat.reduceSub, Nat.reduceLeDiff, Nat.reduceMul, Nat.reduceAdd, idxPrv, Option.isSome_some, Option.isSome_none, Option.getD_some])
def w_rows : ByteArray := ⟨#[114, 111, 119, 115]⟩
theorem gl_rows {g : Gau} {l : List ByteArray} (hl : l.length ≤ 1000) (hi : inI g.rows) (Q : XK → St → Prop) (σ : St) (h : LnF g l σ) (hQ : ∀ σ', LnF g (l ++ [w_rows, decS g.rows]) σ' → Q .normal σ') : run (AFn Tryd.prog) (.regx Tryd.prog r_gLn_6) Q σ := by
  obtain ⟨t1, h1, t4, t3, ⟨u, hu, p1, p2, p3⟩, no⟩ := h
  unfold gauC at h1
  have hc := addG_ok w_rows [g.rows] l u hu (by omega) (by simp) (fun x hx => by rw [List.mem_singleton.1 hx]; exact hi)
  unfold w_rows at hc
  simp only [List.map_cons, List.map_nil] at hc
  have hno := fun s hs => no s hs
  simp (maxSteps := 4000000) only [go_sem, ↓reduceIte, reduceCtorEq, Nat.reduceEqDiff, Nat.reduceBEq, Nat.reduceAdd, Nat.reduceSub, Nat.reduceMul, Nat.reduceLT, Nat.reduceLeDiff, Nat.reduceBNe, Int.reduceBEq, Int.reduceBNe, Int.reduceLT, Int.reduceLE, evG, evP, Nat.reduceMod, Nat.reduceDiv, Nat.reduceSub, Nat.reduceLeDiff, Nat.reduceMul, Nat.reduceAdd, idxPrv, Option.isSome_some, Option.isSome_none, Option.getD_some, t1, h1, t4, List.map_cons, List.map_nil]
  refine ⟨.inl trivial, ?_⟩
  refine gcalling hc (ptsIn (u := u) ?_ ?_ ?_ ?_) ?_
  · simp (maxSteps := 4000000) only [go_sem, ↓reduceIte, reduceCtorEq, Nat.reduceEqDiff, Nat.reduceBEq, Nat.reduceAdd, Nat.reduceSub, Nat.reduceMul, Nat.reduceLT, Nat.reduceLeDiff, Nat.reduceBNe, Int.reduceBEq, Int.reduceBNe, Int.reduceLT, Int.reduceLE, evG, evP, Nat.reduceMod, Nat.reduceDiv, Nat.reduceSub, Nat.reduceLeDiff, Nat.reduceMul, Nat.reduceAdd, idxPrv, Option.isSome_some, Option.isSome_none, Option.getD_some, p3]
  · simp (maxSteps := 4000000) only [go_sem, ↓reduceIte, reduceCtorEq, Nat.reduceEqDiff, Nat.reduceBEq, Nat.reduceAdd, Nat.reduceSub, Nat.reduceMul, Nat.reduceLT, Nat.reduceLeDiff, Nat.reduceBNe, Int.reduceBEq, Int.reduceBNe, Int.reduceLT, Int.reduceLE, evG, evP, Nat.reduceMod, Nat.reduceDiv, Nat.reduceSub, Nat.reduceLeDiff, Nat.reduceMul, Nat.reduceAdd, idxPrv, Option.isSome_some, Option.isSome_none, Option.getD_some, p1]
  · simp (maxSteps := 4000000) only [go_sem, ↓reduceIte, reduceCtorEq, Nat.reduceEqDiff, Nat.reduceBEq, Nat.reduceAdd, Nat.reduceSub, Nat.reduceMul, Nat.reduceLT, Nat.reduceLeDiff, Nat.reduceBNe, Int.reduceBEq, Int.reduceBNe, Int.reduceLT, Int.reduceLE, evG, evP, Nat.reduceMod, Nat.reduceDiv, Nat.reduceSub, Nat.reduceLeDiff, Nat.reduceMul, Nat.reduceAdd, idxPrv, Option.isSome_some, Option.isSome_none, Option.getD_some, p2]
  · intro s hs
    have h0 := hno s hs
    simp only [List.mem_cons, List.not_mem_nil, or_false] at hs
    rcases hs with rfl | rfl | rfl | rfl | rfl | rfl | rfl <;> (simp (maxSteps := 4000000) only [go_sem, ↓reduceIte, reduceCtorEq, Nat.reduceEqDiff, Nat.reduceBEq, Nat.reduceAdd, Nat.reduceSub, Nat.reduceMul, Nat.reduceLT, Nat.reduceLeDiff, Nat.reduceBNe, Int.reduceBEq, Int.reduceBNe, Int.reduceLT, Int.reduceLE, evG, evP, Nat.reduceMod, Nat.reduceDiv, Nat.reduceSub, Nat.reduceLeDiff, Nat.reduceMul, Nat.reduceAdd, idxPrv, Option.isSome_some, Option.isSome_none, Option.getD_some, h0])
  rintro S' ⟨u2, hu2, rfl⟩
  unfold ptsS
  simp (maxSteps := 4000000) only [go_sem, ↓reduceIte, reduceCtorEq, Nat.reduceEqDiff, Nat.reduceBEq, Nat.reduceAdd, Nat.reduceSub, Nat.reduceMul, Nat.reduceLT, Nat.reduceLeDiff, Nat.reduceBNe, Int.reduceBEq, Int.reduceBNe, Int.reduceLT, Int.reduceLE, evG, evP, Nat.reduceMod, Nat.reduceDiv, Nat.reduceSub, Nat.reduceLeDiff, Nat.reduceMul, Nat.reduceAdd, idxPrv, Option.isSome_some, Option.isSome_none, Option.getD_some]
  refine hQ _ ⟨?_, ?_, ?_, ?_, ⟨u2, hu2, ?_, ?_, ?_⟩, ?_⟩
  · simp (maxSteps := 4000000) only [go_sem, ↓reduceIte, reduceCtorEq, Nat.reduceEqDiff, Nat.reduceBEq, Nat.reduceAdd, Nat.reduceSub, Nat.reduceMul, Nat.reduceLT, Nat.reduceLeDiff, Nat.reduceBNe, Int.reduceBEq, Int.reduceBNe, Int.reduceLT, Int.reduceLE, evG, evP, Nat.reduceMod, Nat.reduceDiv, Nat.reduceSub, Nat.reduceLeDiff, Nat.reduceMul, Nat.reduceAdd, idxPrv, Option.isSome_some, Option.isSome_none, Option.getD_some, t1]
  · (simp (maxSteps := 4000000) only [go_sem, ↓reduceIte, reduceCtorEq, Nat.reduceEqDiff, Nat.reduceBEq, Nat.reduceAdd, Nat.reduceSub, Nat.reduceMul, Nat.reduceLT, Nat.reduceLeDiff, Nat.reduceBNe, Int.reduceBEq, Int.reduceBNe, Int.reduceLT, Int.reduceLE, evG, evP, Nat.reduceMod, Nat.reduceDiv, Nat.reduceSub, Nat.reduceLeDiff, Nat.reduceMul, Nat.reduceAdd, idxPrv, Option.isSome_some, Option.isSome_none, Option.getD_some, h1]) <;> rfl
  · simp (maxSteps := 4000000) only [go_sem, ↓reduceIte, reduceCtorEq, Nat.reduceEqDiff, Nat.reduceBEq, Nat.reduceAdd, Nat.reduceSub, Nat.reduceMul, Nat.reduceLT, Nat.reduceLeDiff, Nat.reduceBNe, Int.reduceBEq, Int.reduceBNe, Int.reduceLT, Int.reduceLE, evG, evP, Nat.reduceMod, Nat.reduceDiv, Nat.reduceSub, Nat.reduceLeDiff, Nat.reduceMul, Nat.reduceAdd, idxPrv, Option.isSome_some, Option.isSome_none, Option.getD_some, t4]
  · simp (maxSteps := 4000000) only [go_sem, ↓reduceIte, reduceCtorEq, Nat.reduceEqDiff, Nat.reduceBEq, Nat.reduceAdd, Nat.reduceSub, Nat.reduceMul, Nat.reduceLT, Nat.reduceLeDiff, Nat.reduceBNe, Int.reduceBEq, Int.reduceBNe, Int.reduceLT, Int.reduceLE, evG, evP, Nat.reduceMod, Nat.reduceDiv, Nat.reduceSub, Nat.reduceLeDiff, Nat.reduceMul, Nat.reduceAdd, idxPrv, Option.isSome_some, Option.isSome_none, Option.getD_some, t3]
  · (simp (maxSteps := 4000000) only [go_sem, ↓reduceIte, reduceCtorEq, Nat.reduceEqDiff, Nat.reduceBEq, Nat.reduceAdd, Nat.reduceSub, Nat.reduceMul, Nat.reduceLT, Nat.reduceLeDiff, Nat.reduceBNe, Int.reduceBEq, Int.reduceBNe, Int.reduceLT, Int.reduceLE, evG, evP, Nat.reduceMod, Nat.reduceDiv, Nat.reduceSub, Nat.reduceLeDiff, Nat.reduceMul, Nat.reduceAdd, idxPrv, Option.isSome_some, Option.isSome_none, Option.getD_some]) <;> rfl
  · (simp (maxSteps := 4000000) only [go_sem, ↓reduceIte, reduceCtorEq, Nat.reduceEqDiff, Nat.reduceBEq, Nat.reduceAdd, Nat.reduceSub, Nat.reduceMul, Nat.reduceLT, Nat.reduceLeDiff, Nat.reduceBNe, Int.reduceBEq, Int.reduceBNe, Int.reduceLT, Int.reduceLE, evG, evP, Nat.reduceMod, Nat.reduceDiv, Nat.reduceSub, Nat.reduceLeDiff, Nat.reduceMul, Nat.reduceAdd, idxPrv, Option.isSome_some, Option.isSome_none, Option.getD_some]) <;> rfl
  · (simp (maxSteps := 4000000) only [go_sem, ↓reduceIte, reduceCtorEq, Nat.reduceEqDiff, Nat.reduceBEq, Nat.reduceAdd, Nat.reduceSub, Nat.reduceMul, Nat.reduceLT, Nat.reduceLeDiff, Nat.reduceBNe, Int.reduceBEq, Int.reduceBNe, Int.reduceLT, Int.reduceLE, evG, evP, Nat.reduceMod, Nat.reduceDiv, Nat.reduceSub, Nat.reduceLeDiff, Nat.reduceMul, Nat.reduceAdd, idxPrv, Option.isSome_some, Option.isSome_none, Option.getD_some]) <;> rfl
  · intro s hs
    simp only [List.mem_cons, List.not_mem_nil, or_false] at hs
    rcases hs with rfl | rfl | rfl | rfl | rfl | rfl | rfl <;> (simp (maxSteps := 4000000) only [go_sem, ↓reduceIte, reduceCtorEq, Nat.reduceEqDiff, Nat.reduceBEq, Nat.reduceAdd, Nat.reduceSub, Nat.reduceMul, Nat.reduceLT, Nat.reduceLeDiff, Nat.reduceBNe, Int.reduceBEq, Int.reduceBNe, Int.reduceLT, Int.reduceLE, evG, evP, Nat.reduceMod, Nat.reduceDiv, Nat.reduceSub, Nat.reduceLeDiff, Nat.reduceMul, Nat.reduceAdd, idxPrv, Option.isSome_some, Option.isSome_none, Option.getD_some])
def w_msgs : ByteArray := ⟨#[109, 115, 103, 115]⟩
theorem gl_msgs {g : Gau} {l : List ByteArray} (hl : l.length ≤ 1000) (hi : inI g.msgs) (Q : XK → St → Prop) (σ : St) (h : LnF g l σ) (hQ : ∀ σ', LnF g (l ++ [w_msgs, decS g.msgs]) σ' → Q .normal σ') : run (AFn Tryd.prog) (.regx Tryd.prog r_gLn_7) Q σ := by
  obtain ⟨t1, h1, t4, t3, ⟨u, hu, p1, p2, p3⟩, no⟩ := h
  unfold gauC at h1
  have hc := addG_ok w_msgs [g.msgs] l u hu (by omega) (by simp) (fun x hx => by rw [List.mem_singleton.1 hx]; exact hi)
  unfold w_msgs at hc
  simp only [List.map_cons, List.map_nil] at hc
  have hno := fun s hs => no s hs
  simp (maxSteps := 4000000) only [go_sem, ↓reduceIte, reduceCtorEq, Nat.reduceEqDiff, Nat.reduceBEq, Nat.reduceAdd, Nat.reduceSub, Nat.reduceMul, Nat.reduceLT, Nat.reduceLeDiff, Nat.reduceBNe, Int.reduceBEq, Int.reduceBNe, Int.reduceLT, Int.reduceLE, evG, evP, Nat.reduceMod, Nat.reduceDiv, Nat.reduceSub, Nat.reduceLeDiff, Nat.reduceMul, Nat.reduceAdd, idxPrv, Option.isSome_some, Option.isSome_none, Option.getD_some, t1, h1, t4, List.map_cons, List.map_nil]
  refine ⟨.inl trivial, ?_⟩
  refine gcalling hc (ptsIn (u := u) ?_ ?_ ?_ ?_) ?_
  · simp (maxSteps := 4000000) only [go_sem, ↓reduceIte, reduceCtorEq, Nat.reduceEqDiff, Nat.reduceBEq, Nat.reduceAdd, Nat.reduceSub, Nat.reduceMul, Nat.reduceLT, Nat.reduceLeDiff, Nat.reduceBNe, Int.reduceBEq, Int.reduceBNe, Int.reduceLT, Int.reduceLE, evG, evP, Nat.reduceMod, Nat.reduceDiv, Nat.reduceSub, Nat.reduceLeDiff, Nat.reduceMul, Nat.reduceAdd, idxPrv, Option.isSome_some, Option.isSome_none, Option.getD_some, p3]
  · simp (maxSteps := 4000000) only [go_sem, ↓reduceIte, reduceCtorEq, Nat.reduceEqDiff, Nat.reduceBEq, Nat.reduceAdd, Nat.reduceSub, Nat.reduceMul, Nat.reduceLT, Nat.reduceLeDiff, Nat.reduceBNe, Int.reduceBEq, Int.reduceBNe, Int.reduceLT, Int.reduceLE, evG, evP, Nat.reduceMod, Nat.reduceDiv, Nat.reduceSub, Nat.reduceLeDiff, Nat.reduceMul, Nat.reduceAdd, idxPrv, Option.isSome_some, Option.isSome_none, Option.getD_some, p1]
  · simp (maxSteps := 4000000) only [go_sem, ↓reduceIte, reduceCtorEq, Nat.reduceEqDiff, Nat.reduceBEq, Nat.reduceAdd, Nat.reduceSub, Nat.reduceMul, Nat.reduceLT, Nat.reduceLeDiff, Nat.reduceBNe, Int.reduceBEq, Int.reduceBNe, Int.reduceLT, Int.reduceLE, evG, evP, Nat.reduceMod, Nat.reduceDiv, Nat.reduceSub, Nat.reduceLeDiff, Nat.reduceMul, Nat.reduceAdd, idxPrv, Option.isSome_some, Option.isSome_none, Option.getD_some, p2]
  · intro s hs
    have h0 := hno s hs
    simp only [List.mem_cons, List.not_mem_nil, or_false] at hs
    rcases hs with rfl | rfl | rfl | rfl | rfl | rfl | rfl <;> (simp (maxSteps := 4000000) only [go_sem, ↓reduceIte, reduceCtorEq, Nat.reduceEqDiff, Nat.reduceBEq, Nat.reduceAdd, Nat.reduceSub, Nat.reduceMul, Nat.reduceLT, Nat.reduceLeDiff, Nat.reduceBNe, Int.reduceBEq, Int.reduceBNe, Int.reduceLT, Int.reduceLE, evG, evP, Nat.reduceMod, Nat.reduceDiv, Nat.reduceSub, Nat.reduceLeDiff, Nat.reduceMul, Nat.reduceAdd, idxPrv, Option.isSome_some, Option.isSome_none, Option.getD_some, h0])
  rintro S' ⟨u2, hu2, rfl⟩
  unfold ptsS
  simp (maxSteps := 4000000) only [go_sem, ↓reduceIte, reduceCtorEq, Nat.reduceEqDiff, Nat.reduceBEq, Nat.reduceAdd, Nat.reduceSub, Nat.reduceMul, Nat.reduceLT, Nat.reduceLeDiff, Nat.reduceBNe, Int.reduceBEq, Int.reduceBNe, Int.reduceLT, Int.reduceLE, evG, evP, Nat.reduceMod, Nat.reduceDiv, Nat.reduceSub, Nat.reduceLeDiff, Nat.reduceMul, Nat.reduceAdd, idxPrv, Option.isSome_some, Option.isSome_none, Option.getD_some]
  refine hQ _ ⟨?_, ?_, ?_, ?_, ⟨u2, hu2, ?_, ?_, ?_⟩, ?_⟩
  · simp (maxSteps := 4000000) only [go_sem, ↓reduceIte, reduceCtorEq, Nat.reduceEqDiff, Nat.reduceBEq, Nat.reduceAdd, Nat.reduceSub, Nat.reduceMul, Nat.reduceLT, Nat.reduceLeDiff, Nat.reduceBNe, Int.reduceBEq, Int.reduceBNe, Int.reduceLT, Int.reduceLE, evG, evP, Nat.reduceMod, Nat.reduceDiv, Nat.reduceSub, Nat.reduceLeDiff, Nat.reduceMul, Nat.reduceAdd, idxPrv, Option.isSome_some, Option.isSome_none, Option.getD_some, t1]
  · (simp (maxSteps := 4000000) only [go_sem, ↓reduceIte, reduceCtorEq, Nat.reduceEqDiff, Nat.reduceBEq, Nat.reduceAdd, Nat.reduceSub, Nat.reduceMul, Nat.reduceLT, Nat.reduceLeDiff, Nat.reduceBNe, Int.reduceBEq, Int.reduceBNe, Int.reduceLT, Int.reduceLE, evG, evP, Nat.reduceMod, Nat.reduceDiv, Nat.reduceSub, Nat.reduceLeDiff, Nat.reduceMul, Nat.reduceAdd, idxPrv, Option.isSome_some, Option.isSome_none, Option.getD_some, h1]) <;> rfl
  · simp (maxSteps := 4000000) only [go_sem, ↓reduceIte, reduceCtorEq, Nat.reduceEqDiff, Nat.reduceBEq, Nat.reduceAdd, Nat.reduceSub, Nat.reduceMul, Nat.reduceLT, Nat.reduceLeDiff, Nat.reduceBNe, Int.reduceBEq, Int.reduceBNe, Int.reduceLT, Int.reduceLE, evG, evP, Nat.reduceMod, Nat.reduceDiv, Nat.reduceSub, Nat.reduceLeDiff, Nat.reduceMul, Nat.reduceAdd, idxPrv, Option.isSome_some, Option.isSome_none, Option.getD_some, t4]
  · simp (maxSteps := 4000000) only [go_sem, ↓reduceIte, reduceCtorEq, Nat.reduceEqDiff, Nat.reduceBEq, Nat.reduceAdd, Nat.reduceSub, Nat.reduceMul, Nat.reduceLT, Nat.reduceLeDiff, Nat.reduceBNe, Int.reduceBEq, Int.reduceBNe, Int.reduceLT, Int.reduceLE, evG, evP, Nat.reduceMod, Nat.reduceDiv, Nat.reduceSub, Nat.reduceLeDiff, Nat.reduceMul, Nat.reduceAdd, idxPrv, Option.isSome_some, Option.isSome_none, Option.getD_some, t3]
  · (simp (maxSteps := 4000000) only [go_sem, ↓reduceIte, reduceCtorEq, Nat.reduceEqDiff, Nat.reduceBEq, Nat.reduceAdd, Nat.reduceSub, Nat.reduceMul, Nat.reduceLT, Nat.reduceLeDiff, Nat.reduceBNe, Int.reduceBEq, Int.reduceBNe, Int.reduceLT, Int.reduceLE, evG, evP, Nat.reduceMod, Nat.reduceDiv, Nat.reduceSub, Nat.reduceLeDiff, Nat.reduceMul, Nat.reduceAdd, idxPrv, Option.isSome_some, Option.isSome_none, Option.getD_some]) <;> rfl
  · (simp (maxSteps := 4000000) only [go_sem, ↓reduceIte, reduceCtorEq, Nat.reduceEqDiff, Nat.reduceBEq, Nat.reduceAdd, Nat.reduceSub, Nat.reduceMul, Nat.reduceLT, Nat.reduceLeDiff, Nat.reduceBNe, Int.reduceBEq, Int.reduceBNe, Int.reduceLT, Int.reduceLE, evG, evP, Nat.reduceMod, Nat.reduceDiv, Nat.reduceSub, Nat.reduceLeDiff, Nat.reduceMul, Nat.reduceAdd, idxPrv, Option.isSome_some, Option.isSome_none, Option.getD_some]) <;> rfl
  · (simp (maxSteps := 4000000) only [go_sem, ↓reduceIte, reduceCtorEq, Nat.reduceEqDiff, Nat.reduceBEq, Nat.reduceAdd, Nat.reduceSub, Nat.reduceMul, Nat.reduceLT, Nat.reduceLeDiff, Nat.reduceBNe, Int.reduceBEq, Int.reduceBNe, Int.reduceLT, Int.reduceLE, evG, evP, Nat.reduceMod, Nat.reduceDiv, Nat.reduceSub, Nat.reduceLeDiff, Nat.reduceMul, Nat.reduceAdd, idxPrv, Option.isSome_some, Option.isSome_none, Option.getD_some]) <;> rfl
  · intro s hs
    simp only [List.mem_cons, List.not_mem_nil, or_false] at hs
    rcases hs with rfl | rfl | rfl | rfl | rfl | rfl | rfl <;> (simp (maxSteps := 4000000) only [go_sem, ↓reduceIte, reduceCtorEq, Nat.reduceEqDiff, Nat.reduceBEq, Nat.reduceAdd, Nat.reduceSub, Nat.reduceMul, Nat.reduceLT, Nat.reduceLeDiff, Nat.reduceBNe, Int.reduceBEq, Int.reduceBNe, Int.reduceLT, Int.reduceLE, evG, evP, Nat.reduceMod, Nat.reduceDiv, Nat.reduceSub, Nat.reduceLeDiff, Nat.reduceMul, Nat.reduceAdd, idxPrv, Option.isSome_some, Option.isSome_none, Option.getD_some])
def w_bytes : ByteArray := ⟨#[98, 121, 116, 101, 115]⟩
theorem gl_bytes {g : Gau} {l : List ByteArray} (hl : l.length ≤ 1000) (hi : inI g.bytes) (Q : XK → St → Prop) (σ : St) (h : LnF g l σ) (hQ : ∀ σ', LnF g (l ++ [w_bytes, decS g.bytes]) σ' → Q .normal σ') : run (AFn Tryd.prog) (.regx Tryd.prog r_gLn_8) Q σ := by
  obtain ⟨t1, h1, t4, t3, ⟨u, hu, p1, p2, p3⟩, no⟩ := h
  unfold gauC at h1
  have hc := addG_ok w_bytes [g.bytes] l u hu (by omega) (by simp) (fun x hx => by rw [List.mem_singleton.1 hx]; exact hi)
  unfold w_bytes at hc
  simp only [List.map_cons, List.map_nil] at hc
  have hno := fun s hs => no s hs
  simp (maxSteps := 4000000) only [go_sem, ↓reduceIte, reduceCtorEq, Nat.reduceEqDiff, Nat.reduceBEq, Nat.reduceAdd, Nat.reduceSub, Nat.reduceMul, Nat.reduceLT, Nat.reduceLeDiff, Nat.reduceBNe, Int.reduceBEq, Int.reduceBNe, Int.reduceLT, Int.reduceLE, evG, evP, Nat.reduceMod, Nat.reduceDiv, Nat.reduceSub, Nat.reduceLeDiff, Nat.reduceMul, Nat.reduceAdd, idxPrv, Option.isSome_some, Option.isSome_none, Option.getD_some, t1, h1, t4, List.map_cons, List.map_nil]
  refine ⟨.inl trivial, ?_⟩
  refine gcalling hc (ptsIn (u := u) ?_ ?_ ?_ ?_) ?_
  · simp (maxSteps := 4000000) only [go_sem, ↓reduceIte, reduceCtorEq, Nat.reduceEqDiff, Nat.reduceBEq, Nat.reduceAdd, Nat.reduceSub, Nat.reduceMul, Nat.reduceLT, Nat.reduceLeDiff, Nat.reduceBNe, Int.reduceBEq, Int.reduceBNe, Int.reduceLT, Int.reduceLE, evG, evP, Nat.reduceMod, Nat.reduceDiv, Nat.reduceSub, Nat.reduceLeDiff, Nat.reduceMul, Nat.reduceAdd, idxPrv, Option.isSome_some, Option.isSome_none, Option.getD_some, p3]
  · simp (maxSteps := 4000000) only [go_sem, ↓reduceIte, reduceCtorEq, Nat.reduceEqDiff, Nat.reduceBEq, Nat.reduceAdd, Nat.reduceSub, Nat.reduceMul, Nat.reduceLT, Nat.reduceLeDiff, Nat.reduceBNe, Int.reduceBEq, Int.reduceBNe, Int.reduceLT, Int.reduceLE, evG, evP, Nat.reduceMod, Nat.reduceDiv, Nat.reduceSub, Nat.reduceLeDiff, Nat.reduceMul, Nat.reduceAdd, idxPrv, Option.isSome_some, Option.isSome_none, Option.getD_some, p1]
  · simp (maxSteps := 4000000) only [go_sem, ↓reduceIte, reduceCtorEq, Nat.reduceEqDiff, Nat.reduceBEq, Nat.reduceAdd, Nat.reduceSub, Nat.reduceMul, Nat.reduceLT, Nat.reduceLeDiff, Nat.reduceBNe, Int.reduceBEq, Int.reduceBNe, Int.reduceLT, Int.reduceLE, evG, evP, Nat.reduceMod, Nat.reduceDiv, Nat.reduceSub, Nat.reduceLeDiff, Nat.reduceMul, Nat.reduceAdd, idxPrv, Option.isSome_some, Option.isSome_none, Option.getD_some, p2]
  · intro s hs
    have h0 := hno s hs
    simp only [List.mem_cons, List.not_mem_nil, or_false] at hs
    rcases hs with rfl | rfl | rfl | rfl | rfl | rfl | rfl <;> (simp (maxSteps := 4000000) only [go_sem, ↓reduceIte, reduceCtorEq, Nat.reduceEqDiff, Nat.reduceBEq, Nat.reduceAdd, Nat.reduceSub, Nat.reduceMul, Nat.reduceLT, Nat.reduceLeDiff, Nat.reduceBNe, Int.reduceBEq, Int.reduceBNe, Int.reduceLT, Int.reduceLE, evG, evP, Nat.reduceMod, Nat.reduceDiv, Nat.reduceSub, Nat.reduceLeDiff, Nat.reduceMul, Nat.reduceAdd, idxPrv, Option.isSome_some, Option.isSome_none, Option.getD_some, h0])
  rintro S' ⟨u2, hu2, rfl⟩
  unfold ptsS
  simp (maxSteps := 4000000) only [go_sem, ↓reduceIte, reduceCtorEq, Nat.reduceEqDiff, Nat.reduceBEq, Nat.reduceAdd, Nat.reduceSub, Nat.reduceMul, Nat.reduceLT, Nat.reduceLeDiff, Nat.reduceBNe, Int.reduceBEq, Int.reduceBNe, Int.reduceLT, Int.reduceLE, evG, evP, Nat.reduceMod, Nat.reduceDiv, Nat.reduceSub, Nat.reduceLeDiff, Nat.reduceMul, Nat.reduceAdd, idxPrv, Option.isSome_some, Option.isSome_none, Option.getD_some]
  refine hQ _ ⟨?_, ?_, ?_, ?_, ⟨u2, hu2, ?_, ?_, ?_⟩, ?_⟩
  · simp (maxSteps := 4000000) only [go_sem, ↓reduceIte, reduceCtorEq, Nat.reduceEqDiff, Nat.reduceBEq, Nat.reduceAdd, Nat.reduceSub, Nat.reduceMul, Nat.reduceLT, Nat.reduceLeDiff, Nat.reduceBNe, Int.reduceBEq, Int.reduceBNe, Int.reduceLT, Int.reduceLE, evG, evP, Nat.reduceMod, Nat.reduceDiv, Nat.reduceSub, Nat.reduceLeDiff, Nat.reduceMul, Nat.reduceAdd, idxPrv, Option.isSome_some, Option.isSome_none, Option.getD_some, t1]
  · (simp (maxSteps := 4000000) only [go_sem, ↓reduceIte, reduceCtorEq, Nat.reduceEqDiff, Nat.reduceBEq, Nat.reduceAdd, Nat.reduceSub, Nat.reduceMul, Nat.reduceLT, Nat.reduceLeDiff, Nat.reduceBNe, Int.reduceBEq, Int.reduceBNe, Int.reduceLT, Int.reduceLE, evG, evP, Nat.reduceMod, Nat.reduceDiv, Nat.reduceSub, Nat.reduceLeDiff, Nat.reduceMul, Nat.reduceAdd, idxPrv, Option.isSome_some, Option.isSome_none, Option.getD_some, h1]) <;> rfl
  · simp (maxSteps := 4000000) only [go_sem, ↓reduceIte, reduceCtorEq, Nat.reduceEqDiff, Nat.reduceBEq, Nat.reduceAdd, Nat.reduceSub, Nat.reduceMul, Nat.reduceLT, Nat.reduceLeDiff, Nat.reduceBNe, Int.reduceBEq, Int.reduceBNe, Int.reduceLT, Int.reduceLE, evG, evP, Nat.reduceMod, Nat.reduceDiv, Nat.reduceSub, Nat.reduceLeDiff, Nat.reduceMul, Nat.reduceAdd, idxPrv, Option.isSome_some, Option.isSome_none, Option.getD_some, t4]
  · simp (maxSteps := 4000000) only [go_sem, ↓reduceIte, reduceCtorEq, Nat.reduceEqDiff, Nat.reduceBEq, Nat.reduceAdd, Nat.reduceSub, Nat.reduceMul, Nat.reduceLT, Nat.reduceLeDiff, Nat.reduceBNe, Int.reduceBEq, Int.reduceBNe, Int.reduceLT, Int.reduceLE, evG, evP, Nat.reduceMod, Nat.reduceDiv, Nat.reduceSub, Nat.reduceLeDiff, Nat.reduceMul, Nat.reduceAdd, idxPrv, Option.isSome_some, Option.isSome_none, Option.getD_some, t3]
  · (simp (maxSteps := 4000000) only [go_sem, ↓reduceIte, reduceCtorEq, Nat.reduceEqDiff, Nat.reduceBEq, Nat.reduceAdd, Nat.reduceSub, Nat.reduceMul, Nat.reduceLT, Nat.reduceLeDiff, Nat.reduceBNe, Int.reduceBEq, Int.reduceBNe, Int.reduceLT, Int.reduceLE, evG, evP, Nat.reduceMod, Nat.reduceDiv, Nat.reduceSub, Nat.reduceLeDiff, Nat.reduceMul, Nat.reduceAdd, idxPrv, Option.isSome_some, Option.isSome_none, Option.getD_some]) <;> rfl
  · (simp (maxSteps := 4000000) only [go_sem, ↓reduceIte, reduceCtorEq, Nat.reduceEqDiff, Nat.reduceBEq, Nat.reduceAdd, Nat.reduceSub, Nat.reduceMul, Nat.reduceLT, Nat.reduceLeDiff, Nat.reduceBNe, Int.reduceBEq, Int.reduceBNe, Int.reduceLT, Int.reduceLE, evG, evP, Nat.reduceMod, Nat.reduceDiv, Nat.reduceSub, Nat.reduceLeDiff, Nat.reduceMul, Nat.reduceAdd, idxPrv, Option.isSome_some, Option.isSome_none, Option.getD_some]) <;> rfl
  · (simp (maxSteps := 4000000) only [go_sem, ↓reduceIte, reduceCtorEq, Nat.reduceEqDiff, Nat.reduceBEq, Nat.reduceAdd, Nat.reduceSub, Nat.reduceMul, Nat.reduceLT, Nat.reduceLeDiff, Nat.reduceBNe, Int.reduceBEq, Int.reduceBNe, Int.reduceLT, Int.reduceLE, evG, evP, Nat.reduceMod, Nat.reduceDiv, Nat.reduceSub, Nat.reduceLeDiff, Nat.reduceMul, Nat.reduceAdd, idxPrv, Option.isSome_some, Option.isSome_none, Option.getD_some]) <;> rfl
  · intro s hs
    simp only [List.mem_cons, List.not_mem_nil, or_false] at hs
    rcases hs with rfl | rfl | rfl | rfl | rfl | rfl | rfl <;> (simp (maxSteps := 4000000) only [go_sem, ↓reduceIte, reduceCtorEq, Nat.reduceEqDiff, Nat.reduceBEq, Nat.reduceAdd, Nat.reduceSub, Nat.reduceMul, Nat.reduceLT, Nat.reduceLeDiff, Nat.reduceBNe, Int.reduceBEq, Int.reduceBNe, Int.reduceLT, Int.reduceLE, evG, evP, Nat.reduceMod, Nat.reduceDiv, Nat.reduceSub, Nat.reduceLeDiff, Nat.reduceMul, Nat.reduceAdd, idxPrv, Option.isSome_some, Option.isSome_none, Option.getD_some])
def w_empty : ByteArray := ⟨#[101, 109, 112, 116, 121]⟩
theorem gl_empty {g : Gau} {l : List ByteArray} (hl : l.length ≤ 1000) (hi : inI g.empty) (Q : XK → St → Prop) (σ : St) (h : LnF g l σ) (hQ : ∀ σ', LnF g (l ++ [w_empty, decS g.empty]) σ' → Q .normal σ') : run (AFn Tryd.prog) (.regx Tryd.prog r_gLn_9) Q σ := by
  obtain ⟨t1, h1, t4, t3, ⟨u, hu, p1, p2, p3⟩, no⟩ := h
  unfold gauC at h1
  have hc := addG_ok w_empty [g.empty] l u hu (by omega) (by simp) (fun x hx => by rw [List.mem_singleton.1 hx]; exact hi)
  unfold w_empty at hc
  simp only [List.map_cons, List.map_nil] at hc
  have hno := fun s hs => no s hs
  simp (maxSteps := 4000000) only [go_sem, ↓reduceIte, reduceCtorEq, Nat.reduceEqDiff, Nat.reduceBEq, Nat.reduceAdd, Nat.reduceSub, Nat.reduceMul, Nat.reduceLT, Nat.reduceLeDiff, Nat.reduceBNe, Int.reduceBEq, Int.reduceBNe, Int.reduceLT, Int.reduceLE, evG, evP, Nat.reduceMod, Nat.reduceDiv, Nat.reduceSub, Nat.reduceLeDiff, Nat.reduceMul, Nat.reduceAdd, idxPrv, Option.isSome_some, Option.isSome_none, Option.getD_some, t1, h1, t4, List.map_cons, List.map_nil]
  refine ⟨.inl trivial, ?_⟩
  refine gcalling hc (ptsIn (u := u) ?_ ?_ ?_ ?_) ?_
  · simp (maxSteps := 4000000) only [go_sem, ↓reduceIte, reduceCtorEq, Nat.reduceEqDiff, Nat.reduceBEq, Nat.reduceAdd, Nat.reduceSub, Nat.reduceMul, Nat.reduceLT, Nat.reduceLeDiff, Nat.reduceBNe, Int.reduceBEq, Int.reduceBNe, Int.reduceLT, Int.reduceLE, evG, evP, Nat.reduceMod, Nat.reduceDiv, Nat.reduceSub, Nat.reduceLeDiff, Nat.reduceMul, Nat.reduceAdd, idxPrv, Option.isSome_some, Option.isSome_none, Option.getD_some, p3]
  · simp (maxSteps := 4000000) only [go_sem, ↓reduceIte, reduceCtorEq, Nat.reduceEqDiff, Nat.reduceBEq, Nat.reduceAdd, Nat.reduceSub, Nat.reduceMul, Nat.reduceLT, Nat.reduceLeDiff, Nat.reduceBNe, Int.reduceBEq, Int.reduceBNe, Int.reduceLT, Int.reduceLE, evG, evP, Nat.reduceMod, Nat.reduceDiv, Nat.reduceSub, Nat.reduceLeDiff, Nat.reduceMul, Nat.reduceAdd, idxPrv, Option.isSome_some, Option.isSome_none, Option.getD_some, p1]
  · simp (maxSteps := 4000000) only [go_sem, ↓reduceIte, reduceCtorEq, Nat.reduceEqDiff, Nat.reduceBEq, Nat.reduceAdd, Nat.reduceSub, Nat.reduceMul, Nat.reduceLT, Nat.reduceLeDiff, Nat.reduceBNe, Int.reduceBEq, Int.reduceBNe, Int.reduceLT, Int.reduceLE, evG, evP, Nat.reduceMod, Nat.reduceDiv, Nat.reduceSub, Nat.reduceLeDiff, Nat.reduceMul, Nat.reduceAdd, idxPrv, Option.isSome_some, Option.isSome_none, Option.getD_some, p2]
  · intro s hs
    have h0 := hno s hs
    simp only [List.mem_cons, List.not_mem_nil, or_false] at hs
    rcases hs with rfl | rfl | rfl | rfl | rfl | rfl | rfl <;> (simp (maxSteps := 4000000) only [go_sem, ↓reduceIte, reduceCtorEq, Nat.reduceEqDiff, Nat.reduceBEq, Nat.reduceAdd, Nat.reduceSub, Nat.reduceMul, Nat.reduceLT, Nat.reduceLeDiff, Nat.reduceBNe, Int.reduceBEq, Int.reduceBNe, Int.reduceLT, Int.reduceLE, evG, evP, Nat.reduceMod, Nat.reduceDiv, Nat.reduceSub, Nat.reduceLeDiff, Nat.reduceMul, Nat.reduceAdd, idxPrv, Option.isSome_some, Option.isSome_none, Option.getD_some, h0])
  rintro S' ⟨u2, hu2, rfl⟩
  unfold ptsS
  simp (maxSteps := 4000000) only [go_sem, ↓reduceIte, reduceCtorEq, Nat.reduceEqDiff, Nat.reduceBEq, Nat.reduceAdd, Nat.reduceSub, Nat.reduceMul, Nat.reduceLT, Nat.reduceLeDiff, Nat.reduceBNe, Int.reduceBEq, Int.reduceBNe, Int.reduceLT, Int.reduceLE, evG, evP, Nat.reduceMod, Nat.reduceDiv, Nat.reduceSub, Nat.reduceLeDiff, Nat.reduceMul, Nat.reduceAdd, idxPrv, Option.isSome_some, Option.isSome_none, Option.getD_some]
  refine hQ _ ⟨?_, ?_, ?_, ?_, ⟨u2, hu2, ?_, ?_, ?_⟩, ?_⟩
  · simp (maxSteps := 4000000) only [go_sem, ↓reduceIte, reduceCtorEq, Nat.reduceEqDiff, Nat.reduceBEq, Nat.reduceAdd, Nat.reduceSub, Nat.reduceMul, Nat.reduceLT, Nat.reduceLeDiff, Nat.reduceBNe, Int.reduceBEq, Int.reduceBNe, Int.reduceLT, Int.reduceLE, evG, evP, Nat.reduceMod, Nat.reduceDiv, Nat.reduceSub, Nat.reduceLeDiff, Nat.reduceMul, Nat.reduceAdd, idxPrv, Option.isSome_some, Option.isSome_none, Option.getD_some, t1]
  · (simp (maxSteps := 4000000) only [go_sem, ↓reduceIte, reduceCtorEq, Nat.reduceEqDiff, Nat.reduceBEq, Nat.reduceAdd, Nat.reduceSub, Nat.reduceMul, Nat.reduceLT, Nat.reduceLeDiff, Nat.reduceBNe, Int.reduceBEq, Int.reduceBNe, Int.reduceLT, Int.reduceLE, evG, evP, Nat.reduceMod, Nat.reduceDiv, Nat.reduceSub, Nat.reduceLeDiff, Nat.reduceMul, Nat.reduceAdd, idxPrv, Option.isSome_some, Option.isSome_none, Option.getD_some, h1]) <;> rfl
  · simp (maxSteps := 4000000) only [go_sem, ↓reduceIte, reduceCtorEq, Nat.reduceEqDiff, Nat.reduceBEq, Nat.reduceAdd, Nat.reduceSub, Nat.reduceMul, Nat.reduceLT, Nat.reduceLeDiff, Nat.reduceBNe, Int.reduceBEq, Int.reduceBNe, Int.reduceLT, Int.reduceLE, evG, evP, Nat.reduceMod, Nat.reduceDiv, Nat.reduceSub, Nat.reduceLeDiff, Nat.reduceMul, Nat.reduceAdd, idxPrv, Option.isSome_some, Option.isSome_none, Option.getD_some, t4]
  · simp (maxSteps := 4000000) only [go_sem, ↓reduceIte, reduceCtorEq, Nat.reduceEqDiff, Nat.reduceBEq, Nat.reduceAdd, Nat.reduceSub, Nat.reduceMul, Nat.reduceLT, Nat.reduceLeDiff, Nat.reduceBNe, Int.reduceBEq, Int.reduceBNe, Int.reduceLT, Int.reduceLE, evG, evP, Nat.reduceMod, Nat.reduceDiv, Nat.reduceSub, Nat.reduceLeDiff, Nat.reduceMul, Nat.reduceAdd, idxPrv, Option.isSome_some, Option.isSome_none, Option.getD_some, t3]
  · (simp (maxSteps := 4000000) only [go_sem, ↓reduceIte, reduceCtorEq, Nat.reduceEqDiff, Nat.reduceBEq, Nat.reduceAdd, Nat.reduceSub, Nat.reduceMul, Nat.reduceLT, Nat.reduceLeDiff, Nat.reduceBNe, Int.reduceBEq, Int.reduceBNe, Int.reduceLT, Int.reduceLE, evG, evP, Nat.reduceMod, Nat.reduceDiv, Nat.reduceSub, Nat.reduceLeDiff, Nat.reduceMul, Nat.reduceAdd, idxPrv, Option.isSome_some, Option.isSome_none, Option.getD_some]) <;> rfl
  · (simp (maxSteps := 4000000) only [go_sem, ↓reduceIte, reduceCtorEq, Nat.reduceEqDiff, Nat.reduceBEq, Nat.reduceAdd, Nat.reduceSub, Nat.reduceMul, Nat.reduceLT, Nat.reduceLeDiff, Nat.reduceBNe, Int.reduceBEq, Int.reduceBNe, Int.reduceLT, Int.reduceLE, evG, evP, Nat.reduceMod, Nat.reduceDiv, Nat.reduceSub, Nat.reduceLeDiff, Nat.reduceMul, Nat.reduceAdd, idxPrv, Option.isSome_some, Option.isSome_none, Option.getD_some]) <;> rfl
  · (simp (maxSteps := 4000000) only [go_sem, ↓reduceIte, reduceCtorEq, Nat.reduceEqDiff, Nat.reduceBEq, Nat.reduceAdd, Nat.reduceSub, Nat.reduceMul, Nat.reduceLT, Nat.reduceLeDiff, Nat.reduceBNe, Int.reduceBEq, Int.reduceBNe, Int.reduceLT, Int.reduceLE, evG, evP, Nat.reduceMod, Nat.reduceDiv, Nat.reduceSub, Nat.reduceLeDiff, Nat.reduceMul, Nat.reduceAdd, idxPrv, Option.isSome_some, Option.isSome_none, Option.getD_some]) <;> rfl
  · intro s hs
    simp only [List.mem_cons, List.not_mem_nil, or_false] at hs
    rcases hs with rfl | rfl | rfl | rfl | rfl | rfl | rfl <;> (simp (maxSteps := 4000000) only [go_sem, ↓reduceIte, reduceCtorEq, Nat.reduceEqDiff, Nat.reduceBEq, Nat.reduceAdd, Nat.reduceSub, Nat.reduceMul, Nat.reduceLT, Nat.reduceLeDiff, Nat.reduceBNe, Int.reduceBEq, Int.reduceBNe, Int.reduceLT, Int.reduceLE, evG, evP, Nat.reduceMod, Nat.reduceDiv, Nat.reduceSub, Nat.reduceLeDiff, Nat.reduceMul, Nat.reduceAdd, idxPrv, Option.isSome_some, Option.isSome_none, Option.getD_some])
theorem gl_start (g : Gau) (R : IR) (Q : XK → St → Prop) (hQ : ∀ σ', LnF g [] σ' → run (AFn Tryd.prog) R Q σ') : run (AFn Tryd.prog) (.seq (.regx Tryd.prog r_gLn_0) (.seq (.seq (.regx Tryd.prog r_gLn_1) (.gini [⟨3, 0, 524, 1, 9⟩])) (.seq (.regx Tryd.prog r_gLn_2) R))) Q (initSt [g.a]) := by
  have e : g.a = .agg (gauC g) := rfl
  rw [e]
  unfold gauC
  simp (maxSteps := 4000000) only [go_sem, ↓reduceIte, reduceCtorEq, Nat.reduceEqDiff, Nat.reduceBEq, Nat.reduceAdd, Nat.reduceSub, Nat.reduceMul, Nat.reduceLT, Nat.reduceLeDiff, Nat.reduceBNe, Int.reduceBEq, Int.reduceBNe, Int.reduceLT, Int.reduceLE, evG, evP, Nat.reduceMod, Nat.reduceDiv, Nat.reduceSub, Nat.reduceLeDiff, Nat.reduceMul, Nat.reduceAdd, idxPrv, Option.isSome_some, Option.isSome_none, Option.getD_some, List.length_cons, List.length_nil]
  (repeat refine And.intro (by omega) ?_)
  refine hQ _ ⟨?_, ?_, ?_, ?_, ⟨.slice none 0 0, rfl, ?_, ?_, ?_⟩, ?_⟩
  · simp (maxSteps := 4000000) only [go_sem, ↓reduceIte, reduceCtorEq, Nat.reduceEqDiff, Nat.reduceBEq, Nat.reduceAdd, Nat.reduceSub, Nat.reduceMul, Nat.reduceLT, Nat.reduceLeDiff, Nat.reduceBNe, Int.reduceBEq, Int.reduceBNe, Int.reduceLT, Int.reduceLE, evG, evP, Nat.reduceMod, Nat.reduceDiv, Nat.reduceSub, Nat.reduceLeDiff, Nat.reduceMul, Nat.reduceAdd, idxPrv, Option.isSome_some, Option.isSome_none, Option.getD_some]
  · (simp (maxSteps := 4000000) only [go_sem, ↓reduceIte, reduceCtorEq, Nat.reduceEqDiff, Nat.reduceBEq, Nat.reduceAdd, Nat.reduceSub, Nat.reduceMul, Nat.reduceLT, Nat.reduceLeDiff, Nat.reduceBNe, Int.reduceBEq, Int.reduceBNe, Int.reduceLT, Int.reduceLE, evG, evP, Nat.reduceMod, Nat.reduceDiv, Nat.reduceSub, Nat.reduceLeDiff, Nat.reduceMul, Nat.reduceAdd, idxPrv, Option.isSome_some, Option.isSome_none, Option.getD_some]) <;> rfl
  · simp (maxSteps := 4000000) only [go_sem, ↓reduceIte, reduceCtorEq, Nat.reduceEqDiff, Nat.reduceBEq, Nat.reduceAdd, Nat.reduceSub, Nat.reduceMul, Nat.reduceLT, Nat.reduceLeDiff, Nat.reduceBNe, Int.reduceBEq, Int.reduceBNe, Int.reduceLT, Int.reduceLE, evG, evP, Nat.reduceMod, Nat.reduceDiv, Nat.reduceSub, Nat.reduceLeDiff, Nat.reduceMul, Nat.reduceAdd, idxPrv, Option.isSome_some, Option.isSome_none, Option.getD_some]
  · simp (maxSteps := 4000000) only [go_sem, ↓reduceIte, reduceCtorEq, Nat.reduceEqDiff, Nat.reduceBEq, Nat.reduceAdd, Nat.reduceSub, Nat.reduceMul, Nat.reduceLT, Nat.reduceLeDiff, Nat.reduceBNe, Int.reduceBEq, Int.reduceBNe, Int.reduceLT, Int.reduceLE, evG, evP, Nat.reduceMod, Nat.reduceDiv, Nat.reduceSub, Nat.reduceLeDiff, Nat.reduceMul, Nat.reduceAdd, idxPrv, Option.isSome_some, Option.isSome_none, Option.getD_some]
  · (simp (maxSteps := 4000000) only [go_sem, ↓reduceIte, reduceCtorEq, Nat.reduceEqDiff, Nat.reduceBEq, Nat.reduceAdd, Nat.reduceSub, Nat.reduceMul, Nat.reduceLT, Nat.reduceLeDiff, Nat.reduceBNe, Int.reduceBEq, Int.reduceBNe, Int.reduceLT, Int.reduceLE, evG, evP, Nat.reduceMod, Nat.reduceDiv, Nat.reduceSub, Nat.reduceLeDiff, Nat.reduceMul, Nat.reduceAdd, idxPrv, Option.isSome_some, Option.isSome_none, Option.getD_some]) <;> rfl
  · (simp (maxSteps := 4000000) only [go_sem, ↓reduceIte, reduceCtorEq, Nat.reduceEqDiff, Nat.reduceBEq, Nat.reduceAdd, Nat.reduceSub, Nat.reduceMul, Nat.reduceLT, Nat.reduceLeDiff, Nat.reduceBNe, Int.reduceBEq, Int.reduceBNe, Int.reduceLT, Int.reduceLE, evG, evP, Nat.reduceMod, Nat.reduceDiv, Nat.reduceSub, Nat.reduceLeDiff, Nat.reduceMul, Nat.reduceAdd, idxPrv, Option.isSome_some, Option.isSome_none, Option.getD_some]) <;> rfl
  · (simp (maxSteps := 4000000) only [go_sem, ↓reduceIte, reduceCtorEq, Nat.reduceEqDiff, Nat.reduceBEq, Nat.reduceAdd, Nat.reduceSub, Nat.reduceMul, Nat.reduceLT, Nat.reduceLeDiff, Nat.reduceBNe, Int.reduceBEq, Int.reduceBNe, Int.reduceLT, Int.reduceLE, evG, evP, Nat.reduceMod, Nat.reduceDiv, Nat.reduceSub, Nat.reduceLeDiff, Nat.reduceMul, Nat.reduceAdd, idxPrv, Option.isSome_some, Option.isSome_none, Option.getD_some]) <;> rfl
  · intro s hs
    simp only [List.mem_cons, List.not_mem_nil, or_false] at hs
    rcases hs with rfl | rfl | rfl | rfl | rfl | rfl | rfl <;> (simp (maxSteps := 4000000) only [go_sem, ↓reduceIte, reduceCtorEq, Nat.reduceEqDiff, Nat.reduceBEq, Nat.reduceAdd, Nat.reduceSub, Nat.reduceMul, Nat.reduceLT, Nat.reduceLeDiff, Nat.reduceBNe, Int.reduceBEq, Int.reduceBNe, Int.reduceLT, Int.reduceLE, evG, evP, Nat.reduceMod, Nat.reduceDiv, Nat.reduceSub, Nat.reduceLeDiff, Nat.reduceMul, Nat.reduceAdd, idxPrv, Option.isSome_some, Option.isSome_none, Option.getD_some])
def w_level : ByteArray := ⟨#[108, 101, 118, 101, 108]⟩
def waitN (ws : List Int) (i : Nat) : Int := (ws[i]?).getD 0
def lvls (ws : List Int) : Nat → List Int → List ByteArray
  | _, [] => []
  | i, n :: r => [w_level, decS n, decS (waitN ws i)] ++ lvls ws (i + 1) r
theorem lvls_len (ws : List Int) : ∀ (i : Nat) (l : List Int), (lvls ws i l).length = 3 * l.length
  | _, [] => rfl
  | i, n :: r => by rw [lvls, List.length_append, lvls_len ws (i + 1) r, List.length_cons, List.length_cons, List.length_cons, List.length_cons, List.length_nil]; omega
def headW (g : Gau) : List ByteArray := [w_nodes, decS g.nodes, w_leaves, decS g.leaves, w_height, decS g.height, w_rows, decS g.rows, w_msgs, decS g.msgs, w_bytes, decS g.bytes, w_empty, decS g.empty]
def lineW (g : Gau) : List ByteArray := headW g ++ lvls g.waits 0 g.levels
theorem joined_few (l : List ByteArray) (h4 : l.length ≤ 100000) (h : ∀ x, x ∈ l → x.size ≤ 1000) : (Lib.join (l.map (·.data.toList)) (⟨#[32]⟩ : ByteArray).data.toList).length ≤ 140737488355328 := by
  have h1 := join_len (⟨#[32]⟩ : ByteArray).data.toList (l.map (·.data.toList))
  have h2 : ∀ l : List ByteArray, (∀ x, x ∈ l → x.size ≤ 1000) → ((l.map (·.data.toList)).map fun x => x.length + 1).sum ≤ l.length * 1001 := by
    intro l
    induction l with
    | nil => intro _; simp
    | cons y r ih =>
      intro hx
      have a := ih (fun x hxm => hx x (List.mem_cons_of_mem _ hxm))
      have b := hx y (List.mem_cons_self ..)
      have c : y.data.toList.length = y.size := by rw [Array.length_toList]; rfl
      simp only [List.map_cons, List.sum_cons, List.length_cons]
      rw [c]
      omega
  have h3 := h2 l h
  have e : (fun x : List UInt8 => x.length + (⟨#[32]⟩ : ByteArray).data.toList.length) = fun x => x.length + 1 := rfl
  rw [e] at h1
  have : l.length * 1001 ≤ 100000 * 1001 := Nat.mul_le_mul_right _ h4
  omega
theorem decS_few {n : Int} (h : inI n) : (decS n).size ≤ 1000 := by
  have := Lib.itoa_length_le n h.1 h.2
  rw [decS_size]; omega
theorem waitN_in {ws : List Int} (h : ∀ x, x ∈ ws → inI x) (i : Nat) : inI (waitN ws i) := by
  unfold waitN
  cases hw : ws[i]? with
  | none => exact ⟨by decide, by decide⟩
  | some x => exact h x (List.mem_of_getElem? hw)
theorem lvls_few {ws : List Int} (hw : ∀ x, x ∈ ws → inI x) : ∀ (i : Nat) (l : List Int), (∀ x, x ∈ l → inI x) → ∀ x, x ∈ lvls ws i l → x.size ≤ 1000
  | _, [], _, x, hx => by cases hx
  | i, n :: r, hl, x, hx => by
    rw [lvls] at hx
    rcases List.mem_append.1 hx with h | h
    · simp only [List.mem_cons, List.not_mem_nil, or_false] at h
      rcases h with rfl | rfl | rfl
      · decide
      · exact decS_few (hl n (List.mem_cons_self ..))
      · exact decS_few (waitN_in hw i)
    · exact lvls_few hw (i + 1) r (fun y hy => hl y (List.mem_cons_of_mem _ hy)) x h
structure Gau.fits (g : Gau) : Prop where
  nodes : inI g.nodes
  leaves : inI g.leaves
  height : inI g.height
  rows : inI g.rows
  msgs : inI g.msgs
  bytes : inI g.bytes
  empty : inI g.empty
  levels : ∀ x, x ∈ g.levels → inI x
  waits : ∀ x, x ∈ g.waits → inI x
  ll : g.levels.length ≤ 1000
  lw : g.waits.length ≤ 1000
theorem headW_few {g : Gau} (h : g.fits) : ∀ x, x ∈ headW g → x.size ≤ 1000 := by
  intro x hx
  unfold headW at hx
  simp only [List.mem_cons, List.not_mem_nil, or_false] at hx
  rcases hx with rfl | rfl | rfl | rfl | rfl | rfl | rfl | rfl | rfl | rfl | rfl | rfl | rfl | rfl
  · decide
  · exact decS_few h.nodes
  · decide
  · exact decS_few h.leaves
  · decide
  · exact decS_few h.height
  · decide
  · exact decS_few h.rows
  · decide
  · exact decS_few h.msgs
  · decide
  · exact decS_few h.bytes
  · decide
  · exact decS_few h.empty
def glI (g : Gau) (F : List ByteArray) (k : Nat) (σ : St) : Prop :=
  ∃ (i : Nat) (l : List ByteArray), i ≤ g.levels.length ∧ k = g.levels.length - i ∧ l ++ lvls g.waits i (g.levels.drop i) = F ∧ LnF g l σ ∧ σ.T 45 = .sl (g.levels.map (AV.int .i64)) ∧ σ.T 46 = .int .i64 g.levels.length ∧ σ.T 47 = .int .i64 i
set_option maxHeartbeats 8000000 in
theorem gl_loop (g : Gau) (hf : g.fits) (F : List ByteArray) (hF : F.length ≤ 10000) (Q : XK → St → Prop) (hEnd : ∀ σ, LnF g F σ → Q (.exit 0) σ) (k : Nat) (σ : St) (hI : glI g F k σ) :
    run (AFn Tryd.prog) (r_gLn_l18 Tryd.prog) (thenQ (fun σ' => ∃ m, m < k ∧ glI g F m σ') Q) σ := by
  obtain ⟨i, l, hi, rfl, hFe, ⟨t1, h1, t4, t3, ⟨u, hu, p1, p2, p3⟩, no⟩, t45, t46, t47⟩ := hI
  have hll := hf.ll
  simp only [r_gLn_l18]
  by_cases hlt : i < g.levels.length
  case neg =>
    have hlt' : ¬ (i : Int) < (g.levels.length : Int) := by omega
    have e : g.levels.drop i = [] := List.drop_eq_nil_of_le (by omega)
    rw [e, lvls, List.append_nil] at hFe
    subst hFe
    simp (maxSteps := 4000000) only [go_sem, ↓reduceIte, reduceCtorEq, Nat.reduceEqDiff, Nat.reduceBEq, Nat.reduceAdd, Nat.reduceSub, Nat.reduceMul, Nat.reduceLT, Nat.reduceLeDiff, Nat.reduceBNe, Int.reduceBEq, Int.reduceBNe, Int.reduceLT, Int.reduceLE, evG, evP, Nat.reduceMod, Nat.reduceDiv, Nat.reduceSub, Nat.reduceLeDiff, Nat.reduceMul, Nat.reduceAdd, idxPrv, Option.isSome_some, Option.isSome_none, Option.getD_some, t46, t47, hlt']
    refine hEnd _ ⟨?_, ?_, ?_, ?_, ⟨u, hu, ?_, ?_, ?_⟩, ?_⟩
    · simp (maxSteps := 4000000) only [go_sem, ↓reduceIte, reduceCtorEq, Nat.reduceEqDiff, Nat.reduceBEq, Nat.reduceAdd, Nat.reduceSub, Nat.reduceMul, Nat.reduceLT, Nat.reduceLeDiff, Nat.reduceBNe, Int.reduceBEq, Int.reduceBNe, Int.reduceLT, Int.reduceLE, evG, evP, Nat.reduceMod, Nat.reduceDiv, Nat.reduceSub, Nat.reduceLeDiff, Nat.reduceMul, Nat.reduceAdd, idxPrv, Option.isSome_some, Option.isSome_none, Option.getD_some, t1]
    · simp (maxSteps := 4000000) only [go_sem, ↓reduceIte, reduceCtorEq, Nat.reduceEqDiff, Nat.reduceBEq, Nat.reduceAdd, Nat.reduceSub, Nat.reduceMul, Nat.reduceLT, Nat.reduceLeDiff, Nat.reduceBNe, Int.reduceBEq, Int.reduceBNe, Int.reduceLT, Int.reduceLE, evG, evP, Nat.reduceMod, Nat.reduceDiv, Nat.reduceSub, Nat.reduceLeDiff, Nat.reduceMul, Nat.reduceAdd, idxPrv, Option.isSome_some, Option.isSome_none, Option.getD_some, h1]
    · simp (maxSteps := 4000000) only [go_sem, ↓reduceIte, reduceCtorEq, Nat.reduceEqDiff, Nat.reduceBEq, Nat.reduceAdd, Nat.reduceSub, Nat.reduceMul, Nat.reduceLT, Nat.reduceLeDiff, Nat.reduceBNe, Int.reduceBEq, Int.reduceBNe, Int.reduceLT, Int.reduceLE, evG, evP, Nat.reduceMod, Nat.reduceDiv, Nat.reduceSub, Nat.reduceLeDiff, Nat.reduceMul, Nat.reduceAdd, idxPrv, Option.isSome_some, Option.isSome_none, Option.getD_some, t4]
    · simp (maxSteps := 4000000) only [go_sem, ↓reduceIte, reduceCtorEq, Nat.reduceEqDiff, Nat.reduceBEq, Nat.reduceAdd, Nat.reduceSub, Nat.reduceMul, Nat.reduceLT, Nat.reduceLeDiff, Nat.reduceBNe, Int.reduceBEq, Int.reduceBNe, Int.reduceLT, Int.reduceLE, evG, evP, Nat.reduceMod, Nat.reduceDiv, Nat.reduceSub, Nat.reduceLeDiff, Nat.reduceMul, Nat.reduceAdd, idxPrv, Option.isSome_some, Option.isSome_none, Option.getD_some, t3]
    · simp (maxSteps := 4000000) only [go_sem, ↓reduceIte, reduceCtorEq, Nat.reduceEqDiff, Nat.reduceBEq, Nat.reduceAdd, Nat.reduceSub, Nat.reduceMul, Nat.reduceLT, Nat.reduceLeDiff, Nat.reduceBNe, Int.reduceBEq, Int.reduceBNe, Int.reduceLT, Int.reduceLE, evG, evP, Nat.reduceMod, Nat.reduceDiv, Nat.reduceSub, Nat.reduceLeDiff, Nat.reduceMul, Nat.reduceAdd, idxPrv, Option.isSome_some, Option.isSome_none, Option.getD_some, p1]
    · simp (maxSteps := 4000000) only [go_sem, ↓reduceIte, reduceCtorEq, Nat.reduceEqDiff, Nat.reduceBEq, Nat.reduceAdd, Nat.reduceSub, Nat.reduceMul, Nat.reduceLT, Nat.reduceLeDiff, Nat.reduceBNe, Int.reduceBEq, Int.reduceBNe, Int.reduceLT, Int.reduceLE, evG, evP, Nat.reduceMod, Nat.reduceDiv, Nat.reduceSub, Nat.reduceLeDiff, Nat.reduceMul, Nat.reduceAdd, idxPrv, Option.isSome_some, Option.isSome_none, Option.getD_some, p2]
    · simp (maxSteps := 4000000) only [go_sem, ↓reduceIte, reduceCtorEq, Nat.reduceEqDiff, Nat.reduceBEq, Nat.reduceAdd, Nat.reduceSub, Nat.reduceMul, Nat.reduceLT, Nat.reduceLeDiff, Nat.reduceBNe, Int.reduceBEq, Int.reduceBNe, Int.reduceLT, Int.reduceLE, evG, evP, Nat.reduceMod, Nat.reduceDiv, Nat.reduceSub, Nat.reduceLeDiff, Nat.reduceMul, Nat.reduceAdd, idxPrv, Option.isSome_some, Option.isSome_none, Option.getD_some, p3]
    · intro s hs
      have h0 := no s hs
      simp (maxSteps := 4000000) only [go_sem, ↓reduceIte, reduceCtorEq, Nat.reduceEqDiff, Nat.reduceBEq, Nat.reduceAdd, Nat.reduceSub, Nat.reduceMul, Nat.reduceLT, Nat.reduceLeDiff, Nat.reduceBNe, Int.reduceBEq, Int.reduceBNe, Int.reduceLT, Int.reduceLE, evG, evP, Nat.reduceMod, Nat.reduceDiv, Nat.reduceSub, Nat.reduceLeDiff, Nat.reduceMul, Nat.reduceAdd, idxPrv, Option.isSome_some, Option.isSome_none, Option.getD_some, h0]
  have hlt' : (i : Int) < (g.levels.length : Int) := by omega
  obtain ⟨x, hx⟩ := get_lt hlt
  have hgx := at_map (f := AV.int .i64) hx
  have dk : g.levels.drop i = x :: g.levels.drop (i + 1) := by rw [List.drop_eq_getElem_cons hlt, (List.getElem?_eq_some_iff.1 hx).2]
  rw [dk, lvls] at hFe
  have hlen := congrArg List.length hFe
  simp only [List.length_append, List.length_cons, List.length_nil] at hlen
  have hw := wrapS (j := i) (by omega)
  have hix : ∀ y, y ∈ [x, waitN g.waits i] → inI y := fun y hy => by
    simp only [List.mem_cons, List.not_mem_nil, or_false] at hy
    rcases hy with rfl | rfl
    · exact hf.levels _ (List.mem_of_getElem? hx)
    · exact waitN_in hf.waits i
  have hc := addG_ok w_level [x, waitN g.waits i] l u hu (by omega) (by simp) hix
  unfold w_level at hc
  simp only [List.map_cons, List.map_nil] at hc
  unfold gauC at h1
  have fin : ∀ (σ' : St) (u2 : Value), u2.oneCell' = true → σ'.T 1 = .ptr 1 0 0 → σ'.H 1 = some ⟨9, 37, [.agg (gauC g)], 0⟩ → σ'.T 4 = .clom 23 3 → σ'.T 3 = .ptr 3 0 0 → σ'.T 1300 = .vrs 524 0 (l ++ [w_level, decS x, decS (waitN g.waits i)]).length u2 → σ'.H 524 = some ⟨1, 9, (l ++ [w_level, decS x, decS (waitN g.waits i)]).map AV.str, 0⟩ → σ'.H 3 = some ⟨1, 29, [.cst u2], 0⟩ → (∀ s, s ∈ [525, 526, 527, 528, 529, 530, 531] → σ'.H s = none) → σ'.T 45 = .sl (g.levels.map (AV.int .i64)) → σ'.T 46 = .int .i64 g.levels.length → σ'.T 47 = .int .i64 ((i + 1 : Nat) : Int) → ∃ m, m < g.levels.length - i ∧ glI g F m σ' := fun σ' u2 hu2 a1 a2 a3 a4 a5 a6 a7 a8 a9 b1 b2 =>
    ⟨g.levels.length - (i + 1), by omega, i + 1, l ++ [w_level, decS x, decS (waitN g.waits i)], by omega, rfl, by rw [List.append_assoc]; exact hFe, ⟨a1, a2, a3, a4, ⟨u2, hu2, a5, a6, a7⟩, a8⟩, a9, b1, b2⟩
  have hno := fun s hs => no s hs
  by_cases hwt : i < g.waits.length
  · have hwt' : (i : Int) < (g.waits.length : Int) := by omega
    obtain ⟨y, hy⟩ := get_lt hwt
    have hgy := at_map (f := AV.int .i64) hy
    have ew : waitN g.waits i = y := by unfold waitN; rw [hy]; rfl
    rw [ew] at hc fin
    simp (maxSteps := 4000000) only [go_sem, ↓reduceIte, reduceCtorEq, Nat.reduceEqDiff, Nat.reduceBEq, Nat.reduceAdd, Nat.reduceSub, Nat.reduceMul, Nat.reduceLT, Nat.reduceLeDiff, Nat.reduceBNe, Int.reduceBEq, Int.reduceBNe, Int.reduceLT, Int.reduceLE, evG, evP, Nat.reduceMod, Nat.reduceDiv, Nat.reduceSub, Nat.reduceLeDiff, Nat.reduceMul, Nat.reduceAdd, idxPrv, Option.isSome_some, Option.isSome_none, Option.getD_some, t1, h1, t4, t45, t46, t47, hlt', hlt, hgx, hwt', hwt, hgy, List.length_map, Int.toNat_natCast]
    (repeat refine And.intro (by omega) ?_)
    refine ⟨.inl trivial, ?_⟩
    refine gcalling hc (ptsIn (u := u) ?_ ?_ ?_ ?_) ?_
    · simp (maxSteps := 4000000) only [go_sem, ↓reduceIte, reduceCtorEq, Nat.reduceEqDiff, Nat.reduceBEq, Nat.reduceAdd, Nat.reduceSub, Nat.reduceMul, Nat.reduceLT, Nat.reduceLeDiff, Nat.reduceBNe, Int.reduceBEq, Int.reduceBNe, Int.reduceLT, Int.reduceLE, evG, evP, Nat.reduceMod, Nat.reduceDiv, Nat.reduceSub, Nat.reduceLeDiff, Nat.reduceMul, Nat.reduceAdd, idxPrv, Option.isSome_some, Option.isSome_none, Option.getD_some, p3]
    · simp (maxSteps := 4000000) only [go_sem, ↓reduceIte, reduceCtorEq, Nat.reduceEqDiff, Nat.reduceBEq, Nat.reduceAdd, Nat.reduceSub, Nat.reduceMul, Nat.reduceLT, Nat.reduceLeDiff, Nat.reduceBNe, Int.reduceBEq, Int.reduceBNe, Int.reduceLT, Int.reduceLE, evG, evP, Nat.reduceMod, Nat.reduceDiv, Nat.reduceSub, Nat.reduceLeDiff, Nat.reduceMul, Nat.reduceAdd, idxPrv, Option.isSome_some, Option.isSome_none, Option.getD_some, p1]
    · simp (maxSteps := 4000000) only [go_sem, ↓reduceIte, reduceCtorEq, Nat.reduceEqDiff, Nat.reduceBEq, Nat.reduceAdd, Nat.reduceSub, Nat.reduceMul, Nat.reduceLT, Nat.reduceLeDiff, Nat.reduceBNe, Int.reduceBEq, Int.reduceBNe, Int.reduceLT, Int.reduceLE, evG, evP, Nat.reduceMod, Nat.reduceDiv, Nat.reduceSub, Nat.reduceLeDiff, Nat.reduceMul, Nat.reduceAdd, idxPrv, Option.isSome_some, Option.isSome_none, Option.getD_some, p2]
    · intro s hs
      have h0 := hno s hs
      simp only [List.mem_cons, List.not_mem_nil, or_false] at hs
      rcases hs with rfl | rfl | rfl | rfl | rfl | rfl | rfl <;> (simp (maxSteps := 4000000) only [go_sem, ↓reduceIte, reduceCtorEq, Nat.reduceEqDiff, Nat.reduceBEq, Nat.reduceAdd, Nat.reduceSub, Nat.reduceMul, Nat.reduceLT, Nat.reduceLeDiff, Nat.reduceBNe, Int.reduceBEq, Int.reduceBNe, Int.reduceLT, Int.reduceLE, evG, evP, Nat.reduceMod, Nat.reduceDiv, Nat.reduceSub, Nat.reduceLeDiff, Nat.reduceMul, Nat.reduceAdd, idxPrv, Option.isSome_some, Option.isSome_none, Option.getD_some, h0])
    rintro S' ⟨u2, hu2, rfl⟩
    unfold ptsS
    simp (maxSteps := 4000000) only [go_sem, ↓reduceIte, reduceCtorEq, Nat.reduceEqDiff, Nat.reduceBEq, Nat.reduceAdd, Nat.reduceSub, Nat.reduceMul, Nat.reduceLT, Nat.reduceLeDiff, Nat.reduceBNe, Int.reduceBEq, Int.reduceBNe, Int.reduceLT, Int.reduceLE, evG, evP, Nat.reduceMod, Nat.reduceDiv, Nat.reduceSub, Nat.reduceLeDiff, Nat.reduceMul, Nat.reduceAdd, idxPrv, Option.isSome_some, Option.isSome_none, Option.getD_some, t47, hw]
    refine fin _ u2 hu2 ?_ ?_ ?_ ?_ ?_ ?_ ?_ ?_ ?_ ?_ ?_
    · simp (maxSteps := 4000000) only [go_sem, ↓reduceIte, reduceCtorEq, Nat.reduceEqDiff, Nat.reduceBEq, Nat.reduceAdd, Nat.reduceSub, Nat.reduceMul, Nat.reduceLT, Nat.reduceLeDiff, Nat.reduceBNe, Int.reduceBEq, Int.reduceBNe, Int.reduceLT, Int.reduceLE, evG, evP, Nat.reduceMod, Nat.reduceDiv, Nat.reduceSub, Nat.reduceLeDiff, Nat.reduceMul, Nat.reduceAdd, idxPrv, Option.isSome_some, Option.isSome_none, Option.getD_some, t1]
    · (simp (maxSteps := 4000000) only [go_sem, ↓reduceIte, reduceCtorEq, Nat.reduceEqDiff, Nat.reduceBEq, Nat.reduceAdd, Nat.reduceSub, Nat.reduceMul, Nat.reduceLT, Nat.reduceLeDiff, Nat.reduceBNe, Int.reduceBEq, Int.reduceBNe, Int.reduceLT, Int.reduceLE, evG, evP, Nat.reduceMod, Nat.reduceDiv, Nat.reduceSub, Nat.reduceLeDiff, Nat.reduceMul, Nat.reduceAdd, idxPrv, Option.isSome_some, Option.isSome_none, Option.getD_some, h1]) <;> rfl
    · simp (maxSteps := 4000000) only [go_sem, ↓reduceIte, reduceCtorEq, Nat.reduceEqDiff, Nat.reduceBEq, Nat.reduceAdd, Nat.reduceSub, Nat.reduceMul, Nat.reduceLT, Nat.reduceLeDiff, Nat.reduceBNe, Int.reduceBEq, Int.reduceBNe, Int.reduceLT, Int.reduceLE, evG, evP, Nat.reduceMod, Nat.reduceDiv, Nat.reduceSub, Nat.reduceLeDiff, Nat.reduceMul, Nat.reduceAdd, idxPrv, Option.isSome_some, Option.isSome_none, Option.getD_some, t4]
    · simp (maxSteps := 4000000) only [go_sem, ↓reduceIte, reduceCtorEq, Nat.reduceEqDiff, Nat.reduceBEq, Nat.reduceAdd, Nat.reduceSub, Nat.reduceMul, Nat.reduceLT, Nat.reduceLeDiff, Nat.reduceBNe, Int.reduceBEq, Int.reduceBNe, Int.reduceLT, Int.reduceLE, evG, evP, Nat.reduceMod, Nat.reduceDiv, Nat.reduceSub, Nat.reduceLeDiff, Nat.reduceMul, Nat.reduceAdd, idxPrv, Option.isSome_some, Option.isSome_none, Option.getD_some, t3]
    · (simp (maxSteps := 4000000) only [go_sem, ↓reduceIte, reduceCtorEq, Nat.reduceEqDiff, Nat.reduceBEq, Nat.reduceAdd, Nat.reduceSub, Nat.reduceMul, Nat.reduceLT, Nat.reduceLeDiff, Nat.reduceBNe, Int.reduceBEq, Int.reduceBNe, Int.reduceLT, Int.reduceLE, evG, evP, Nat.reduceMod, Nat.reduceDiv, Nat.reduceSub, Nat.reduceLeDiff, Nat.reduceMul, Nat.reduceAdd, idxPrv, Option.isSome_some, Option.isSome_none, Option.getD_some]) <;> rfl
    · (simp (maxSteps := 4000000) only [go_sem, ↓reduceIte, reduceCtorEq, Nat.reduceEqDiff, Nat.reduceBEq, Nat.reduceAdd, Nat.reduceSub, Nat.reduceMul, Nat.reduceLT, Nat.reduceLeDiff, Nat.reduceBNe, Int.reduceBEq, Int.reduceBNe, Int.reduceLT, Int.reduceLE, evG, evP, Nat.reduceMod, Nat.reduceDiv, Nat.reduceSub, Nat.reduceLeDiff, Nat.reduceMul, Nat.reduceAdd, idxPrv, Option.isSome_some, Option.isSome_none, Option.getD_some]) <;> rfl
    · (simp (maxSteps := 4000000) only [go_sem, ↓reduceIte, reduceCtorEq, Nat.reduceEqDiff, Nat.reduceBEq, Nat.reduceAdd, Nat.reduceSub, Nat.reduceMul, Nat.reduceLT, Nat.reduceLeDiff, Nat.reduceBNe, Int.reduceBEq, Int.reduceBNe, Int.reduceLT, Int.reduceLE, evG, evP, Nat.reduceMod, Nat.reduceDiv, Nat.reduceSub, Nat.reduceLeDiff, Nat.reduceMul, Nat.reduceAdd, idxPrv, Option.isSome_some, Option.isSome_none, Option.getD_some]) <;> rfl
    · intro s hs
      simp only [List.mem_cons, List.not_mem_nil, or_false] at hs
      rcases hs with rfl | rfl | rfl | rfl | rfl | rfl | rfl <;> (simp (maxSteps := 4000000) only [go_sem, ↓reduceIte, reduceCtorEq, Nat.reduceEqDiff, Nat.reduceBEq, Nat.reduceAdd, Nat.reduceSub, Nat.reduceMul, Nat.reduceLT, Nat.reduceLeDiff, Nat.reduceBNe, Int.reduceBEq, Int.reduceBNe, Int.reduceLT, Int.reduceLE, evG, evP, Nat.reduceMod, Nat.reduceDiv, Nat.reduceSub, Nat.reduceLeDiff, Nat.reduceMul, Nat.reduceAdd, idxPrv, Option.isSome_some, Option.isSome_none, Option.getD_some])
    · simp (maxSteps := 4000000) only [go_sem, ↓reduceIte, reduceCtorEq, Nat.reduceEqDiff, Nat.reduceBEq, Nat.reduceAdd, Nat.reduceSub, Nat.reduceMul, Nat.reduceLT, Nat.reduceLeDiff, Nat.reduceBNe, Int.reduceBEq, Int.reduceBNe, Int.reduceLT, Int.reduceLE, evG, evP, Nat.reduceMod, Nat.reduceDiv, Nat.reduceSub, Nat.reduceLeDiff, Nat.reduceMul, Nat.reduceAdd, idxPrv, Option.isSome_some, Option.isSome_none, Option.getD_some, t45]
    · simp (maxSteps := 4000000) only [go_sem, ↓reduceIte, reduceCtorEq, Nat.reduceEqDiff, Nat.reduceBEq, Nat.reduceAdd, Nat.reduceSub, Nat.reduceMul, Nat.reduceLT, Nat.reduceLeDiff, Nat.reduceBNe, Int.reduceBEq, Int.reduceBNe, Int.reduceLT, Int.reduceLE, evG, evP, Nat.reduceMod, Nat.reduceDiv, Nat.reduceSub, Nat.reduceLeDiff, Nat.reduceMul, Nat.reduceAdd, idxPrv, Option.isSome_some, Option.isSome_none, Option.getD_some, t46]
    · simp (maxSteps := 4000000) only [go_sem, ↓reduceIte, reduceCtorEq, Nat.reduceEqDiff, Nat.reduceBEq, Nat.reduceAdd, Nat.reduceSub, Nat.reduceMul, Nat.reduceLT, Nat.reduceLeDiff, Nat.reduceBNe, Int.reduceBEq, Int.reduceBNe, Int.reduceLT, Int.reduceLE, evG, evP, Nat.reduceMod, Nat.reduceDiv, Nat.reduceSub, Nat.reduceLeDiff, Nat.reduceMul, Nat.reduceAdd, idxPrv, Option.isSome_some, Option.isSome_none, Option.getD_some]
  · have hwt' : ¬ (i : Int) < (g.waits.length : Int) := by omega
    have ew : waitN g.waits i = 0 := by unfold waitN; rw [List.getElem?_eq_none (by omega)]; rfl
    rw [ew] at hc fin
    simp (maxSteps := 4000000) only [go_sem, ↓reduceIte, reduceCtorEq, Nat.reduceEqDiff, Nat.reduceBEq, Nat.reduceAdd, Nat.reduceSub, Nat.reduceMul, Nat.reduceLT, Nat.reduceLeDiff, Nat.reduceBNe, Int.reduceBEq, Int.reduceBNe, Int.reduceLT, Int.reduceLE, evG, evP, Nat.reduceMod, Nat.reduceDiv, Nat.reduceSub, Nat.reduceLeDiff, Nat.reduceMul, Nat.reduceAdd, idxPrv, Option.isSome_some, Option.isSome_none, Option.getD_some, t1, h1, t4, t45, t46, t47, hlt', hlt, hgx, hwt', List.length_map, Int.toNat_natCast]
    (repeat refine And.intro (by omega) ?_)
    refine ⟨.inl trivial, ?_⟩
    refine gcalling hc (ptsIn (u := u) ?_ ?_ ?_ ?_) ?_
    · simp (maxSteps := 4000000) only [go_sem, ↓reduceIte, reduceCtorEq, Nat.reduceEqDiff, Nat.reduceBEq, Nat.reduceAdd, Nat.reduceSub, Nat.reduceMul, Nat.reduceLT, Nat.reduceLeDiff, Nat.reduceBNe, Int.reduceBEq, Int.reduceBNe, Int.reduceLT, Int.reduceLE, evG, evP, Nat.reduceMod, Nat.reduceDiv, Nat.reduceSub, Nat.reduceLeDiff, Nat.reduceMul, Nat.reduceAdd, idxPrv, Option.isSome_some, Option.isSome_none, Option.getD_some, p3]
    · simp (maxSteps := 4000000) only [go_sem, ↓reduceIte, reduceCtorEq, Nat.reduceEqDiff, Nat.reduceBEq, Nat.reduceAdd, Nat.reduceSub, Nat.reduceMul, Nat.reduceLT, Nat.reduceLeDiff, Nat.reduceBNe, Int.reduceBEq, Int.reduceBNe, Int.reduceLT, Int.reduceLE, evG, evP, Nat.reduceMod, Nat.reduceDiv, Nat.reduceSub, Nat.reduceLeDiff, Nat.reduceMul, Nat.reduceAdd, idxPrv, Option.isSome_some, Option.isSome_none, Option.getD_some, p1]
    · simp (maxSteps := 4000000) only [go_sem, ↓reduceIte, reduceCtorEq, Nat.reduceEqDiff, Nat.reduceBEq, Nat.reduceAdd, Nat.reduceSub, Nat.reduceMul, Nat.reduceLT, Nat.reduceLeDiff, Nat.reduceBNe, Int.reduceBEq, Int.reduceBNe, Int.reduceLT, Int.reduceLE, evG, evP, Nat.reduceMod, Nat.reduceDiv, Nat.reduceSub, Nat.reduceLeDiff, Nat.reduceMul, Nat.reduceAdd, idxPrv, Option.isSome_some, Option.isSome_none, Option.getD_some, p2]
    · intro s hs
      have h0 := hno s hs
      simp only [List.mem_cons, List.not_mem_nil, or_false] at hs
      rcases hs with rfl | rfl | rfl | rfl | rfl | rfl | rfl <;> (simp (maxSteps := 4000000) only [go_sem, ↓reduceIte, reduceCtorEq, Nat.reduceEqDiff, Nat.reduceBEq, Nat.reduceAdd, Nat.reduceSub, Nat.reduceMul, Nat.reduceLT, Nat.reduceLeDiff, Nat.reduceBNe, Int.reduceBEq, Int.reduceBNe, Int.reduceLT, Int.reduceLE, evG, evP, Nat.reduceMod, Nat.reduceDiv, Nat.reduceSub, Nat.reduceLeDiff, Nat.reduceMul, Nat.reduceAdd, idxPrv, Option.isSome_some, Option.isSome_none, Option.getD_some, h0])
    rintro S' ⟨u2, hu2, rfl⟩
    unfold ptsS
    simp (maxSteps := 4000000) only [go_sem, ↓reduceIte, reduceCtorEq, Nat.reduceEqDiff, Nat.reduceBEq, Nat.reduceAdd, Nat.reduceSub, Nat.reduceMul, Nat.reduceLT, Nat.reduceLeDiff, Nat.reduceBNe, Int.reduceBEq, Int.reduceBNe, Int.reduceLT, Int.reduceLE, evG, evP, Nat.reduceMod, Nat.reduceDiv, Nat.reduceSub, Nat.reduceLeDiff, Nat.reduceMul, Nat.reduceAdd, idxPrv, Option.isSome_some, Option.isSome_none, Option.getD_some, t47, hw]
    refine fin _ u2 hu2 ?_ ?_ ?_ ?_ ?_ ?_ ?_ ?_ ?_ ?_ ?_
    · simp (maxSteps := 4000000) only [go_sem, ↓reduceIte, reduceCtorEq, Nat.reduceEqDiff, Nat.reduceBEq, Nat.reduceAdd, Nat.reduceSub, Nat.reduceMul, Nat.reduceLT, Nat.reduceLeDiff, Nat.reduceBNe, Int.reduceBEq, Int.reduceBNe, Int.reduceLT, Int.reduceLE, evG, evP, Nat.reduceMod, Nat.reduceDiv, Nat.reduceSub, Nat.reduceLeDiff, Nat.reduceMul, Nat.reduceAdd, idxPrv, Option.isSome_some, Option.isSome_none, Option.getD_some, t1]
    · (simp (maxSteps := 4000000) only [go_sem, ↓reduceIte, reduceCtorEq, Nat.reduceEqDiff, Nat.reduceBEq, Nat.reduceAdd, Nat.reduceSub, Nat.reduceMul, Nat.reduceLT, Nat.reduceLeDiff, Nat.reduceBNe, Int.reduceBEq, Int.reduceBNe, Int.reduceLT, Int.reduceLE, evG, evP, Nat.reduceMod, Nat.reduceDiv, Nat.reduceSub, Nat.reduceLeDiff, Nat.reduceMul, Nat.reduceAdd, idxPrv, Option.isSome_some, Option.isSome_none, Option.getD_some, h1]) <;> rfl
    · simp (maxSteps := 4000000) only [go_sem, ↓reduceIte, reduceCtorEq, Nat.reduceEqDiff, Nat.reduceBEq, Nat.reduceAdd, Nat.reduceSub, Nat.reduceMul, Nat.reduceLT, Nat.reduceLeDiff, Nat.reduceBNe, Int.reduceBEq, Int.reduceBNe, Int.reduceLT, Int.reduceLE, evG, evP, Nat.reduceMod, Nat.reduceDiv, Nat.reduceSub, Nat.reduceLeDiff, Nat.reduceMul, Nat.reduceAdd, idxPrv, Option.isSome_some, Option.isSome_none, Option.getD_some, t4]
    · simp (maxSteps := 4000000) only [go_sem, ↓reduceIte, reduceCtorEq, Nat.reduceEqDiff, Nat.reduceBEq, Nat.reduceAdd, Nat.reduceSub, Nat.reduceMul, Nat.reduceLT, Nat.reduceLeDiff, Nat.reduceBNe, Int.reduceBEq, Int.reduceBNe, Int.reduceLT, Int.reduceLE, evG, evP, Nat.reduceMod, Nat.reduceDiv, Nat.reduceSub, Nat.reduceLeDiff, Nat.reduceMul, Nat.reduceAdd, idxPrv, Option.isSome_some, Option.isSome_none, Option.getD_some, t3]
    · (simp (maxSteps := 4000000) only [go_sem, ↓reduceIte, reduceCtorEq, Nat.reduceEqDiff, Nat.reduceBEq, Nat.reduceAdd, Nat.reduceSub, Nat.reduceMul, Nat.reduceLT, Nat.reduceLeDiff, Nat.reduceBNe, Int.reduceBEq, Int.reduceBNe, Int.reduceLT, Int.reduceLE, evG, evP, Nat.reduceMod, Nat.reduceDiv, Nat.reduceSub, Nat.reduceLeDiff, Nat.reduceMul, Nat.reduceAdd, idxPrv, Option.isSome_some, Option.isSome_none, Option.getD_some]) <;> rfl
    · (simp (maxSteps := 4000000) only [go_sem, ↓reduceIte, reduceCtorEq, Nat.reduceEqDiff, Nat.reduceBEq, Nat.reduceAdd, Nat.reduceSub, Nat.reduceMul, Nat.reduceLT, Nat.reduceLeDiff, Nat.reduceBNe, Int.reduceBEq, Int.reduceBNe, Int.reduceLT, Int.reduceLE, evG, evP, Nat.reduceMod, Nat.reduceDiv, Nat.reduceSub, Nat.reduceLeDiff, Nat.reduceMul, Nat.reduceAdd, idxPrv, Option.isSome_some, Option.isSome_none, Option.getD_some]) <;> rfl
    · (simp (maxSteps := 4000000) only [go_sem, ↓reduceIte, reduceCtorEq, Nat.reduceEqDiff, Nat.reduceBEq, Nat.reduceAdd, Nat.reduceSub, Nat.reduceMul, Nat.reduceLT, Nat.reduceLeDiff, Nat.reduceBNe, Int.reduceBEq, Int.reduceBNe, Int.reduceLT, Int.reduceLE, evG, evP, Nat.reduceMod, Nat.reduceDiv, Nat.reduceSub, Nat.reduceLeDiff, Nat.reduceMul, Nat.reduceAdd, idxPrv, Option.isSome_some, Option.isSome_none, Option.getD_some]) <;> rfl
    · intro s hs
      simp only [List.mem_cons, List.not_mem_nil, or_false] at hs
      rcases hs with rfl | rfl | rfl | rfl | rfl | rfl | rfl <;> (simp (maxSteps := 4000000) only [go_sem, ↓reduceIte, reduceCtorEq, Nat.reduceEqDiff, Nat.reduceBEq, Nat.reduceAdd, Nat.reduceSub, Nat.reduceMul, Nat.reduceLT, Nat.reduceLeDiff, Nat.reduceBNe, Int.reduceBEq, Int.reduceBNe, Int.reduceLT, Int.reduceLE, evG, evP, Nat.reduceMod, Nat.reduceDiv, Nat.reduceSub, Nat.reduceLeDiff, Nat.reduceMul, Nat.reduceAdd, idxPrv, Option.isSome_some, Option.isSome_none, Option.getD_some])
    · simp (maxSteps := 4000000) only [go_sem, ↓reduceIte, reduceCtorEq, Nat.reduceEqDiff, Nat.reduceBEq, Nat.reduceAdd, Nat.reduceSub, Nat.reduceMul, Nat.reduceLT, Nat.reduceLeDiff, Nat.reduceBNe, Int.reduceBEq, Int.reduceBNe, Int.reduceLT, Int.reduceLE, evG, evP, Nat.reduceMod, Nat.reduceDiv, Nat.reduceSub, Nat.reduceLeDiff, Nat.reduceMul, Nat.reduceAdd, idxPrv, Option.isSome_some, Option.isSome_none, Option.getD_some, t45]
    · simp (maxSteps := 4000000) only [go_sem, ↓reduceIte, reduceCtorEq, Nat.reduceEqDiff, Nat.reduceBEq, Nat.reduceAdd, Nat.reduceSub, Nat.reduceMul, Nat.reduceLT, Nat.reduceLeDiff, Nat.reduceBNe, Int.reduceBEq, Int.reduceBNe, Int.reduceLT, Int.reduceLE, evG, evP, Nat.reduceMod, Nat.reduceDiv, Nat.reduceSub, Nat.reduceLeDiff, Nat.reduceMul, Nat.reduceAdd, idxPrv, Option.isSome_some, Option.isSome_none, Option.getD_some, t46]
    · simp (maxSteps := 4000000) only [go_sem, ↓reduceIte, reduceCtorEq, Nat.reduceEqDiff, Nat.reduceBEq, Nat.reduceAdd, Nat.reduceSub, Nat.reduceMul, Nat.reduceLT, Nat.reduceLeDiff, Nat.reduceBNe, Int.reduceBEq, Int.reduceBNe, Int.reduceLT, Int.reduceLE, evG, evP, Nat.reduceMod, Nat.reduceDiv, Nat.reduceSub, Nat.reduceLeDiff, Nat.reduceMul, Nat.reduceAdd, idxPrv, Option.isSome_some, Option.isSome_none, Option.getD_some]
set_option maxHeartbeats 8000000 in
theorem gLn_ok (g : Gau) (hf : g.fits) : AFn Tryd.prog 13 [g.a] (.str (joinB (lineW g) ⟨#[32]⟩)) := by
  refine fn_gLn rfl ?_
  have hll := hf.ll
  have hW : (lineW g).length ≤ 10000 := by
    unfold lineW headW
    rw [List.length_append, lvls_len]
    simp only [List.length_cons, List.length_nil]
    omega
  have cj := join_ok (lineW g) ⟨#[32]⟩ (by omega) (joined_few _ (by omega) fun x hx => by
    rcases List.mem_append.1 hx with h | h
    · exact headW_few hf x h
    · exact lvls_few hf.waits 0 g.levels hf.levels x h)
  refine gl_start g _ _ fun σ0 L0 => ?_
  rw [run_seq]
  refine gl_nodes (by simp) hf.nodes _ σ0 L0 fun σ1 L1 => ?_
  rw [thenQ_normal, run_seq]
  refine gl_leaves (by simp) hf.leaves _ σ1 L1 fun σ2 L2 => ?_
  rw [thenQ_normal, run_seq]
  refine gl_height (by simp) hf.height _ σ2 L2 fun σ3 L3 => ?_
  rw [thenQ_normal, run_seq]
  refine gl_rows (by simp) hf.rows _ σ3 L3 fun σ4 L4 => ?_
  rw [thenQ_normal, run_seq]
  refine gl_msgs (by simp) hf.msgs _ σ4 L4 fun σ5 L5 => ?_
  rw [thenQ_normal, run_seq]
  refine gl_bytes (by simp) hf.bytes _ σ5 L5 fun σ6 L6 => ?_
  rw [thenQ_normal, run_seq]
  refine gl_empty (by simp) hf.empty _ σ6 L6 fun σ7 L7 => ?_
  rw [thenQ_normal]
  have e7 : [] ++ [w_nodes, decS g.nodes] ++ [w_leaves, decS g.leaves] ++ [w_height, decS g.height] ++ [w_rows, decS g.rows] ++ [w_msgs, decS g.msgs] ++ [w_bytes, decS g.bytes] ++ [w_empty, decS g.empty] = headW g := rfl
  rw [e7] at L7
  obtain ⟨t1, h1, t4, t3, ⟨u, hu, p1, p2, p3⟩, no⟩ := L7
  have h1' := h1
  unfold gauC at h1'
  have hno := fun s hs => no s hs
  clear L0 L1 L2 L3 L4 L5 L6
  generalize hF : lineW g = F at *
  simp (maxSteps := 4000000) only [go_sem, ↓reduceIte, reduceCtorEq, Nat.reduceEqDiff, Nat.reduceBEq, Nat.reduceAdd, Nat.reduceSub, Nat.reduceMul, Nat.reduceLT, Nat.reduceLeDiff, Nat.reduceBNe, Int.reduceBEq, Int.reduceBNe, Int.reduceLT, Int.reduceLE, evG, evP, Nat.reduceMod, Nat.reduceDiv, Nat.reduceSub, Nat.reduceLeDiff, Nat.reduceMul, Nat.reduceAdd, idxPrv, Option.isSome_some, Option.isSome_none, Option.getD_some, t1, h1', List.length_map]
  refine run_loop (glI g F) (k := g.levels.length) ⟨0, headW g, Nat.zero_le _, rfl, hF, ⟨?_, ?_, ?_, ?_, ⟨u, hu, ?_, ?_, ?_⟩, ?_⟩, ?_, ?_, ?_⟩ (gl_loop g hf F hW _ ?_)
  · simp (maxSteps := 4000000) only [go_sem, ↓reduceIte, reduceCtorEq, Nat.reduceEqDiff, Nat.reduceBEq, Nat.reduceAdd, Nat.reduceSub, Nat.reduceMul, Nat.reduceLT, Nat.reduceLeDiff, Nat.reduceBNe, Int.reduceBEq, Int.reduceBNe, Int.reduceLT, Int.reduceLE, evG, evP, Nat.reduceMod, Nat.reduceDiv, Nat.reduceSub, Nat.reduceLeDiff, Nat.reduceMul, Nat.reduceAdd, idxPrv, Option.isSome_some, Option.isSome_none, Option.getD_some, t1]
  · simp (maxSteps := 4000000) only [go_sem, ↓reduceIte, reduceCtorEq, Nat.reduceEqDiff, Nat.reduceBEq, Nat.reduceAdd, Nat.reduceSub, Nat.reduceMul, Nat.reduceLT, Nat.reduceLeDiff, Nat.reduceBNe, Int.reduceBEq, Int.reduceBNe, Int.reduceLT, Int.reduceLE, evG, evP, Nat.reduceMod, Nat.reduceDiv, Nat.reduceSub, Nat.reduceLeDiff, Nat.reduceMul, Nat.reduceAdd, idxPrv, Option.isSome_some, Option.isSome_none, Option.getD_some, h1]
  · simp (maxSteps := 4000000) only [go_sem, ↓reduceIte, reduceCtorEq, Nat.reduceEqDiff, Nat.reduceBEq, Nat.reduceAdd, Nat.reduceSub, Nat.reduceMul, Nat.reduceLT, Nat.reduceLeDiff, Nat.reduceBNe, Int.reduceBEq, Int.reduceBNe, Int.reduceLT, Int.reduceLE, evG, evP, Nat.reduceMod, Nat.reduceDiv, Nat.reduceSub, Nat.reduceLeDiff, Nat.reduceMul, Nat.reduceAdd, idxPrv, Option.isSome_some, Option.isSome_none, Option.getD_some, t4]
  · simp (maxSteps := 4000000) only [go_sem, ↓reduceIte, reduceCtorEq, Nat.reduceEqDiff, Nat.reduceBEq, Nat.reduceAdd, Nat.reduceSub, Nat.reduceMul, Nat.reduceLT, Nat.reduceLeDiff, Nat.reduceBNe, Int.reduceBEq, Int.reduceBNe, Int.reduceLT, Int.reduceLE, evG, evP, Nat.reduceMod, Nat.reduceDiv, Nat.reduceSub, Nat.reduceLeDiff, Nat.reduceMul, Nat.reduceAdd, idxPrv, Option.isSome_some, Option.isSome_none, Option.getD_some, t3]
  · simp (maxSteps := 4000000) only [go_sem, ↓reduceIte, reduceCtorEq, Nat.reduceEqDiff, Nat.reduceBEq, Nat.reduceAdd, Nat.reduceSub, Nat.reduceMul, Nat.reduceLT, Nat.reduceLeDiff, Nat.reduceBNe, Int.reduceBEq, Int.reduceBNe, Int.reduceLT, Int.reduceLE, evG, evP, Nat.reduceMod, Nat.reduceDiv, Nat.reduceSub, Nat.reduceLeDiff, Nat.reduceMul, Nat.reduceAdd, idxPrv, Option.isSome_some, Option.isSome_none, Option.getD_some, p1]
  · simp (maxSteps := 4000000) only [go_sem, ↓reduceIte, reduceCtorEq, Nat.reduceEqDiff, Nat.reduceBEq, Nat.reduceAdd, Nat.reduceSub, Nat.reduceMul, Nat.reduceLT, Nat.reduceLeDiff, Nat.reduceBNe, Int.reduceBEq, Int.reduceBNe, Int.reduceLT, Int.reduceLE, evG, evP, Nat.reduceMod, Nat.reduceDiv, Nat.reduceSub, Nat.reduceLeDiff, Nat.reduceMul, Nat.reduceAdd, idxPrv, Option.isSome_some, Option.isSome_none, Option.getD_some, p2]
  · simp (maxSteps := 4000000) only [go_sem, ↓reduceIte, reduceCtorEq, Nat.reduceEqDiff, Nat.reduceBEq, Nat.reduceAdd, Nat.reduceSub, Nat.reduceMul, Nat.reduceLT, Nat.reduceLeDiff, Nat.reduceBNe, Int.reduceBEq, Int.reduceBNe, Int.reduceLT, Int.reduceLE, evG, evP, Nat.reduceMod, Nat.reduceDiv, Nat.reduceSub, Nat.reduceLeDiff, Nat.reduceMul, Nat.reduceAdd, idxPrv, Option.isSome_some, Option.isSome_none, Option.getD_some, p3]
  · intro s hs
    have h0 := hno s hs
    simp (maxSteps := 4000000) only [go_sem, ↓reduceIte, reduceCtorEq, Nat.reduceEqDiff, Nat.reduceBEq, Nat.reduceAdd, Nat.reduceSub, Nat.reduceMul, Nat.reduceLT, Nat.reduceLeDiff, Nat.reduceBNe, Int.reduceBEq, Int.reduceBNe, Int.reduceLT, Int.reduceLE, evG, evP, Nat.reduceMod, Nat.reduceDiv, Nat.reduceSub, Nat.reduceLeDiff, Nat.reduceMul, Nat.reduceAdd, idxPrv, Option.isSome_some, Option.isSome_none, Option.getD_some, h0]
  · simp (maxSteps := 4000000) only [go_sem, ↓reduceIte, reduceCtorEq, Nat.reduceEqDiff, Nat.reduceBEq, Nat.reduceAdd, Nat.reduceSub, Nat.reduceMul, Nat.reduceLT, Nat.reduceLeDiff, Nat.reduceBNe, Int.reduceBEq, Int.reduceBNe, Int.reduceLT, Int.reduceLE, evG, evP, Nat.reduceMod, Nat.reduceDiv, Nat.reduceSub, Nat.reduceLeDiff, Nat.reduceMul, Nat.reduceAdd, idxPrv, Option.isSome_some, Option.isSome_none, Option.getD_some]
  · simp (maxSteps := 4000000) only [go_sem, ↓reduceIte, reduceCtorEq, Nat.reduceEqDiff, Nat.reduceBEq, Nat.reduceAdd, Nat.reduceSub, Nat.reduceMul, Nat.reduceLT, Nat.reduceLeDiff, Nat.reduceBNe, Int.reduceBEq, Int.reduceBNe, Int.reduceLT, Int.reduceLE, evG, evP, Nat.reduceMod, Nat.reduceDiv, Nat.reduceSub, Nat.reduceLeDiff, Nat.reduceMul, Nat.reduceAdd, idxPrv, Option.isSome_some, Option.isSome_none, Option.getD_some, List.length_map]
  · (simp (maxSteps := 4000000) only [go_sem, ↓reduceIte, reduceCtorEq, Nat.reduceEqDiff, Nat.reduceBEq, Nat.reduceAdd, Nat.reduceSub, Nat.reduceMul, Nat.reduceLT, Nat.reduceLeDiff, Nat.reduceBNe, Int.reduceBEq, Int.reduceBNe, Int.reduceLT, Int.reduceLE, evG, evP, Nat.reduceMod, Nat.reduceDiv, Nat.reduceSub, Nat.reduceLeDiff, Nat.reduceMul, Nat.reduceAdd, idxPrv, Option.isSome_some, Option.isSome_none, Option.getD_some]) <;> rfl
  clear t1 h1 h1' t4 t3 hu p1 p2 p3 no hno hF hW
  rintro σ8 ⟨t1, h1, t4, t3, ⟨u8, hu8, p1, p2, p3⟩, no⟩
  have tk : List.take F.length (F.map AV.str) = F.map AV.str := List.take_of_length_le (by simp)
  (repeat (first | simp (maxSteps := 4000000) only [go_sem, ↓reduceIte, reduceCtorEq, Nat.reduceEqDiff, Nat.reduceBEq, Nat.reduceAdd, Nat.reduceSub, Nat.reduceMul, Nat.reduceLT, Nat.reduceLeDiff, Nat.reduceBNe, Int.reduceBEq, Int.reduceBNe, Int.reduceLT, Int.reduceLE, evG, evP, Nat.reduceMod, Nat.reduceDiv, Nat.reduceSub, Nat.reduceLeDiff, Nat.reduceMul, Nat.reduceAdd, idxPrv, Option.isSome_some, Option.isSome_none, Option.getD_some, t3, p1, p2, p3, tk, List.drop_zero] | refine calling (cj) ?_ | refine callingH (cj) ?_ | refine And.intro (by omega) ?_ | refine And.intro (fun d hd => by (repeat (rcases hd with rfl | hd; · exact ⟨rfl, rfl⟩)); cases hd) ?_))
end
end Go.Proofs.YtelmejaiapdgnaaDoor
