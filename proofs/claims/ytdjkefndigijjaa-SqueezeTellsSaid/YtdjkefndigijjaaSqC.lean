/-
  Lists of messages on the plain machine: the library's functions, Next, Dead.
-/
import Derived.Test.YtdjkefndigijjaaSqB
namespace Go.Proofs.Ytdjkefndigijjaa
open Go.RowKit
set_option linter.unusedVariables false
set_option linter.unusedSimpArgs false
set_option maxRecDepth 100000
attribute [local go_sem ↓] runOp headOp
attribute [local go_sem] ev0 ev1 ev2 ev3 evA stHOk.eq_1 stHOk.eq_2 stHSt.eq_1 stHSt.eq_2 okV valV fzV okF valF okBld valBld mxOk.eq_1 mxOk.eq_2 mxVal.eq_1 mxVal.eq_2 cellFit.eq_1 cellFit.eq_2 cellFit.eq_3 cellEq.eq_1 cellEq.eq_2 cellEq.eq_3 upd_at AV.flatB AV.flatBs binIok binIV binSok binSV cellsOk.eq_1 cellsOk.eq_2 cellsVal.eq_1 cellsVal.eq_2 objCells.eq_1 objCells.eq_2 objZ.eq_1 objZ.eq_2 objProt.eq_1 objProt.eq_2 oneObj ptrOk.eq_1 ptrOk.eq_2 ptrOk.eq_3 ptrCells.eq_1 ptrCells.eq_2 ptrCells.eq_3 lenOk.eq_1 lenOk.eq_2 lenOk.eq_3 lenOk.eq_4 lenVal.eq_1 lenVal.eq_2 lenVal.eq_3 lenVal.eq_4 faOk.eq_1 faOk.eq_2 faOk.eq_3 faVal.eq_1 faVal.eq_2 faVal.eq_3 iaOk.eq_1 iaOk.eq_2 iaOk.eq_3 iaVal.eq_1 iaVal.eq_2 iaVal.eq_3 slcLen.eq_1 slcLen.eq_2 slcLen.eq_3 slcLen.eq_4 bdOk.eq_1 bdOk.eq_2 bdVal.eq_1 bdVal.eq_2 slcOk.eq_1 slcOk.eq_2 slcOk.eq_3 slcOk.eq_4 slcVal.eq_1 slcVal.eq_2 slcVal.eq_3 slcVal.eq_4 slcFz.eq_1 slcFz.eq_2 byOk.eq_1 byOk.eq_2 byOk.eq_3 byOk.eq_4 byOk.eq_5 byVal.eq_1 byVal.eq_2 byVal.eq_3 byFz.eq_1 byFz.eq_2 byFz.eq_3 byOks byVals byFzs allOne resSt.eq_1 resSt.eq_2 resName.eq_1 resName.eq_2 stOk.eq_1 stOk.eq_2 stArr.eq_1 stArr.eq_2 stSt.eq_1 stSt.eq_2 AV.patch nameOk_none gB.eq_1 gB.eq_2 gB.eq_3 gIs.eq_1 gIs.eq_2 gIs.eq_3 retV resV resVs evalV cellsV St.byval List.getD_cons_zero List.getD_cons_succ List.getD_nil List.map_cons List.map_nil List.length_cons List.length_nil List.take_succ_cons List.take_zero List.drop_succ_cons List.drop_zero List.headD_cons List.set_cons_zero List.append_nil List.nil_append List.cons_append List.contains_cons List.contains_nil List.elem_cons List.elem_nil List.all_cons List.all_nil List.getElem?_cons_zero List.getElem?_cons_succ List.filterMap_cons List.filterMap_nil Option.isSome_some Option.isSome_none Option.map_some Option.map_none Option.some.injEq AV.int.injEq AV.bool.injEq AV.str.injEq AV.tup.injEq AV.agg.injEq AV.sl.injEq List.cons.injEq Bool.false_eq_true Bool.true_eq_false Bool.not_true Bool.not_false Bool.and_true Bool.true_and Bool.or_false Bool.or_true Bool.false_or Bool.true_or Bool.or_self Bool.and_self Bool.not_eq_true' Bool.not_eq_false' Bool.not_not beq_self_eq_true true_and and_true false_and and_false and_self not_true_eq_false not_false_eq_true forall_const true_implies false_implies implies_true imp_self Nat.lt_add_one Nat.le_refl Nat.zero_le Nat.add_zero Nat.zero_add decide_true decide_false decide_eq_true_eq decide_eq_false_iff_not exists_eq_left exists_eq_left' ge_iff_le gt_iff_lt ite_branch ite_branch' nilOk.eq_1 nilOk.eq_2 nilMay.eq_1 nilMay.eq_2 AV.isSl.eq_1 objTy'.eq_1 objTy'.eq_2 apSt.eq_1 apArr.eq_1 apArr.eq_2 slOf.eq_1 fitsV List.mem_cons List.not_mem_nil Bool.false_and Bool.and_false

/-! ### slices.Clone[[]percolate/api.Message,percolate/api.Message] -/
def r_clone_0 : Reg := ⟨[], [⟨(.mknil 6 55), (some 2), none, [], []⟩], [2], [], false⟩
def r_clone_1 : Reg := ⟨[], [⟨(.mv (.t 0)), (some 3), none, [], []⟩, ⟨(.nileq false (.t 3)), (some 4), none, [], []⟩], [], [], false⟩
def r_clone_2 : Reg := ⟨[], [⟨(.mknil 6 55), (some 2), none, [], []⟩], [2], [], false⟩
def r_clone_3 : Reg := ⟨[], [⟨(.bsl 6 55 []), (some 5), none, [], []⟩, ⟨(.mv (.t 0)), (some 6), none, [], []⟩, ⟨(.append 6 55 72 (.t 5) (.t 6)), (some 7), none, [], []⟩, ⟨(.mv (.t 7)), (some 2), none, [], []⟩], [5], [], false⟩
def ir_clone : IR := (.seq (.reg r_clone_0)
  (.seq (.seq (.reg r_clone_1)
  (.cond (.t 4) (.seq (.reg r_clone_2)
  .ret)
  .skip))
  (.seq (.reg r_clone_3)
  .ret)))
def res_clone : List RDesc := [(.tmp 2)]
theorem e_clone_0 (C : FuncId → List AV → AV → Prop) (σ : St) (K : St → Prop) : runReg C r_clone_0 σ K = runOps C [⟨(.mknil 6 55), (some 2), none, [], []⟩] (σ.kills [2]) K := rfl
theorem e_clone_1 (C : FuncId → List AV → AV → Prop) (σ : St) (K : St → Prop) : runReg C r_clone_1 σ K = runOps C [⟨(.mv (.t 0)), (some 3), none, [], []⟩, ⟨(.nileq false (.t 3)), (some 4), none, [], []⟩] (σ.kills []) K := rfl
theorem e_clone_2 (C : FuncId → List AV → AV → Prop) (σ : St) (K : St → Prop) : runReg C r_clone_2 σ K = runOps C [⟨(.mknil 6 55), (some 2), none, [], []⟩] (σ.kills [2]) K := rfl
theorem e_clone_3 (C : FuncId → List AV → AV → Prop) (σ : St) (K : St → Prop) : runReg C r_clone_3 σ K = runOps C [⟨(.bsl 6 55 []), (some 5), none, [], []⟩, ⟨(.mv (.t 0)), (some 6), none, [], []⟩, ⟨(.append 6 55 72 (.t 5) (.t 6)), (some 7), none, [], []⟩, ⟨(.mv (.t 7)), (some 2), none, [], []⟩] (σ.kills [5]) K := rfl
theorem fn_clone {args : List AV} {r : AV} (ha : args.length.ble Try.f81.ntmps = true) (h : run (AFn Try.prog) ir_clone (endQ res_clone r) (initSt args)) : AFn Try.prog 81 args r :=
  AFn.of_code (hint := fun _ => []) (c := Try.f81.body.getD .skip) (by kernel_rfl) (by kernel_rfl) Try.func81 (by kernel_rfl) (by kernel_rfl) (by kernel_rfl) (of_decide_eq_true (by kernel_rfl)) (Nat.le_of_ble_eq_true ha) (run_ok h)

attribute [local go_sem ↓] ir_clone
attribute [local go_sem] res_clone e_clone_0 e_clone_1 e_clone_2 e_clone_3

theorem cloneAny (l : List AV) (hl : l.length ≤ 1000000) (h6 : ∀ d, d ∈ l → d.cells.length = 6 ∧ d.cells.all AV.one = true) : AFn Try.prog 81 [.sl l] (.own 6 55 l) := by
  refine fn_clone rfl ?_
  simp (maxSteps := 4000000) only [go_sem, ↓reduceIte, reduceCtorEq, Nat.reduceEqDiff, Nat.reduceBEq, Nat.reduceAdd, Nat.reduceSub, Nat.reduceMul, Nat.reduceLT, Nat.reduceLeDiff, Nat.reduceBNe, Int.reduceBEq, Int.reduceBNe, Int.reduceLT, Int.reduceLE, Spn.a, Msg.a, Eff.a]
  refine ⟨fun h => ?_, ⟨by omega, by omega⟩, h6⟩
  cases l with
  | nil => rfl
  | cons x l => cases h

def idxFrom (p : AV → Bool) : List AV → Nat → Int
  | [], _ => -1
  | x :: l, j => if p x then j else idxFrom p l (j + 1)
def idxInv (l : List AV) (c : AV) (r : Int) (p : AV → Bool) (k : Nat) (σ : St) : Prop :=
  ∃ j : Nat, j ≤ l.length ∧ k = l.length - j ∧ σ.T 0 = .sl l ∧ σ.T 1 = c ∧ σ.T 7 = .int .i64 l.length ∧ σ.T 8 = .int .i64 j ∧ idxFrom p (l.drop j) j = r
/-! ### slices.IndexFunc[[]percolate/api.Message,percolate/api.Message] -/
def r_idxF_0 : Reg := ⟨[], [⟨(.mv (.c (.int .i64 0))), (some 4), none, [], []⟩], [], [], false⟩
def r_idxF_1 : Reg := ⟨[], [⟨(.mv (.t 0)), (some 6), none, [], []⟩, ⟨(.len false (.t 6)), (some 7), none, [], []⟩, ⟨(.mv (.c (.int .i64 0))), (some 8), none, [], []⟩], [], [], false⟩
def r_idxF_2 : Reg := ⟨[], [⟨(.bin .lss (.t 8) (.t 7)), (some 9), none, [], []⟩], [], [], false⟩
def r_idxF_3 : Reg := ⟨[], [⟨(.mv (.t 8)), (some 10), none, [], []⟩, ⟨(.mv (.t 10)), (some 5), none, [], []⟩], [], [], false⟩
def r_idxF_4 : Reg := ⟨[], [⟨(.mv (.t 1)), (some 11), none, [16], []⟩, ⟨(.mv (.t 0)), (some 12), none, [16], []⟩, ⟨(.mv (.t 5)), (some 13), none, [16], []⟩, ⟨(.iaddr 6 (.t 12) (.t 13)), (some 14), none, [16], []⟩, ⟨(.load 6 true (.t 14)), (some 15), none, [16], []⟩, ⟨(.callv (.t 11) [(.t 15)]), (some 16), none, [], []⟩], [16], [], false⟩
def r_idxF_5 : Reg := ⟨[], [⟨(.mv (.t 5)), (some 17), none, [], []⟩, ⟨(.mv (.t 17)), (some 4), none, [], []⟩], [], [], false⟩
def r_idxF_6 : Reg := ⟨[], [⟨(.bin .add (.t 8) (.c (.int .i64 1))), (some 18), none, [], []⟩, ⟨(.mv (.t 18)), (some 8), none, [], []⟩], [], [], false⟩
def r_idxF_l7 : IR := (.seq (.reg r_idxF_2)
  (.seq (.cond (.t 9) .skip
  (.exit 0))
  (.seq (.block 1 (.seq (.reg r_idxF_3)
  (.seq (.reg r_idxF_4)
  (.cond (.t 16) (.seq (.reg r_idxF_5)
  .ret)
  .skip))))
  (.reg r_idxF_6))))
def r_idxF_8 : Reg := ⟨[], [⟨(.mv (.c (.int .i64 (-1)))), (some 4), none, [], []⟩], [], [], false⟩
def ir_idxF : IR := (.seq (.reg r_idxF_0)
  (.seq (.seq (.reg r_idxF_1)
  (.block 0 (.loop r_idxF_l7)))
  (.seq (.reg r_idxF_8)
  .ret)))
def res_idxF : List RDesc := [(.tmp 4)]
theorem e_idxF_0 (C : FuncId → List AV → AV → Prop) (σ : St) (K : St → Prop) : runReg C r_idxF_0 σ K = runOps C [⟨(.mv (.c (.int .i64 0))), (some 4), none, [], []⟩] (σ.kills []) K := rfl
theorem e_idxF_1 (C : FuncId → List AV → AV → Prop) (σ : St) (K : St → Prop) : runReg C r_idxF_1 σ K = runOps C [⟨(.mv (.t 0)), (some 6), none, [], []⟩, ⟨(.len false (.t 6)), (some 7), none, [], []⟩, ⟨(.mv (.c (.int .i64 0))), (some 8), none, [], []⟩] (σ.kills []) K := rfl
theorem e_idxF_2 (C : FuncId → List AV → AV → Prop) (σ : St) (K : St → Prop) : runReg C r_idxF_2 σ K = runOps C [⟨(.bin .lss (.t 8) (.t 7)), (some 9), none, [], []⟩] (σ.kills []) K := rfl
theorem e_idxF_3 (C : FuncId → List AV → AV → Prop) (σ : St) (K : St → Prop) : runReg C r_idxF_3 σ K = runOps C [⟨(.mv (.t 8)), (some 10), none, [], []⟩, ⟨(.mv (.t 10)), (some 5), none, [], []⟩] (σ.kills []) K := rfl
theorem e_idxF_4 (C : FuncId → List AV → AV → Prop) (σ : St) (K : St → Prop) : runReg C r_idxF_4 σ K = runOps C [⟨(.mv (.t 1)), (some 11), none, [16], []⟩, ⟨(.mv (.t 0)), (some 12), none, [16], []⟩, ⟨(.mv (.t 5)), (some 13), none, [16], []⟩, ⟨(.iaddr 6 (.t 12) (.t 13)), (some 14), none, [16], []⟩, ⟨(.load 6 true (.t 14)), (some 15), none, [16], []⟩, ⟨(.callv (.t 11) [(.t 15)]), (some 16), none, [], []⟩] (σ.kills [16]) K := rfl
theorem e_idxF_5 (C : FuncId → List AV → AV → Prop) (σ : St) (K : St → Prop) : runReg C r_idxF_5 σ K = runOps C [⟨(.mv (.t 5)), (some 17), none, [], []⟩, ⟨(.mv (.t 17)), (some 4), none, [], []⟩] (σ.kills []) K := rfl
theorem e_idxF_6 (C : FuncId → List AV → AV → Prop) (σ : St) (K : St → Prop) : runReg C r_idxF_6 σ K = runOps C [⟨(.bin .add (.t 8) (.c (.int .i64 1))), (some 18), none, [], []⟩, ⟨(.mv (.t 18)), (some 8), none, [], []⟩] (σ.kills []) K := rfl
theorem e_idxF_8 (C : FuncId → List AV → AV → Prop) (σ : St) (K : St → Prop) : runReg C r_idxF_8 σ K = runOps C [⟨(.mv (.c (.int .i64 (-1)))), (some 4), none, [], []⟩] (σ.kills []) K := rfl
theorem fn_idxF {args : List AV} {r : AV} (ha : args.length.ble Try.f155.ntmps = true) (h : run (AFn Try.prog) ir_idxF (endQ res_idxF r) (initSt args)) : AFn Try.prog 155 args r :=
  AFn.of_code (hint := fun _ => []) (c := Try.f155.body.getD .skip) (by kernel_rfl) (by kernel_rfl) Try.func155 (by kernel_rfl) (by kernel_rfl) (by kernel_rfl) (of_decide_eq_true (by kernel_rfl)) (Nat.le_of_ble_eq_true ha) (run_ok h)

/-! ### slices.ContainsFunc[[]percolate/api.Message,percolate/api.Message] -/
def r_contF_0 : Reg := ⟨[], [⟨(.mv (.c (.bool false))), (some 4), none, [], []⟩], [], [], false⟩
def r_contF_1 : Reg := ⟨[], [⟨(.mv (.t 0)), (some 5), none, [7], []⟩, ⟨(.mv (.t 1)), (some 6), none, [7], []⟩, ⟨(.callv (.c (.clo 155 [] [])) [(.t 5), (.t 6)]), (some 7), none, [], []⟩, ⟨(.bin .geq (.t 7) (.c (.int .i64 0))), (some 8), none, [], []⟩, ⟨(.mv (.t 8)), (some 4), none, [], []⟩], [7], [], false⟩
def ir_contF : IR := (.seq (.reg r_contF_0)
  (.seq (.reg r_contF_1)
  .ret))
def res_contF : List RDesc := [(.tmp 4)]
theorem e_contF_0 (C : FuncId → List AV → AV → Prop) (σ : St) (K : St → Prop) : runReg C r_contF_0 σ K = runOps C [⟨(.mv (.c (.bool false))), (some 4), none, [], []⟩] (σ.kills []) K := rfl
theorem e_contF_1 (C : FuncId → List AV → AV → Prop) (σ : St) (K : St → Prop) : runReg C r_contF_1 σ K = runOps C [⟨(.mv (.t 0)), (some 5), none, [7], []⟩, ⟨(.mv (.t 1)), (some 6), none, [7], []⟩, ⟨(.callv (.c (.clo 155 [] [])) [(.t 5), (.t 6)]), (some 7), none, [], []⟩, ⟨(.bin .geq (.t 7) (.c (.int .i64 0))), (some 8), none, [], []⟩, ⟨(.mv (.t 8)), (some 4), none, [], []⟩] (σ.kills [7]) K := rfl
theorem fn_contF {args : List AV} {r : AV} (ha : args.length.ble Try.f131.ntmps = true) (h : run (AFn Try.prog) ir_contF (endQ res_contF r) (initSt args)) : AFn Try.prog 131 args r :=
  AFn.of_code (hint := fun _ => []) (c := Try.f131.body.getD .skip) (by kernel_rfl) (by kernel_rfl) Try.func131 (by kernel_rfl) (by kernel_rfl) (by kernel_rfl) (of_decide_eq_true (by kernel_rfl)) (Nat.le_of_ble_eq_true ha) (run_ok h)

attribute [local go_sem ↓] ir_idxF
attribute [local go_sem] res_idxF e_idxF_0 e_idxF_1 e_idxF_2 e_idxF_3 e_idxF_4 e_idxF_5 e_idxF_6 e_idxF_8
attribute [local go_sem ↓] ir_contF
attribute [local go_sem] res_contF e_contF_0 e_contF_1

theorem indexAny (l : List Msg) (f : FuncId) (fi ca : List AV) (p : AV → Bool) (hl : l.length ≤ 1000000) (hp : ∀ m, m ∈ l → AFn Try.prog f (fi ++ [m.a] ++ ca) (.bool (p m.a))) :
    AFn Try.prog 155 [.sl (l.map Msg.a), .clo f fi ca] (.int .i64 (idxFrom p (l.map Msg.a) 0)) := by
  refine fn_idxF rfl ?_
  simp (maxSteps := 4000000) only [go_sem, ↓reduceIte, reduceCtorEq, Nat.reduceEqDiff, Nat.reduceBEq, Nat.reduceAdd, Nat.reduceSub, Nat.reduceMul, Nat.reduceLT, Nat.reduceLeDiff, Nat.reduceBNe, Int.reduceBEq, Int.reduceBNe, Int.reduceLT, Int.reduceLE, Spn.a, Msg.a, Eff.a]
  refine run_loop (idxInv (l.map Msg.a) (.clo f fi ca) (idxFrom p (l.map Msg.a) 0) p) (k := (l.map Msg.a).length) ⟨0, by omega, rfl, rfl, rfl, rfl, rfl, rfl⟩ ?_
  rintro k σ ⟨j, hj, rfl, t0, t1, t7, t8, hr⟩
  rw [List.length_map] at hj
  by_cases hlt : j < l.length
  · have hlt' : (j : Int) < (l.length : Int) := by omega
    obtain ⟨x, hx⟩ : ∃ x, l[j]? = some x := ⟨_, List.getElem?_eq_getElem hlt⟩
    have hg : (l.map Msg.a).getD j .und = .agg [.int .i64 x.stamp, .int .i64 x.kind, .str x.key, .str x.hi, .bool x.op, .str x.val] := by rw [List.getD_eq_getElem?_getD, List.getElem?_map, hx]; rfl
    have hw : IntKind.i64.wrap ((j : Int) + 1) = ((j + 1 : Nat) : Int) := by rw [IntWalk.i64_in _ (by omega)]; rfl
    simp only [r_idxF_l7]
    simp (maxSteps := 4000000) only [go_sem, ↓reduceIte, reduceCtorEq, Nat.reduceEqDiff, Nat.reduceBEq, Nat.reduceAdd, Nat.reduceSub, Nat.reduceMul, Nat.reduceLT, Nat.reduceLeDiff, Nat.reduceBNe, Int.reduceBEq, Int.reduceBNe, Int.reduceLT, Int.reduceLE, Spn.a, Msg.a, Eff.a, t0, t1, t7, t8, hlt', hg, List.length_map, Int.toNat_natCast]
    refine ⟨by omega, calling (hp x (List.mem_of_getElem? hx)) ?_⟩
    have hd : idxFrom p ((l.map Msg.a).drop j) j = if p x.a then (j : Int) else idxFrom p ((l.map Msg.a).drop (j + 1)) (j + 1) := by
      rw [List.drop_eq_getElem_cons (by rw [List.length_map]; exact hlt)]
      have : (l.map Msg.a)[j]'(by rw [List.length_map]; exact hlt) = x.a := by
        rw [List.getElem_map]
        congr 1
        have := List.getElem?_eq_getElem hlt
        rw [hx] at this; cases this; rfl
      rw [this]; rfl
    rw [hd] at hr
    cases hpx : p x.a with
    | true =>
      rw [hpx, if_pos rfl] at hr
      simp (maxSteps := 4000000) only [go_sem, ↓reduceIte, reduceCtorEq, Nat.reduceEqDiff, Nat.reduceBEq, Nat.reduceAdd, Nat.reduceSub, Nat.reduceMul, Nat.reduceLT, Nat.reduceLeDiff, Nat.reduceBNe, Int.reduceBEq, Int.reduceBNe, Int.reduceLT, Int.reduceLE, Spn.a, Msg.a, Eff.a, t0, t1, t7, t8, hr]
    | false =>
      rw [hpx, if_neg (by simp)] at hr
      simp (maxSteps := 4000000) only [go_sem, ↓reduceIte, reduceCtorEq, Nat.reduceEqDiff, Nat.reduceBEq, Nat.reduceAdd, Nat.reduceSub, Nat.reduceMul, Nat.reduceLT, Nat.reduceLeDiff, Nat.reduceBNe, Int.reduceBEq, Int.reduceBNe, Int.reduceLT, Int.reduceLE, Spn.a, Msg.a, Eff.a, t0, t1, t7, t8, hw]
      refine ⟨_, Nat.lt_of_lt_of_le (Nat.sub_lt_sub_left hlt (Nat.lt_succ_self j)) (Nat.le_refl _), j + 1, by rw [List.length_map]; omega, by rw [List.length_map], ?_, ?_, ?_, ?_, hr⟩ <;>
        (simp (maxSteps := 4000000) only [go_sem, ↓reduceIte, reduceCtorEq, Nat.reduceEqDiff, Nat.reduceBEq, Nat.reduceAdd, Nat.reduceSub, Nat.reduceMul, Nat.reduceLT, Nat.reduceLeDiff, Nat.reduceBNe, Int.reduceBEq, Int.reduceBNe, Int.reduceLT, Int.reduceLE, Spn.a, Msg.a, Eff.a, t0, t1, t7, t8, hw])
  · have hlt' : ¬ (j : Int) < (l.length : Int) := by omega
    have hj' : j = l.length := by omega
    have hr' : idxFrom p (l.map Msg.a) 0 = -1 := by
      rw [← hr, List.drop_eq_nil_of_le (by rw [List.length_map]; omega)]; rfl
    simp only [r_idxF_l7]
    simp (maxSteps := 4000000) only [go_sem, ↓reduceIte, reduceCtorEq, Nat.reduceEqDiff, Nat.reduceBEq, Nat.reduceAdd, Nat.reduceSub, Nat.reduceMul, Nat.reduceLT, Nat.reduceLeDiff, Nat.reduceBNe, Int.reduceBEq, Int.reduceBNe, Int.reduceLT, Int.reduceLE, Spn.a, Msg.a, Eff.a, t0, t1, t7, t8, hlt', hr', List.length_map]
theorem containsAny (l : List Msg) (f : FuncId) (fi ca : List AV) (p : AV → Bool) (hl : l.length ≤ 1000000) (hp : ∀ m, m ∈ l → AFn Try.prog f (fi ++ [m.a] ++ ca) (.bool (p m.a))) :
    AFn Try.prog 131 [.sl (l.map Msg.a), .clo f fi ca] (.bool (decide (0 ≤ idxFrom p (l.map Msg.a) 0))) := by
  refine fn_contF rfl ?_
  simp (maxSteps := 4000000) only [go_sem, ↓reduceIte, reduceCtorEq, Nat.reduceEqDiff, Nat.reduceBEq, Nat.reduceAdd, Nat.reduceSub, Nat.reduceMul, Nat.reduceLT, Nat.reduceLeDiff, Nat.reduceBNe, Int.reduceBEq, Int.reduceBNe, Int.reduceLT, Int.reduceLE, Spn.a, Msg.a, Eff.a]
  (first | refine calling (indexAny l f fi ca p hl hp) ?_ | refine callingH (indexAny l f fi ca p hl hp) ?_)
  simp (maxSteps := 4000000) only [go_sem, ↓reduceIte, reduceCtorEq, Nat.reduceEqDiff, Nat.reduceBEq, Nat.reduceAdd, Nat.reduceSub, Nat.reduceMul, Nat.reduceLT, Nat.reduceLeDiff, Nat.reduceBNe, Int.reduceBEq, Int.reduceBNe, Int.reduceLT, Int.reduceLE, Spn.a, Msg.a, Eff.a]

def MOk (l : List Msg) : Prop := l.length ≤ 1000000 ∧ ∀ m, m ∈ l → m.key.size ≤ 9223372036854775806
def firstFrom (p : Nat → Bool) : Nat → Nat → Option Nat
  | 0, _ => none
  | f + 1, j => if p j then some j else firstFrom p f (j + 1)
def nextOf (l : List Msg) (i : Nat) : Option Nat := match l[i]? with
  | some m => firstFrom (fun j => (l[j]?).any fun x => x.span.touch m.span) (l.length - (i + 1)) (i + 1)
  | none => none
def ansOf : Option Nat → AV
  | some j => .tup [.int .i64 (j : Int), .bool true]
  | none => .tup [.int .i64 0, .bool false]
def nextInv (l : List Msg) (m : Msg) (r : Option Nat) (k : Nat) (σ : St) : Prop :=
  ∃ j : Nat, j ≤ l.length ∧ k = l.length - j ∧ σ.T 0 = .sl (l.map Msg.a) ∧ σ.T 7 = .int .i64 j ∧ σ.T 6 = .ptr 6 0 0 ∧ σ.H 6 = some ⟨3, 41, [m.span.a], 0⟩ ∧
    firstFrom (fun j => (l[j]?).any fun x => x.span.touch m.span) (l.length - j) j = r
/-! ### percolate/squeeze.Next -/
def r_sqNext_0 : Reg := ⟨[], [⟨(.mv (.c (.int .i64 0))), (some 4), none, [], []⟩, ⟨(.mv (.c (.bool false))), (some 5), none, [], []⟩], [], [], false⟩
def r_sqNext_1 : Reg := ⟨[], [⟨(.mv (.t 1)), (some 8), none, [], []⟩, ⟨(.bin .lss (.t 8) (.c (.int .i64 0))), (some 9), none, [], []⟩, ⟨(.mv (.t 9)), (some 10), none, [], []⟩, ⟨(.mv (.t 1)), (some 11), (some (10, false)), [], []⟩, ⟨(.mv (.t 0)), (some 12), (some (10, false)), [], []⟩, ⟨(.len false (.t 12)), (some 13), (some (10, false)), [], []⟩, ⟨(.bin .geq (.t 11) (.t 13)), (some 14), (some (10, false)), [], []⟩, ⟨(.pick (.t 10) (.c (.bool true)) (.t 14)), (some 15), none, [], []⟩], [], [], false⟩
def r_sqNext_2 : Reg := ⟨[], [⟨(.mv (.c (.int .i64 0))), (some 4), none, [], []⟩, ⟨(.mv (.c (.bool false))), (some 5), none, [], []⟩], [], [], false⟩
def r_sqNext_3 : Reg := ⟨[], [⟨(.mv (.t 0)), (some 16), none, [20, 6], []⟩, ⟨(.mv (.t 1)), (some 17), none, [20, 6], []⟩, ⟨(.iaddr 6 (.t 16) (.t 17)), (some 18), none, [20, 6], []⟩, ⟨(.load 6 true (.t 18)), (some 19), none, [20, 6], []⟩, ⟨(.callv (.c (.clo 105 [] [])) [(.t 19)]), (some 20), none, [6], []⟩, ⟨(.alloc 3 41 (.agg [(.str ⟨#[]⟩), (.str ⟨#[]⟩), (.bool false)])), (some 6), none, [], []⟩, ⟨(.store 3 (.t 6) (.t 20)), none, none, [], []⟩], [20, 6], [], false⟩
def r_sqNext_4 : Reg := ⟨[], [⟨(.mv (.t 1)), (some 21), none, [], []⟩, ⟨(.bin .add (.t 21) (.c (.int .i64 1))), (some 22), none, [], []⟩, ⟨(.mv (.t 22)), (some 7), none, [], []⟩], [], [], false⟩
def r_sqNext_5 : Reg := ⟨[], [⟨(.mv (.t 7)), (some 23), none, [], []⟩, ⟨(.mv (.t 0)), (some 24), none, [], []⟩, ⟨(.len false (.t 24)), (some 25), none, [], []⟩, ⟨(.bin .lss (.t 23) (.t 25)), (some 26), none, [], []⟩], [], [], false⟩
def r_sqNext_6 : Reg := ⟨[⟨(.mv (.t 0)), (some 29), none, [34], []⟩, ⟨(.mv (.t 7)), (some 30), none, [34], []⟩, ⟨(.iaddr 6 (.t 29) (.t 30)), (some 31), none, [34], []⟩, ⟨(.load 6 true (.t 31)), (some 32), none, [34], []⟩, ⟨(.load 3 true (.t 6)), (some 33), none, [34], []⟩], [⟨(.callv (.c (.clo 106 [] [])) [(.t 32), (.t 33)]), (some 34), none, [], []⟩], [34], [], true⟩
def r_sqNext_7 : Reg := ⟨[], [⟨(.mv (.t 7)), (some 35), none, [], []⟩, ⟨(.mv (.t 35)), (some 4), none, [], []⟩, ⟨(.mv (.c (.bool true))), (some 5), none, [], []⟩], [], [], false⟩
def r_sqNext_8 : Reg := ⟨[], [⟨(.mv (.t 7)), (some 27), none, [], []⟩, ⟨(.bin .add (.t 27) (.c (.int .i64 1))), (some 28), none, [], []⟩, ⟨(.mv (.t 28)), (some 7), none, [], []⟩], [], [], false⟩
def r_sqNext_l9 : IR := (.seq (.seq (.reg r_sqNext_5)
  (.cond (.t 26) .skip
  (.exit 0)))
  (.seq (.block 1 (.seq (.reg r_sqNext_6)
  (.cond (.t 34) (.seq (.reg r_sqNext_7)
  .ret)
  .skip)))
  (.reg r_sqNext_8)))
def r_sqNext_10 : Reg := ⟨[], [⟨(.mv (.c (.int .i64 0))), (some 4), none, [], []⟩, ⟨(.mv (.c (.bool false))), (some 5), none, [], []⟩], [], [], false⟩
def ir_sqNext : IR := (.seq (.reg r_sqNext_0)
  (.seq (.seq (.reg r_sqNext_1)
  (.cond (.t 15) (.seq (.reg r_sqNext_2)
  .ret)
  .skip))
  (.seq (.reg r_sqNext_3)
  (.seq (.seq (.reg r_sqNext_4)
  (.block 0 (.loop r_sqNext_l9)))
  (.seq (.reg r_sqNext_10)
  .ret)))))
def res_sqNext : List RDesc := [(.tmp 4), (.tmp 5)]
theorem e_sqNext_0 (C : FuncId → List AV → AV → Prop) (σ : St) (K : St → Prop) : runReg C r_sqNext_0 σ K = runOps C [⟨(.mv (.c (.int .i64 0))), (some 4), none, [], []⟩, ⟨(.mv (.c (.bool false))), (some 5), none, [], []⟩] (σ.kills []) K := rfl
theorem e_sqNext_1 (C : FuncId → List AV → AV → Prop) (σ : St) (K : St → Prop) : runReg C r_sqNext_1 σ K = runOps C [⟨(.mv (.t 1)), (some 8), none, [], []⟩, ⟨(.bin .lss (.t 8) (.c (.int .i64 0))), (some 9), none, [], []⟩, ⟨(.mv (.t 9)), (some 10), none, [], []⟩, ⟨(.mv (.t 1)), (some 11), (some (10, false)), [], []⟩, ⟨(.mv (.t 0)), (some 12), (some (10, false)), [], []⟩, ⟨(.len false (.t 12)), (some 13), (some (10, false)), [], []⟩, ⟨(.bin .geq (.t 11) (.t 13)), (some 14), (some (10, false)), [], []⟩, ⟨(.pick (.t 10) (.c (.bool true)) (.t 14)), (some 15), none, [], []⟩] (σ.kills []) K := rfl
theorem e_sqNext_2 (C : FuncId → List AV → AV → Prop) (σ : St) (K : St → Prop) : runReg C r_sqNext_2 σ K = runOps C [⟨(.mv (.c (.int .i64 0))), (some 4), none, [], []⟩, ⟨(.mv (.c (.bool false))), (some 5), none, [], []⟩] (σ.kills []) K := rfl
theorem e_sqNext_3 (C : FuncId → List AV → AV → Prop) (σ : St) (K : St → Prop) : runReg C r_sqNext_3 σ K = runOps C [⟨(.mv (.t 0)), (some 16), none, [20, 6], []⟩, ⟨(.mv (.t 1)), (some 17), none, [20, 6], []⟩, ⟨(.iaddr 6 (.t 16) (.t 17)), (some 18), none, [20, 6], []⟩, ⟨(.load 6 true (.t 18)), (some 19), none, [20, 6], []⟩, ⟨(.callv (.c (.clo 105 [] [])) [(.t 19)]), (some 20), none, [6], []⟩, ⟨(.alloc 3 41 (.agg [(.str ⟨#[]⟩), (.str ⟨#[]⟩), (.bool false)])), (some 6), none, [], []⟩, ⟨(.store 3 (.t 6) (.t 20)), none, none, [], []⟩] (σ.kills [20, 6]) K := rfl
theorem e_sqNext_4 (C : FuncId → List AV → AV → Prop) (σ : St) (K : St → Prop) : runReg C r_sqNext_4 σ K = runOps C [⟨(.mv (.t 1)), (some 21), none, [], []⟩, ⟨(.bin .add (.t 21) (.c (.int .i64 1))), (some 22), none, [], []⟩, ⟨(.mv (.t 22)), (some 7), none, [], []⟩] (σ.kills []) K := rfl
theorem e_sqNext_5 (C : FuncId → List AV → AV → Prop) (σ : St) (K : St → Prop) : runReg C r_sqNext_5 σ K = runOps C [⟨(.mv (.t 7)), (some 23), none, [], []⟩, ⟨(.mv (.t 0)), (some 24), none, [], []⟩, ⟨(.len false (.t 24)), (some 25), none, [], []⟩, ⟨(.bin .lss (.t 23) (.t 25)), (some 26), none, [], []⟩] (σ.kills []) K := rfl
theorem e_sqNext_6 (C : FuncId → List AV → AV → Prop) (σ : St) (K : St → Prop) : runReg C r_sqNext_6 σ K = runHead C [] [⟨(.callv (.c (.clo 106 [] [])) [(.t 32), (.t 33)]), (some 34), none, [], []⟩] [⟨(.mv (.t 0)), (some 29), none, [34], []⟩, ⟨(.mv (.t 7)), (some 30), none, [34], []⟩, ⟨(.iaddr 6 (.t 29) (.t 30)), (some 31), none, [34], []⟩, ⟨(.load 6 true (.t 31)), (some 32), none, [34], []⟩, ⟨(.load 3 true (.t 6)), (some 33), none, [34], []⟩] (σ.kills [34]) K := rfl
theorem e_sqNext_7 (C : FuncId → List AV → AV → Prop) (σ : St) (K : St → Prop) : runReg C r_sqNext_7 σ K = runOps C [⟨(.mv (.t 7)), (some 35), none, [], []⟩, ⟨(.mv (.t 35)), (some 4), none, [], []⟩, ⟨(.mv (.c (.bool true))), (some 5), none, [], []⟩] (σ.kills []) K := rfl
theorem e_sqNext_8 (C : FuncId → List AV → AV → Prop) (σ : St) (K : St → Prop) : runReg C r_sqNext_8 σ K = runOps C [⟨(.mv (.t 7)), (some 27), none, [], []⟩, ⟨(.bin .add (.t 27) (.c (.int .i64 1))), (some 28), none, [], []⟩, ⟨(.mv (.t 28)), (some 7), none, [], []⟩] (σ.kills []) K := rfl
theorem e_sqNext_10 (C : FuncId → List AV → AV → Prop) (σ : St) (K : St → Prop) : runReg C r_sqNext_10 σ K = runOps C [⟨(.mv (.c (.int .i64 0))), (some 4), none, [], []⟩, ⟨(.mv (.c (.bool false))), (some 5), none, [], []⟩] (σ.kills []) K := rfl
theorem fn_sqNext {args : List AV} {r : AV} (ha : args.length.ble Try.f61.ntmps = true) (h : run (AFn Try.prog) ir_sqNext (endQ res_sqNext r) (initSt args)) : AFn Try.prog 61 args r :=
  AFn.of_code (hint := fun _ => []) (c := Try.f61.body.getD .skip) (by kernel_rfl) (by kernel_rfl) Try.func61 (by kernel_rfl) (by kernel_rfl) (by kernel_rfl) (of_decide_eq_true (by kernel_rfl)) (Nat.le_of_ble_eq_true ha) (run_ok h)

attribute [local go_sem ↓] ir_sqNext
attribute [local go_sem] res_sqNext e_sqNext_0 e_sqNext_1 e_sqNext_2 e_sqNext_3 e_sqNext_4 e_sqNext_5 e_sqNext_6 e_sqNext_7 e_sqNext_8 e_sqNext_10

theorem next_out (l : List Msg) (i : Int) (hi : i < 0 ∨ (l.length : Int) ≤ i) : AFn Try.prog 61 [.sl (l.map Msg.a), .int .i64 i] (.tup [.int .i64 0, .bool false]) := by
  refine fn_sqNext rfl ?_
  by_cases h : i < 0
  · simp (maxSteps := 4000000) only [go_sem, ↓reduceIte, reduceCtorEq, Nat.reduceEqDiff, Nat.reduceBEq, Nat.reduceAdd, Nat.reduceSub, Nat.reduceMul, Nat.reduceLT, Nat.reduceLeDiff, Nat.reduceBNe, Int.reduceBEq, Int.reduceBNe, Int.reduceLT, Int.reduceLE, Spn.a, Msg.a, Eff.a, h]
  · have h2 : (l.length : Int) ≤ i := by omega
    simp (maxSteps := 4000000) only [go_sem, ↓reduceIte, reduceCtorEq, Nat.reduceEqDiff, Nat.reduceBEq, Nat.reduceAdd, Nat.reduceSub, Nat.reduceMul, Nat.reduceLT, Nat.reduceLeDiff, Nat.reduceBNe, Int.reduceBEq, Int.reduceBNe, Int.reduceLT, Int.reduceLE, Spn.a, Msg.a, Eff.a, h, List.length_map, h2]
theorem next_in (l : List Msg) (i : Nat) (hl : MOk l) (hi : i < l.length) : AFn Try.prog 61 [.sl (l.map Msg.a), .int .i64 i] (ansOf (nextOf l i)) := by
  obtain ⟨m, hm⟩ : ∃ m, l[i]? = some m := ⟨_, List.getElem?_eq_getElem hi⟩
  have hg : ∀ (j : Nat) (x : Msg), l[j]? = some x → (l.map Msg.a).getD j .und = .agg [.int .i64 x.stamp, .int .i64 x.kind, .str x.key, .str x.hi, .bool x.op, .str x.val] := fun j x hx => by rw [List.getD_eq_getElem?_getD, List.getElem?_map, hx]; rfl
  have hgi := hg i m hm
  have h1 : ¬ (i : Int) < 0 := by omega
  have h2 : ¬ (l.length : Int) ≤ (i : Int) := by omega
  have h3 : (i : Int) < (l.length : Int) := by omega
  have hw0 : IntKind.i64.wrap ((i : Int) + 1) = ((i + 1 : Nat) : Int) := by rw [IntWalk.i64_in _ (by have := hl.1; omega)]; rfl
  refine fn_sqNext rfl ?_
  simp (maxSteps := 4000000) only [go_sem, ↓reduceIte, reduceCtorEq, Nat.reduceEqDiff, Nat.reduceBEq, Nat.reduceAdd, Nat.reduceSub, Nat.reduceMul, Nat.reduceLT, Nat.reduceLeDiff, Nat.reduceBNe, Int.reduceBEq, Int.reduceBNe, Int.reduceLT, Int.reduceLE, Spn.a, Msg.a, Eff.a, h1, h2, h3, List.length_map, Int.toNat_natCast, hgi]
  refine ⟨by omega, calling (msgSpan m (hl.2 m (List.mem_of_getElem? hm))) ?_⟩
  simp (maxSteps := 4000000) only [go_sem, ↓reduceIte, reduceCtorEq, Nat.reduceEqDiff, Nat.reduceBEq, Nat.reduceAdd, Nat.reduceSub, Nat.reduceMul, Nat.reduceLT, Nat.reduceLeDiff, Nat.reduceBNe, Int.reduceBEq, Int.reduceBNe, Int.reduceLT, Int.reduceLE, Spn.a, Msg.a, Eff.a, h1, h2, h3, List.length_map, Int.toNat_natCast, hgi, hw0]
  refine run_loop (nextInv l m (nextOf l i)) (k := l.length - (i + 1)) ⟨i + 1, by omega, rfl, ?_, ?_, ?_, ?_, ?_⟩ ?_
  · simp (maxSteps := 4000000) only [go_sem, ↓reduceIte, reduceCtorEq, Nat.reduceEqDiff, Nat.reduceBEq, Nat.reduceAdd, Nat.reduceSub, Nat.reduceMul, Nat.reduceLT, Nat.reduceLeDiff, Nat.reduceBNe, Int.reduceBEq, Int.reduceBNe, Int.reduceLT, Int.reduceLE, Spn.a, Msg.a, Eff.a]
  · simp (maxSteps := 4000000) only [go_sem, ↓reduceIte, reduceCtorEq, Nat.reduceEqDiff, Nat.reduceBEq, Nat.reduceAdd, Nat.reduceSub, Nat.reduceMul, Nat.reduceLT, Nat.reduceLeDiff, Nat.reduceBNe, Int.reduceBEq, Int.reduceBNe, Int.reduceLT, Int.reduceLE, Spn.a, Msg.a, Eff.a]
  · simp (maxSteps := 4000000) only [go_sem, ↓reduceIte, reduceCtorEq, Nat.reduceEqDiff, Nat.reduceBEq, Nat.reduceAdd, Nat.reduceSub, Nat.reduceMul, Nat.reduceLT, Nat.reduceLeDiff, Nat.reduceBNe, Int.reduceBEq, Int.reduceBNe, Int.reduceLT, Int.reduceLE, Spn.a, Msg.a, Eff.a]
  · simp (maxSteps := 4000000) only [go_sem, ↓reduceIte, reduceCtorEq, Nat.reduceEqDiff, Nat.reduceBEq, Nat.reduceAdd, Nat.reduceSub, Nat.reduceMul, Nat.reduceLT, Nat.reduceLeDiff, Nat.reduceBNe, Int.reduceBEq, Int.reduceBNe, Int.reduceLT, Int.reduceLE, Spn.a, Msg.a, Eff.a]
  · unfold nextOf; rw [hm]
  rintro k σ ⟨j, hj, rfl, t0, t7, t6, o6, hr⟩
  simp only [r_sqNext_l9]
  by_cases hlt : j < l.length
  · have hlt' : (j : Int) < (l.length : Int) := by omega
    obtain ⟨x, hx⟩ : ∃ x, l[j]? = some x := ⟨_, List.getElem?_eq_getElem hlt⟩
    have hgj := hg j x hx
    have hw : IntKind.i64.wrap ((j : Int) + 1) = ((j + 1 : Nat) : Int) := by rw [IntWalk.i64_in _ (by have := hl.1; omega)]; rfl
    rw [show l.length - j = (l.length - (j + 1)) + 1 by omega, firstFrom, hx, Option.any_some] at hr
    simp (maxSteps := 4000000) only [go_sem, ↓reduceIte, reduceCtorEq, Nat.reduceEqDiff, Nat.reduceBEq, Nat.reduceAdd, Nat.reduceSub, Nat.reduceMul, Nat.reduceLT, Nat.reduceLeDiff, Nat.reduceBNe, Int.reduceBEq, Int.reduceBNe, Int.reduceLT, Int.reduceLE, Spn.a, Msg.a, Eff.a, t0, t7, t6, o6, hlt', hgj, List.length_map, Int.toNat_natCast]
    refine ⟨by omega, ?_⟩
    (first | refine calling (msgTouches x m.span (hl.2 x (List.mem_of_getElem? hx))) ?_ | refine callingH (msgTouches x m.span (hl.2 x (List.mem_of_getElem? hx))) ?_)
    cases hp : x.span.touch m.span with
    | true =>
      rw [hp, if_pos rfl] at hr
      simp (maxSteps := 4000000) only [go_sem, ↓reduceIte, reduceCtorEq, Nat.reduceEqDiff, Nat.reduceBEq, Nat.reduceAdd, Nat.reduceSub, Nat.reduceMul, Nat.reduceLT, Nat.reduceLeDiff, Nat.reduceBNe, Int.reduceBEq, Int.reduceBNe, Int.reduceLT, Int.reduceLE, Spn.a, Msg.a, Eff.a, t0, t7, t6, o6, hr.symm, ansOf]
    | false =>
      rw [hp, if_neg (by simp)] at hr
      simp (maxSteps := 4000000) only [go_sem, ↓reduceIte, reduceCtorEq, Nat.reduceEqDiff, Nat.reduceBEq, Nat.reduceAdd, Nat.reduceSub, Nat.reduceMul, Nat.reduceLT, Nat.reduceLeDiff, Nat.reduceBNe, Int.reduceBEq, Int.reduceBNe, Int.reduceLT, Int.reduceLE, Spn.a, Msg.a, Eff.a, t0, t7, t6, o6, hw]
      refine ⟨l.length - (j + 1), by omega, j + 1, by omega, rfl, ?_, ?_, ?_, ?_, hr⟩ <;>
        (simp (maxSteps := 4000000) only [go_sem, ↓reduceIte, reduceCtorEq, Nat.reduceEqDiff, Nat.reduceBEq, Nat.reduceAdd, Nat.reduceSub, Nat.reduceMul, Nat.reduceLT, Nat.reduceLeDiff, Nat.reduceBNe, Int.reduceBEq, Int.reduceBNe, Int.reduceLT, Int.reduceLE, Spn.a, Msg.a, Eff.a, t0, t7, t6, o6, hw])
  · have hlt' : ¬ (j : Int) < (l.length : Int) := by omega
    rw [show l.length - j = 0 by omega, firstFrom] at hr
    simp (maxSteps := 4000000) only [go_sem, ↓reduceIte, reduceCtorEq, Nat.reduceEqDiff, Nat.reduceBEq, Nat.reduceAdd, Nat.reduceSub, Nat.reduceMul, Nat.reduceLT, Nat.reduceLeDiff, Nat.reduceBNe, Int.reduceBEq, Int.reduceBNe, Int.reduceLT, Int.reduceLE, Spn.a, Msg.a, Eff.a, t0, t7, hlt', List.length_map, ← hr, ansOf]
/-! ### percolate/squeeze.covered$1 -/
def r_sqCov1_0 : Reg := ⟨[], [⟨(.box 6 55 (.t 0)), (some 2), none, [], []⟩, ⟨(.mv (.c (.bool false))), (some 3), none, [], []⟩], [2], [], false⟩
def r_sqCov1_1 : Reg := ⟨[⟨(.faddr 1 (.t 2)), (some 4), none, [10, 11], []⟩, ⟨(.load 1 false (.t 4)), (some 5), none, [10, 11], []⟩, ⟨(.bin .eql (.t 5) (.c (.int .i64 4))), (some 6), none, [10, 11], []⟩, ⟨(.mv (.t 6)), (some 7), none, [10, 11], []⟩, ⟨(.load 3 true (.t 1)), (some 8), (some (7, true)), [10, 11], []⟩, ⟨(.load 6 true (.t 2)), (some 9), (some (7, true)), [10, 11], []⟩, ⟨(.callv (.c (.clo 105 [] [])) [(.t 9)]), (some 10), (some (7, true)), [11], []⟩], [⟨(.callv (.c (.clo 116 [] [])) [(.t 8), (.t 10)]), (some 11), (some (7, true)), [], []⟩, ⟨(.pick (.t 7) (.t 11) (.c (.bool false))), (some 12), none, [], []⟩, ⟨(.mv (.t 12)), (some 3), none, [], []⟩], [10, 11], [], true⟩
def ir_sqCov1 : IR := (.seq (.reg r_sqCov1_0)
  (.seq (.reg r_sqCov1_1)
  .ret))
def res_sqCov1 : List RDesc := [(.tmp 3)]
theorem e_sqCov1_0 (C : FuncId → List AV → AV → Prop) (σ : St) (K : St → Prop) : runReg C r_sqCov1_0 σ K = runOps C [⟨(.box 6 55 (.t 0)), (some 2), none, [], []⟩, ⟨(.mv (.c (.bool false))), (some 3), none, [], []⟩] (σ.kills [2]) K := rfl
theorem e_sqCov1_1 (C : FuncId → List AV → AV → Prop) (σ : St) (K : St → Prop) : runReg C r_sqCov1_1 σ K = runHead C [] [⟨(.callv (.c (.clo 116 [] [])) [(.t 8), (.t 10)]), (some 11), (some (7, true)), [], []⟩, ⟨(.pick (.t 7) (.t 11) (.c (.bool false))), (some 12), none, [], []⟩, ⟨(.mv (.t 12)), (some 3), none, [], []⟩] [⟨(.faddr 1 (.t 2)), (some 4), none, [10, 11], []⟩, ⟨(.load 1 false (.t 4)), (some 5), none, [10, 11], []⟩, ⟨(.bin .eql (.t 5) (.c (.int .i64 4))), (some 6), none, [10, 11], []⟩, ⟨(.mv (.t 6)), (some 7), none, [10, 11], []⟩, ⟨(.load 3 true (.t 1)), (some 8), (some (7, true)), [10, 11], []⟩, ⟨(.load 6 true (.t 2)), (some 9), (some (7, true)), [10, 11], []⟩, ⟨(.callv (.c (.clo 105 [] [])) [(.t 9)]), (some 10), (some (7, true)), [11], []⟩] (σ.kills [10, 11]) K := rfl
theorem fn_sqCov1 {args : List AV} {r : AV} (ha : args.length.ble Try.f132.ntmps = true) (h : run (AFn Try.prog) ir_sqCov1 (endQ res_sqCov1 r) (initSt args)) : AFn Try.prog 132 args r :=
  AFn.of_code (hint := fun _ => []) (c := Try.f132.body.getD .skip) (by kernel_rfl) (by kernel_rfl) Try.func132 (by kernel_rfl) (by kernel_rfl) (by kernel_rfl) (of_decide_eq_true (by kernel_rfl)) (Nat.le_of_ble_eq_true ha) (run_ok h)

attribute [local go_sem ↓] ir_sqCov1
attribute [local go_sem] res_sqCov1 e_sqCov1_0 e_sqCov1_1

theorem covered1 (m : Msg) (s : Spn) (hk : m.key.size ≤ 9223372036854775806) : AFn Try.prog 132 [m.a, .rp [.str s.lo, .str s.hi, .bool s.op]] (.bool (m.kind == 4 && s.within m.span)) := by
  refine fn_sqCov1 rfl ?_
  cases h : (m.kind == 4) with
  | false => simp (maxSteps := 4000000) only [go_sem, ↓reduceIte, reduceCtorEq, Nat.reduceEqDiff, Nat.reduceBEq, Nat.reduceAdd, Nat.reduceSub, Nat.reduceMul, Nat.reduceLT, Nat.reduceLeDiff, Nat.reduceBNe, Int.reduceBEq, Int.reduceBNe, Int.reduceLT, Int.reduceLE, Spn.a, Msg.a, Eff.a, h]
  | true =>
    simp (maxSteps := 4000000) only [go_sem, ↓reduceIte, reduceCtorEq, Nat.reduceEqDiff, Nat.reduceBEq, Nat.reduceAdd, Nat.reduceSub, Nat.reduceMul, Nat.reduceLT, Nat.reduceLeDiff, Nat.reduceBNe, Int.reduceBEq, Int.reduceBNe, Int.reduceLT, Int.reduceLE, Spn.a, Msg.a, Eff.a, h]
    (first | refine calling (msgSpan m hk) ?_ | refine callingH (msgSpan m hk) ?_)
    simp (maxSteps := 4000000) only [go_sem, ↓reduceIte, reduceCtorEq, Nat.reduceEqDiff, Nat.reduceBEq, Nat.reduceAdd, Nat.reduceSub, Nat.reduceMul, Nat.reduceLT, Nat.reduceLeDiff, Nat.reduceBNe, Int.reduceBEq, Int.reduceBNe, Int.reduceLT, Int.reduceLE, Spn.a, Msg.a, Eff.a, h]
    (first | refine calling (spanWithin s m.span) ?_ | refine callingH (spanWithin s m.span) ?_)
    simp (maxSteps := 4000000) only [go_sem, ↓reduceIte, reduceCtorEq, Nat.reduceEqDiff, Nat.reduceBEq, Nat.reduceAdd, Nat.reduceSub, Nat.reduceMul, Nat.reduceLT, Nat.reduceLeDiff, Nat.reduceBNe, Int.reduceBEq, Int.reduceBNe, Int.reduceLT, Int.reduceLE, Spn.a, Msg.a, Eff.a, h]

def cov (l : List Msg) (i : Nat) : Bool := match l[i]? with
  | some m => (l.drop (i + 1)).any fun x => x.kind == 4 && m.span.within x.span
  | none => false
def dead (l : List Msg) (i : Nat) : Bool := match l[i]? with
  | some m => if m.kind = 4 then cov l i else match nextOf l i with
    | some j => (l[j]?).any fun x => x.kind != 2
    | none => false
  | none => false

theorem firstFrom_some {p : Nat → Bool} : ∀ {f j k : Nat}, firstFrom p f j = some k → j ≤ k ∧ k < j + f ∧ p k = true
  | 0, j, k, h => by simp [firstFrom] at h
  | f + 1, j, k, h => by
    simp only [firstFrom] at h
    by_cases hp : p j = true
    · rw [if_pos hp] at h; cases h
      exact ⟨Nat.le_refl _, by omega, hp⟩
    · rw [if_neg hp] at h
      obtain ⟨h1, h2, h3⟩ := firstFrom_some h
      exact ⟨by omega, by omega, h3⟩
theorem nextOf_lt {l : List Msg} {i j : Nat} (h : nextOf l i = some j) : i < j ∧ ∃ x, l[j]? = some x := by
  unfold nextOf at h
  split at h
  · obtain ⟨h1, h2, h3⟩ := firstFrom_some h
    refine ⟨by omega, ?_⟩
    cases hx : l[j]? with
    | none => simp only [hx] at h3; cases h3
    | some x => exact ⟨x, rfl⟩
  · cases h
def unMsg : AV → Msg
  | .agg [.int _ a, .int _ b, .str c, .str d, .bool e, .str f] => ⟨a, b, c, d, e, f⟩
  | _ => ⟨0, 0, ⟨#[]⟩, ⟨#[]⟩, false, ⟨#[]⟩⟩
theorem unMsg_a (m : Msg) : unMsg m.a = m := rfl

theorem idx_any (q : Msg → Bool) (p : AV → Bool) (h : ∀ m : Msg, p m.a = q m) : ∀ (l : List Msg) (j : Nat), decide (0 ≤ idxFrom p (l.map Msg.a) j) = l.any q
  | [], j => by simp [idxFrom]
  | x :: l, j => by
    simp only [List.map_cons, idxFrom, List.any_cons, h]
    cases q x with
    | true => simp
    | false => simpa using idx_any q p h l (j + 1)

/-! ### percolate/squeeze.covered -/
def r_sqCov_0 : Reg := ⟨[], [⟨(.mv (.c (.bool false))), (some 4), none, [], []⟩], [], [], false⟩
def r_sqCov_1 : Reg := ⟨[], [⟨(.mv (.t 0)), (some 6), none, [10, 5], []⟩, ⟨(.mv (.t 1)), (some 7), none, [10, 5], []⟩, ⟨(.iaddr 6 (.t 6) (.t 7)), (some 8), none, [10, 5], []⟩, ⟨(.load 6 true (.t 8)), (some 9), none, [10, 5], []⟩, ⟨(.callv (.c (.clo 105 [] [])) [(.t 9)]), (some 10), none, [5], []⟩, ⟨(.alloc 3 41 (.agg [(.str ⟨#[]⟩), (.str ⟨#[]⟩), (.bool false)])), (some 5), none, [], []⟩, ⟨(.store 3 (.t 5) (.t 10)), none, none, [], []⟩], [10, 5], [], false⟩
def r_sqCov_2 : Reg := ⟨[], [⟨(.mv (.t 0)), (some 11), none, [16], []⟩, ⟨(.mv (.t 1)), (some 12), none, [16], []⟩, ⟨(.bin .add (.t 12) (.c (.int .i64 1))), (some 13), none, [16], []⟩, ⟨(.slc false 6 (.t 11) (some (.t 13)) none), (some 14), none, [16], []⟩, ⟨(.mkfn 132 [] [(.t 5)]), (some 15), none, [16], []⟩, ⟨(.callv (.c (.clo 131 [] [])) [(.t 14), (.t 15)]), (some 16), none, [], []⟩, ⟨(.mv (.t 16)), (some 4), none, [], []⟩], [16], [], false⟩
def ir_sqCov : IR := (.seq (.reg r_sqCov_0)
  (.seq (.reg r_sqCov_1)
  (.seq (.reg r_sqCov_2)
  .ret)))
def res_sqCov : List RDesc := [(.tmp 4)]
theorem e_sqCov_0 (C : FuncId → List AV → AV → Prop) (σ : St) (K : St → Prop) : runReg C r_sqCov_0 σ K = runOps C [⟨(.mv (.c (.bool false))), (some 4), none, [], []⟩] (σ.kills []) K := rfl
theorem e_sqCov_1 (C : FuncId → List AV → AV → Prop) (σ : St) (K : St → Prop) : runReg C r_sqCov_1 σ K = runOps C [⟨(.mv (.t 0)), (some 6), none, [10, 5], []⟩, ⟨(.mv (.t 1)), (some 7), none, [10, 5], []⟩, ⟨(.iaddr 6 (.t 6) (.t 7)), (some 8), none, [10, 5], []⟩, ⟨(.load 6 true (.t 8)), (some 9), none, [10, 5], []⟩, ⟨(.callv (.c (.clo 105 [] [])) [(.t 9)]), (some 10), none, [5], []⟩, ⟨(.alloc 3 41 (.agg [(.str ⟨#[]⟩), (.str ⟨#[]⟩), (.bool false)])), (some 5), none, [], []⟩, ⟨(.store 3 (.t 5) (.t 10)), none, none, [], []⟩] (σ.kills [10, 5]) K := rfl
theorem e_sqCov_2 (C : FuncId → List AV → AV → Prop) (σ : St) (K : St → Prop) : runReg C r_sqCov_2 σ K = runOps C [⟨(.mv (.t 0)), (some 11), none, [16], []⟩, ⟨(.mv (.t 1)), (some 12), none, [16], []⟩, ⟨(.bin .add (.t 12) (.c (.int .i64 1))), (some 13), none, [16], []⟩, ⟨(.slc false 6 (.t 11) (some (.t 13)) none), (some 14), none, [16], []⟩, ⟨(.mkfn 132 [] [(.t 5)]), (some 15), none, [16], []⟩, ⟨(.callv (.c (.clo 131 [] [])) [(.t 14), (.t 15)]), (some 16), none, [], []⟩, ⟨(.mv (.t 16)), (some 4), none, [], []⟩] (σ.kills [16]) K := rfl
theorem fn_sqCov {args : List AV} {r : AV} (ha : args.length.ble Try.f107.ntmps = true) (h : run (AFn Try.prog) ir_sqCov (endQ res_sqCov r) (initSt args)) : AFn Try.prog 107 args r :=
  AFn.of_code (hint := fun _ => []) (c := Try.f107.body.getD .skip) (by kernel_rfl) (by kernel_rfl) Try.func107 (by kernel_rfl) (by kernel_rfl) (by kernel_rfl) (of_decide_eq_true (by kernel_rfl)) (Nat.le_of_ble_eq_true ha) (run_ok h)

/-! ### percolate/squeeze.Dead -/
def r_sqDead_0 : Reg := ⟨[], [⟨(.mv (.c (.bool false))), (some 4), none, [], []⟩], [], [], false⟩
def r_sqDead_1 : Reg := ⟨[], [⟨(.mv (.t 1)), (some 7), none, [], []⟩, ⟨(.bin .lss (.t 7) (.c (.int .i64 0))), (some 8), none, [], []⟩, ⟨(.mv (.t 8)), (some 9), none, [], []⟩, ⟨(.mv (.t 1)), (some 10), (some (9, false)), [], []⟩, ⟨(.mv (.t 0)), (some 11), (some (9, false)), [], []⟩, ⟨(.len false (.t 11)), (some 12), (some (9, false)), [], []⟩, ⟨(.bin .geq (.t 10) (.t 12)), (some 13), (some (9, false)), [], []⟩, ⟨(.pick (.t 9) (.c (.bool true)) (.t 13)), (some 14), none, [], []⟩], [], [], false⟩
def r_sqDead_2 : Reg := ⟨[], [⟨(.mv (.c (.bool false))), (some 4), none, [], []⟩], [], [], false⟩
def r_sqDead_3 : Reg := ⟨[], [⟨(.mv (.t 0)), (some 15), none, [], []⟩, ⟨(.mv (.t 1)), (some 16), none, [], []⟩, ⟨(.iaddr 6 (.t 15) (.t 16)), (some 17), none, [], []⟩, ⟨(.faddr 1 (.t 17)), (some 18), none, [], []⟩, ⟨(.load 1 false (.t 18)), (some 19), none, [], []⟩, ⟨(.bin .eql (.t 19) (.c (.int .i64 4))), (some 20), none, [], []⟩], [], [], false⟩
def r_sqDead_4 : Reg := ⟨[], [⟨(.mv (.t 0)), (some 21), none, [23], []⟩, ⟨(.mv (.t 1)), (some 22), none, [23], []⟩, ⟨(.callv (.c (.clo 107 [] [])) [(.t 21), (.t 22)]), (some 23), none, [], []⟩, ⟨(.mv (.t 23)), (some 4), none, [], []⟩], [23], [], false⟩
def r_sqDead_5 : Reg := ⟨[], [⟨(.mv (.t 0)), (some 25), none, [27], []⟩, ⟨(.mv (.t 1)), (some 26), none, [27], []⟩, ⟨(.callv (.c (.clo 61 [] [])) [(.t 25), (.t 26)]), (some 27), none, [], []⟩, ⟨(.mv (.t 27)), (some 24), none, [], []⟩, ⟨(.ext 0 (.t 24)), (some 28), none, [], []⟩, ⟨(.ext 1 (.t 24)), (some 29), none, [], []⟩, ⟨(.mv (.t 28)), (some 5), none, [], []⟩, ⟨(.mv (.t 29)), (some 6), none, [], []⟩], [27], [], false⟩
def r_sqDead_6 : Reg := ⟨[], [⟨(.mv (.t 6)), (some 30), none, [], []⟩, ⟨(.mv (.t 30)), (some 31), none, [], []⟩, ⟨(.mv (.t 0)), (some 32), (some (31, true)), [], []⟩, ⟨(.mv (.t 5)), (some 33), (some (31, true)), [], []⟩, ⟨(.iaddr 6 (.t 32) (.t 33)), (some 34), (some (31, true)), [], []⟩, ⟨(.faddr 1 (.t 34)), (some 35), (some (31, true)), [], []⟩, ⟨(.load 1 false (.t 35)), (some 36), (some (31, true)), [], []⟩, ⟨(.bin .neq (.t 36) (.c (.int .i64 2))), (some 37), (some (31, true)), [], []⟩, ⟨(.pick (.t 31) (.t 37) (.c (.bool false))), (some 38), none, [], []⟩, ⟨(.mv (.t 38)), (some 4), none, [], []⟩], [], [], false⟩
def ir_sqDead : IR := (.seq (.reg r_sqDead_0)
  (.seq (.seq (.reg r_sqDead_1)
  (.cond (.t 14) (.seq (.reg r_sqDead_2)
  .ret)
  .skip))
  (.seq (.seq (.reg r_sqDead_3)
  (.cond (.t 20) (.seq (.reg r_sqDead_4)
  .ret)
  .skip))
  (.seq (.reg r_sqDead_5)
  (.seq (.reg r_sqDead_6)
  .ret)))))
def res_sqDead : List RDesc := [(.tmp 4)]
theorem e_sqDead_0 (C : FuncId → List AV → AV → Prop) (σ : St) (K : St → Prop) : runReg C r_sqDead_0 σ K = runOps C [⟨(.mv (.c (.bool false))), (some 4), none, [], []⟩] (σ.kills []) K := rfl
theorem e_sqDead_1 (C : FuncId → List AV → AV → Prop) (σ : St) (K : St → Prop) : runReg C r_sqDead_1 σ K = runOps C [⟨(.mv (.t 1)), (some 7), none, [], []⟩, ⟨(.bin .lss (.t 7) (.c (.int .i64 0))), (some 8), none, [], []⟩, ⟨(.mv (.t 8)), (some 9), none, [], []⟩, ⟨(.mv (.t 1)), (some 10), (some (9, false)), [], []⟩, ⟨(.mv (.t 0)), (some 11), (some (9, false)), [], []⟩, ⟨(.len false (.t 11)), (some 12), (some (9, false)), [], []⟩, ⟨(.bin .geq (.t 10) (.t 12)), (some 13), (some (9, false)), [], []⟩, ⟨(.pick (.t 9) (.c (.bool true)) (.t 13)), (some 14), none, [], []⟩] (σ.kills []) K := rfl
theorem e_sqDead_2 (C : FuncId → List AV → AV → Prop) (σ : St) (K : St → Prop) : runReg C r_sqDead_2 σ K = runOps C [⟨(.mv (.c (.bool false))), (some 4), none, [], []⟩] (σ.kills []) K := rfl
theorem e_sqDead_3 (C : FuncId → List AV → AV → Prop) (σ : St) (K : St → Prop) : runReg C r_sqDead_3 σ K = runOps C [⟨(.mv (.t 0)), (some 15), none, [], []⟩, ⟨(.mv (.t 1)), (some 16), none, [], []⟩, ⟨(.iaddr 6 (.t 15) (.t 16)), (some 17), none, [], []⟩, ⟨(.faddr 1 (.t 17)), (some 18), none, [], []⟩, ⟨(.load 1 false (.t 18)), (some 19), none, [], []⟩, ⟨(.bin .eql (.t 19) (.c (.int .i64 4))), (some 20), none, [], []⟩] (σ.kills []) K := rfl
theorem e_sqDead_4 (C : FuncId → List AV → AV → Prop) (σ : St) (K : St → Prop) : runReg C r_sqDead_4 σ K = runOps C [⟨(.mv (.t 0)), (some 21), none, [23], []⟩, ⟨(.mv (.t 1)), (some 22), none, [23], []⟩, ⟨(.callv (.c (.clo 107 [] [])) [(.t 21), (.t 22)]), (some 23), none, [], []⟩, ⟨(.mv (.t 23)), (some 4), none, [], []⟩] (σ.kills [23]) K := rfl
theorem e_sqDead_5 (C : FuncId → List AV → AV → Prop) (σ : St) (K : St → Prop) : runReg C r_sqDead_5 σ K = runOps C [⟨(.mv (.t 0)), (some 25), none, [27], []⟩, ⟨(.mv (.t 1)), (some 26), none, [27], []⟩, ⟨(.callv (.c (.clo 61 [] [])) [(.t 25), (.t 26)]), (some 27), none, [], []⟩, ⟨(.mv (.t 27)), (some 24), none, [], []⟩, ⟨(.ext 0 (.t 24)), (some 28), none, [], []⟩, ⟨(.ext 1 (.t 24)), (some 29), none, [], []⟩, ⟨(.mv (.t 28)), (some 5), none, [], []⟩, ⟨(.mv (.t 29)), (some 6), none, [], []⟩] (σ.kills [27]) K := rfl
theorem e_sqDead_6 (C : FuncId → List AV → AV → Prop) (σ : St) (K : St → Prop) : runReg C r_sqDead_6 σ K = runOps C [⟨(.mv (.t 6)), (some 30), none, [], []⟩, ⟨(.mv (.t 30)), (some 31), none, [], []⟩, ⟨(.mv (.t 0)), (some 32), (some (31, true)), [], []⟩, ⟨(.mv (.t 5)), (some 33), (some (31, true)), [], []⟩, ⟨(.iaddr 6 (.t 32) (.t 33)), (some 34), (some (31, true)), [], []⟩, ⟨(.faddr 1 (.t 34)), (some 35), (some (31, true)), [], []⟩, ⟨(.load 1 false (.t 35)), (some 36), (some (31, true)), [], []⟩, ⟨(.bin .neq (.t 36) (.c (.int .i64 2))), (some 37), (some (31, true)), [], []⟩, ⟨(.pick (.t 31) (.t 37) (.c (.bool false))), (some 38), none, [], []⟩, ⟨(.mv (.t 38)), (some 4), none, [], []⟩] (σ.kills []) K := rfl
theorem fn_sqDead {args : List AV} {r : AV} (ha : args.length.ble Try.f64.ntmps = true) (h : run (AFn Try.prog) ir_sqDead (endQ res_sqDead r) (initSt args)) : AFn Try.prog 64 args r :=
  AFn.of_code (hint := fun _ => []) (c := Try.f64.body.getD .skip) (by kernel_rfl) (by kernel_rfl) Try.func64 (by kernel_rfl) (by kernel_rfl) (by kernel_rfl) (of_decide_eq_true (by kernel_rfl)) (Nat.le_of_ble_eq_true ha) (run_ok h)

attribute [local go_sem ↓] ir_sqCov
attribute [local go_sem] res_sqCov e_sqCov_0 e_sqCov_1 e_sqCov_2
attribute [local go_sem ↓] ir_sqDead
attribute [local go_sem] res_sqDead e_sqDead_0 e_sqDead_1 e_sqDead_2 e_sqDead_3 e_sqDead_4 e_sqDead_5 e_sqDead_6

theorem covered_in (l : List Msg) (i : Nat) (hl : MOk l) (hi : i < l.length) : AFn Try.prog 107 [.sl (l.map Msg.a), .int .i64 i] (.bool (cov l i)) := by
  obtain ⟨m, hm⟩ : ∃ m, l[i]? = some m := ⟨_, List.getElem?_eq_getElem hi⟩
  have hg : (l.map Msg.a).getD i .und = .agg [.int .i64 m.stamp, .int .i64 m.kind, .str m.key, .str m.hi, .bool m.op, .str m.val] := by rw [List.getD_eq_getElem?_getD, List.getElem?_map, hm]; rfl
  have h3 : (i : Int) < (l.length : Int) := by omega
  have hw0 : IntKind.i64.wrap ((i : Int) + 1) = ((i + 1 : Nat) : Int) := by rw [IntWalk.i64_in _ (by have := hl.1; omega)]; rfl
  refine fn_sqCov rfl ?_
  simp (maxSteps := 4000000) only [go_sem, ↓reduceIte, reduceCtorEq, Nat.reduceEqDiff, Nat.reduceBEq, Nat.reduceAdd, Nat.reduceSub, Nat.reduceMul, Nat.reduceLT, Nat.reduceLeDiff, Nat.reduceBNe, Int.reduceBEq, Int.reduceBNe, Int.reduceLT, Int.reduceLE, Spn.a, Msg.a, Eff.a, h3, List.length_map, Int.toNat_natCast, hg]
  refine ⟨by omega, calling (msgSpan m (hl.2 m (List.mem_of_getElem? hm))) ?_⟩
  have ht : (l.map Msg.a).take l.length = l.map Msg.a := List.take_of_length_le (by rw [List.length_map]; exact Nat.le_refl _)
  simp (maxSteps := 4000000) only [go_sem, ↓reduceIte, reduceCtorEq, Nat.reduceEqDiff, Nat.reduceBEq, Nat.reduceAdd, Nat.reduceSub, Nat.reduceMul, Nat.reduceLT, Nat.reduceLeDiff, Nat.reduceBNe, Int.reduceBEq, Int.reduceBNe, Int.reduceLT, Int.reduceLE, Spn.a, Msg.a, Eff.a, h3, List.length_map, Int.toNat_natCast, hg, hw0, ht, ← List.map_drop]
  have h6 : ∀ d, d ∈ l.map Msg.a → d.cells.length = 6 := by
    intro d hd
    obtain ⟨x, _, rfl⟩ := List.mem_map.1 hd
    rfl
  refine ⟨⟨h6, by omega, hi⟩, ?_⟩
  (first | refine calling (containsAny (l.drop (i + 1)) 132 [] [.rp [.str m.span.lo, .str m.span.hi, .bool m.span.op]] (fun v => (unMsg v).kind == 4 && m.span.within (unMsg v).span) (by have := hl.1; rw [List.length_drop]; omega) (fun x hx => covered1 x m.span (hl.2 x (List.mem_of_mem_drop hx)))) ?_ | refine callingH (containsAny (l.drop (i + 1)) 132 [] [.rp [.str m.span.lo, .str m.span.hi, .bool m.span.op]] (fun v => (unMsg v).kind == 4 && m.span.within (unMsg v).span) (by have := hl.1; rw [List.length_drop]; omega) (fun x hx => covered1 x m.span (hl.2 x (List.mem_of_mem_drop hx)))) ?_)
  simp (maxSteps := 4000000) only [go_sem, ↓reduceIte, reduceCtorEq, Nat.reduceEqDiff, Nat.reduceBEq, Nat.reduceAdd, Nat.reduceSub, Nat.reduceMul, Nat.reduceLT, Nat.reduceLeDiff, Nat.reduceBNe, Int.reduceBEq, Int.reduceBNe, Int.reduceLT, Int.reduceLE, Spn.a, Msg.a, Eff.a]
  rw [idx_any (fun x => x.kind == 4 && m.span.within x.span) _ (fun x => by rw [unMsg_a])]
  unfold cov; rw [hm]
theorem dead_in (l : List Msg) (i : Nat) (hl : MOk l) (hi : i < l.length) : AFn Try.prog 64 [.sl (l.map Msg.a), .int .i64 i] (.bool (dead l i)) := by
  obtain ⟨m, hm⟩ : ∃ m, l[i]? = some m := ⟨_, List.getElem?_eq_getElem hi⟩
  have hg : ∀ (j : Nat) (x : Msg), l[j]? = some x → (l.map Msg.a).getD j .und = .agg [.int .i64 x.stamp, .int .i64 x.kind, .str x.key, .str x.hi, .bool x.op, .str x.val] := fun j x hx => by rw [List.getD_eq_getElem?_getD, List.getElem?_map, hx]; rfl
  have hgi := hg i m hm
  have h1 : ¬ (i : Int) < 0 := by omega
  have h2 : ¬ (l.length : Int) ≤ (i : Int) := by omega
  have h3 : (i : Int) < (l.length : Int) := by omega
  refine fn_sqDead rfl ?_
  cases h : (m.kind == 4) with
  | true =>
    have h' : m.kind = 4 := by simpa using h
    simp (maxSteps := 4000000) only [go_sem, ↓reduceIte, reduceCtorEq, Nat.reduceEqDiff, Nat.reduceBEq, Nat.reduceAdd, Nat.reduceSub, Nat.reduceMul, Nat.reduceLT, Nat.reduceLeDiff, Nat.reduceBNe, Int.reduceBEq, Int.reduceBNe, Int.reduceLT, Int.reduceLE, Spn.a, Msg.a, Eff.a, h1, h2, h3, List.length_map, Int.toNat_natCast, hgi, h]
    refine ⟨by omega, ?_⟩
    (first | refine calling (covered_in l i hl hi) ?_ | refine callingH (covered_in l i hl hi) ?_)
    simp (maxSteps := 4000000) only [go_sem, ↓reduceIte, reduceCtorEq, Nat.reduceEqDiff, Nat.reduceBEq, Nat.reduceAdd, Nat.reduceSub, Nat.reduceMul, Nat.reduceLT, Nat.reduceLeDiff, Nat.reduceBNe, Int.reduceBEq, Int.reduceBNe, Int.reduceLT, Int.reduceLE, Spn.a, Msg.a, Eff.a]
    simp [dead, hm, h']
  | false =>
    have h' : m.kind ≠ 4 := by simpa using h
    simp (maxSteps := 4000000) only [go_sem, ↓reduceIte, reduceCtorEq, Nat.reduceEqDiff, Nat.reduceBEq, Nat.reduceAdd, Nat.reduceSub, Nat.reduceMul, Nat.reduceLT, Nat.reduceLeDiff, Nat.reduceBNe, Int.reduceBEq, Int.reduceBNe, Int.reduceLT, Int.reduceLE, Spn.a, Msg.a, Eff.a, h1, h2, h3, List.length_map, Int.toNat_natCast, hgi, h]
    refine ⟨by omega, ?_⟩
    (first | refine calling (next_in l i hl hi) ?_ | refine callingH (next_in l i hl hi) ?_)
    cases hn : nextOf l i with
    | none =>
      simp (maxSteps := 4000000) only [go_sem, ↓reduceIte, reduceCtorEq, Nat.reduceEqDiff, Nat.reduceBEq, Nat.reduceAdd, Nat.reduceSub, Nat.reduceMul, Nat.reduceLT, Nat.reduceLeDiff, Nat.reduceBNe, Int.reduceBEq, Int.reduceBNe, Int.reduceLT, Int.reduceLE, Spn.a, Msg.a, Eff.a, hn, ansOf]
      simp [dead, hm, h', hn]
    | some j =>
      obtain ⟨x, hx⟩ : ∃ x, l[j]? = some x := (nextOf_lt hn).2
      have hgj := hg j x hx
      have hj := (List.getElem?_eq_some_iff.1 hx).1
      have h4 : (j : Int) < (l.length : Int) := by omega
      simp (maxSteps := 4000000) only [go_sem, ↓reduceIte, reduceCtorEq, Nat.reduceEqDiff, Nat.reduceBEq, Nat.reduceAdd, Nat.reduceSub, Nat.reduceMul, Nat.reduceLT, Nat.reduceLeDiff, Nat.reduceBNe, Int.reduceBEq, Int.reduceBNe, Int.reduceLT, Int.reduceLE, Spn.a, Msg.a, Eff.a, hn, ansOf, hgj, h4, List.length_map, Int.toNat_natCast]
      refine ⟨by omega, ?_⟩
      simp [dead, hm, h', hn, hx]
end Go.Proofs.Ytdjkefndigijjaa
