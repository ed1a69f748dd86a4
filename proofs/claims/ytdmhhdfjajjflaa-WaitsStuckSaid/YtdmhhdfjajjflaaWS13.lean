/-
  'Rows.WaitsStuckSaid' is proved: the law percolatelaw13.WaitsStuck returns true at every input, and its arguments read as they did. No condition.
-/
import Derived.SizedLaws
import Derived.Test.YtdmhhdfjajjflaaWS12
namespace Go.Proofs.Ytdmhhdfjajjflaa
attribute [local go_sem] ev0 ev1 ev2 ev3 ev4 evA stHOk.eq_1 stHOk.eq_2 stHSt.eq_1 stHSt.eq_2 okV valV fzV okF valF okBld valBld mxOk.eq_1 mxOk.eq_2 mxVal.eq_1 mxVal.eq_2 cellFit.eq_1 cellFit.eq_2 cellFit.eq_3 cellEq.eq_1 cellEq.eq_2 cellEq.eq_3 upd_at AV.flatB AV.flatBs binIok binIV binSok binSV cellsOk.eq_1 cellsOk.eq_2 cellsVal.eq_1 cellsVal.eq_2 objCells.eq_1 objCells.eq_2 objZ.eq_1 objZ.eq_2 objProt.eq_1 objProt.eq_2 oneObj ptrOk.eq_1 ptrOk.eq_2 ptrOk.eq_3 ptrCells.eq_1 ptrCells.eq_2 ptrCells.eq_3 lenOk.eq_1 lenOk.eq_2 lenOk.eq_3 lenOk.eq_4 lenVal.eq_1 lenVal.eq_2 lenVal.eq_3 lenVal.eq_4 faOk.eq_1 faOk.eq_2 faOk.eq_3 faVal.eq_1 faVal.eq_2 faVal.eq_3 iaOk.eq_1 iaOk.eq_2 iaOk.eq_3 iaVal.eq_1 iaVal.eq_2 iaVal.eq_3 slcLen.eq_1 slcLen.eq_2 slcLen.eq_3 slcLen.eq_4 bdOk.eq_1 bdOk.eq_2 bdVal.eq_1 bdVal.eq_2 slcOk.eq_1 slcOk.eq_2 slcOk.eq_3 slcOk.eq_4 slcOk.eq_5 slcKV.eq_1 slcKV.eq_2 slcKV.eq_3 slcVal.eq_1 slcVal.eq_2 slcVal.eq_3 slcVal.eq_4 slcFz.eq_1 slcFz.eq_2 loK.eq_1 loK.eq_2 loK.eq_3 rsVal.eq_1 rsVal.eq_2 rsVal.eq_3 byOk.eq_1 byOk.eq_2 byOk.eq_3 byOk.eq_4 byOk.eq_5 byOk.eq_6 byOk.eq_7 byOk.eq_8 byVal.eq_1 byVal.eq_2 byVal.eq_3 byFz.eq_1 byFz.eq_2 byFz.eq_3 byOks byVals byFzs allOne resSt.eq_1 resSt.eq_2 resName.eq_1 resName.eq_2 stOk.eq_1 stOk.eq_2 stArr.eq_1 stArr.eq_2 stSt.eq_1 stSt.eq_2 AV.patch nameOk_none gB.eq_1 gB.eq_2 gB.eq_3 gIs.eq_1 gIs.eq_2 gIs.eq_3 retV resV resVs evalV cellsV St.byval List.getD_cons_zero List.getD_cons_succ List.getD_nil List.map_cons List.map_nil List.length_cons List.length_nil List.take_succ_cons List.take_zero List.drop_succ_cons List.drop_zero List.headD_cons List.set_cons_zero List.append_nil List.nil_append List.cons_append List.contains_cons List.contains_nil List.elem_cons List.elem_nil List.all_cons List.all_nil List.getElem?_cons_zero List.getElem?_cons_succ List.filterMap_cons List.filterMap_nil Option.isSome_some Option.isSome_none Option.map_some Option.map_none Option.some.injEq AV.int.injEq AV.bool.injEq AV.str.injEq AV.tup.injEq AV.agg.injEq AV.sl.injEq List.cons.injEq Bool.false_eq_true Bool.true_eq_false Bool.not_true Bool.not_false Bool.and_true Bool.true_and Bool.or_false Bool.or_true Bool.false_or Bool.true_or Bool.or_self Bool.and_self Bool.not_eq_true' Bool.not_eq_false' Bool.not_not beq_self_eq_true true_and and_true false_and and_false and_self not_true_eq_false not_false_eq_true forall_const true_implies false_implies implies_true imp_self Nat.lt_add_one Nat.le_refl Nat.zero_le Nat.add_zero Nat.zero_add decide_true decide_false decide_eq_true_eq decide_eq_false_iff_not exists_eq_left exists_eq_left' ge_iff_le gt_iff_lt ite_branch ite_branch' nilOk.eq_1 nilOk.eq_2 nilMay.eq_1 nilMay.eq_2 AV.isSl.eq_1 objTy'.eq_1 objTy'.eq_2 apSt.eq_1 apArr.eq_1 apArr.eq_2 apTwo.eq_1 apTwo.eq_2 apSt2.eq_1 apArr2.eq_1 apArr2.eq_2 slOf.eq_1 fitsV List.mem_cons List.not_mem_nil Bool.false_and Bool.and_false primOk.eq_1 primOk.eq_2 primOk.eq_3 primOk.eq_4 primOk.eq_5 primVal.eq_1 primVal.eq_2 primVal.eq_3 primVal.eq_4 primVal.eq_5 mOk.eq_1 mOk.eq_2 mVal.eq_1 mVal.eq_2 mFz.eq_1 mFz.eq_2 mOks mVals mFzs mCalOk.eq_1 mCalOk.eq_2 mFn.eq_1 mFn.eq_2 mArgs.eq_1 mArgs.eq_2 ckOk.eq_1 ckOk.eq_2 cloOk.eq_1 ptrAt.eq_1 sh.eq_1 sh.eq_2 sh.eq_3 sh.eq_4 sh.eq_5 sh.eq_6 retM shH_small evM entOk.eq_1 entOk.eq_2 ents.eq_1 ents.eq_2 kI.eq_1 mpOk.eq_1 mpR.eq_1 lkV.eq_1 lkV.eq_2 remp.eq_2 evP pvOk.eq_1 pvOk.eq_2 pvVal.eq_1 pvVal.eq_2 plOk.eq_1 plOk.eq_2 plOk.eq_3 plV.eq_1 plV.eq_2 plF.eq_1 plF.eq_2 plVal.eq_1 plVal.eq_2 plFz.eq_1 plFz.eq_2 lpOk.eq_1 lpOk.eq_2 lpVal.eq_1 lpVal.eq_2 lpFz.eq_1 lpFz.eq_2 stpOk.eq_1 stpOk.eq_2 stpSt.eq_1 stpSt.eq_2 stpArr.eq_1 keepS.eq_1 keepS.eq_2 evCl
section
/-
  The chapter's example and the laws, walked.
-/
open Go.RowKit
set_option linter.unusedVariables false
set_option linter.unusedSimpArgs false
set_option maxRecDepth 100000
attribute [local go_sem ↓] runOp headOp
/-! ### percolate/waits.Against -/
def t_agn_0 : List ROp := [⟨(.box 3 33 (.t 0)), (some 2), none, [3], []⟩, ⟨(.box 3 33 (.t 1)), (some 3), none, [], []⟩, ⟨(.mv (.c (.bool false))), (some 4), none, [], []⟩]
def r_agn_0 : Reg := ⟨[], t_agn_0, [2, 3], [], false⟩
def t_agn_1 : List ROp := [⟨(.faddr 1 (.t 2)), (some 5), none, [], []⟩, ⟨(.load 1 false (.t 5)), (some 6), none, [], []⟩, ⟨(.faddr 1 (.t 3)), (some 7), none, [], []⟩, ⟨(.load 1 false (.t 7)), (some 8), none, [], []⟩, ⟨(.bin .eql (.t 6) (.t 8)), (some 9), none, [], []⟩, ⟨(.mv (.t 9)), (some 10), none, [], []⟩, ⟨(.faddr 0 (.t 2)), (some 11), (some (10, true)), [], []⟩, ⟨(.load 1 false (.t 11)), (some 12), (some (10, true)), [], []⟩, ⟨(.faddr 0 (.t 3)), (some 13), (some (10, true)), [], []⟩, ⟨(.load 1 false (.t 13)), (some 14), (some (10, true)), [], []⟩, ⟨(.bin .neq (.t 12) (.t 14)), (some 15), (some (10, true)), [], []⟩, ⟨(.pick (.t 10) (.t 15) (.c (.bool false))), (some 16), none, [], []⟩, ⟨(.mv (.t 16)), (some 17), none, [], []⟩, ⟨(.faddr 2 (.t 2)), (some 18), (some (17, true)), [], []⟩, ⟨(.load 1 false (.t 18)), (some 19), (some (17, true)), [], []⟩, ⟨(.mv (.t 19)), (some 20), (some (17, true)), [], []⟩, ⟨(.faddr 2 (.t 3)), (some 21), (some (20, false)), [], []⟩, ⟨(.load 1 false (.t 21)), (some 22), (some (20, false)), [], []⟩, ⟨(.pick (.t 20) (.c (.bool true)) (.t 22)), (some 23), (some (17, true)), [], []⟩, ⟨(.pick (.t 17) (.t 23) (.c (.bool false))), (some 24), none, [], []⟩, ⟨(.mv (.t 24)), (some 4), none, [], []⟩]
def r_agn_1 : Reg := ⟨[], t_agn_1, [], [], false⟩
def ir_agn : IR := (.seq (.reg r_agn_0)
  (.seq (.reg r_agn_1)
  .ret))
def res_agn : List RDesc := [(.tmp 4)]
theorem e_agn_0 (C : FuncId → List AV → AV → Prop) (σ : St) (K : St → Prop) : runReg C r_agn_0 σ K = runOps C t_agn_0 (σ.kills [2, 3]) K := rfl
theorem e_agn_1 (C : FuncId → List AV → AV → Prop) (σ : St) (K : St → Prop) : runReg C r_agn_1 σ K = runOps C t_agn_1 (σ.kills []) K := rfl
theorem fn_agn {args : List AV} {r : AV} (ha : args.length.ble Try.f11.ntmps = true) (h : run (AFn Try.prog) ir_agn (endQ res_agn r) (initSt args)) : AFn Try.prog 11 args r :=
  AFn.of_code (pv := false) (hint := fun _ => []) (c := Try.f11.body.getD .skip) (by kernel_rfl) (by kernel_rfl) Try.func11 (by kernel_rfl) (by kernel_rfl) (by kernel_rfl) (of_decide_eq_true (by kernel_rfl)) (Nat.le_of_ble_eq_true ha) (Nat.le_of_ble_eq_true (by kernel_rfl)) (run_ok h)
/-! ### percolate/percolatelaw13.awake -/
def r_aw13_0 : Reg := ⟨[], [⟨(.mv (.c (.bool false))), (some 0), none, [], []⟩], [], [], false⟩
def t_aw13_1 : List ROp := [⟨(.bld [(.int .i64 0), (.int .i64 0)] [⟨0, 1, (.c (.int .i64 0))⟩, ⟨1, 1, (.c (.int .i64 1))⟩]), (some 2), none, [5], []⟩, ⟨(.bld [(.int .i64 0), (.int .i64 0)] [⟨0, 1, (.c (.int .i64 1))⟩, ⟨1, 1, (.c (.int .i64 2))⟩]), (some 3), none, [5], []⟩, ⟨(.bld [(.int .i64 0), (.int .i64 0)] [⟨0, 1, (.c (.int .i64 2))⟩, ⟨1, 1, (.c (.int .i64 1))⟩]), (some 4), none, [5], []⟩, ⟨(.bsl 2 29 [(.t 2), (.t 3), (.t 4)]), (some 5), none, [], []⟩, ⟨(.mv (.t 5)), (some 1), none, [], []⟩]
def r_aw13_1 : Reg := ⟨[], t_aw13_1, [5], [], false⟩
def t_aw13_2 : List ROp := [⟨(.mv (.t 1)), (some 6), none, [7, 8, 9, 12, 13, 14, 19], []⟩, ⟨(.callv (.c (.clo 9 [] [])) [(.t 6)]), (some 7), none, [8, 9, 12, 13, 14, 19], []⟩, ⟨(.bsl 1 3 [(.c (.int .i64 1)), (.c (.int .i64 2))]), (some 8), none, [9, 12, 13, 14, 19], []⟩, ⟨(.callv (.c (.clo 6 [] [])) [(.t 7), (.t 8)]), (some 9), none, [12, 13, 14, 19], []⟩, ⟨(.mv (.t 9)), (some 10), none, [12, 13, 14, 19], []⟩, ⟨(.mv (.t 1)), (some 11), (some (10, true)), [12, 13, 14, 19], []⟩, ⟨(.callv (.c (.clo 7 [] [])) [(.t 11), (.c (.int .i64 0))]), (some 12), (some (10, true)), [13, 14, 19], []⟩, ⟨(.bsl 1 3 [(.c (.int .i64 1)), (.c (.int .i64 2))]), (some 13), (some (10, true)), [14, 19], []⟩, ⟨(.callv (.c (.clo 6 [] [])) [(.t 12), (.t 13)]), (some 14), (some (10, true)), [19], []⟩, ⟨(.pick (.t 10) (.t 14) (.c (.bool false))), (some 15), none, [19], []⟩, ⟨(.mv (.t 15)), (some 16), none, [19], []⟩, ⟨(.bld [(.int .i64 0), (.int .i64 0), (.bool false)] [⟨0, 1, (.c (.int .i64 1))⟩, ⟨2, 1, (.c (.bool true))⟩]), (some 17), (some (16, true)), [19], []⟩, ⟨(.bld [(.int .i64 0), (.int .i64 0), (.bool false)] []), (some 18), (some (16, true)), [19], []⟩, ⟨(.callv (.c (.clo 11 [] [])) [(.t 17), (.t 18)]), (some 19), (some (16, true)), [], []⟩, ⟨(.pick (.t 16) (.t 19) (.c (.bool false))), (some 20), none, [], []⟩, ⟨(.mv (.t 20)), (some 0), none, [], []⟩]
def r_aw13_2 : Reg := ⟨[], t_aw13_2, [7, 8, 9, 12, 13, 14, 19], [], false⟩
def ir_aw13 : IR := (.seq (.reg r_aw13_0)
  (.seq (.reg r_aw13_1)
  (.seq (.reg r_aw13_2)
  .ret)))
def res_aw13 : List RDesc := [(.tmp 0)]
theorem e_aw13_0 (C : FuncId → List AV → AV → Prop) (σ : St) (K : St → Prop) : runReg C r_aw13_0 σ K = runOps C [⟨(.mv (.c (.bool false))), (some 0), none, [], []⟩] (σ.kills []) K := rfl
theorem e_aw13_1 (C : FuncId → List AV → AV → Prop) (σ : St) (K : St → Prop) : runReg C r_aw13_1 σ K = runOps C t_aw13_1 (σ.kills [5]) K := rfl
theorem e_aw13_2 (C : FuncId → List AV → AV → Prop) (σ : St) (K : St → Prop) : runReg C r_aw13_2 σ K = runOps C t_aw13_2 (σ.kills [7, 8, 9, 12, 13, 14, 19]) K := rfl
theorem fn_aw13 {args : List AV} {r : AV} (ha : args.length.ble Try.f5.ntmps = true) (h : run (AFn Try.prog) ir_aw13 (endQ res_aw13 r) (initSt args)) : AFn Try.prog 5 args r :=
  AFn.of_code (pv := false) (hint := fun _ => []) (c := Try.f5.body.getD .skip) (by kernel_rfl) (by kernel_rfl) Try.func5 (by kernel_rfl) (by kernel_rfl) (by kernel_rfl) (of_decide_eq_true (by kernel_rfl)) (Nat.le_of_ble_eq_true ha) (Nat.le_of_ble_eq_true (by kernel_rfl)) (run_ok h)
/-! ### percolate/percolatelaw13.WaitsStuck -/
def r_law1_0 : Reg := ⟨[], [⟨(.mv (.c (.bool false))), (some 4), none, [], []⟩], [], [], false⟩
def t_law1_1 : List ROp := [⟨(.mv (.t 0)), (some 5), none, [], []⟩, ⟨(.len false (.t 5)), (some 6), none, [], []⟩, ⟨(.bin .gtr (.t 6) (.c (.int .i64 60))), (some 7), none, [], []⟩]
def r_law1_1 : Reg := ⟨[], t_law1_1, [], [], false⟩
def r_law1_2 : Reg := ⟨[], [⟨(.callv (.c (.clo 5 [] [])) []), (some 8), none, [], []⟩, ⟨(.mv (.t 8)), (some 4), none, [], []⟩], [8], [], false⟩
def t_law1_3 : List ROp := [⟨(.mv (.t 0)), (some 9), none, [11, 14, 15, 18, 20, 21, 24], []⟩, ⟨(.mv (.t 1)), (some 10), none, [11, 14, 15, 18, 20, 21, 24], []⟩, ⟨(.callv (.c (.clo 7 [] [])) [(.t 9), (.t 10)]), (some 11), none, [14, 15, 18, 20, 21, 24], []⟩, ⟨(.mv (.t 0)), (some 12), none, [14, 15, 18, 20, 21, 24], []⟩, ⟨(.mv (.t 1)), (some 13), none, [14, 15, 18, 20, 21, 24], []⟩, ⟨(.callv (.c (.clo 8 [] [])) [(.t 12), (.t 13)]), (some 14), none, [15, 18, 20, 21, 24], []⟩, ⟨(.callv (.c (.clo 6 [] [])) [(.t 11), (.t 14)]), (some 15), none, [18, 20, 21, 24], []⟩, ⟨(.mv (.t 15)), (some 16), none, [18, 20, 21, 24], []⟩, ⟨(.mv (.t 0)), (some 17), (some (16, true)), [18, 20, 21, 24], []⟩, ⟨(.callv (.c (.clo 9 [] [])) [(.t 17)]), (some 18), (some (16, true)), [20, 21, 24], []⟩, ⟨(.mv (.t 0)), (some 19), (some (16, true)), [20, 21, 24], []⟩, ⟨(.callv (.c (.clo 10 [] [])) [(.t 19)]), (some 20), (some (16, true)), [21, 24], []⟩, ⟨(.callv (.c (.clo 6 [] [])) [(.t 18), (.t 20)]), (some 21), (some (16, true)), [24], []⟩, ⟨(.pick (.t 16) (.t 21) (.c (.bool false))), (some 22), none, [24], []⟩, ⟨(.mv (.t 22)), (some 23), none, [24], []⟩, ⟨(.callv (.c (.clo 5 [] [])) []), (some 24), (some (23, true)), [], []⟩, ⟨(.pick (.t 23) (.t 24) (.c (.bool false))), (some 25), none, [], []⟩, ⟨(.mv (.t 25)), (some 4), none, [], []⟩]
def r_law1_3 : Reg := ⟨[], t_law1_3, [11, 14, 15, 18, 20, 21, 24], [], false⟩
def ir_law1 : IR := (.seq (.reg r_law1_0)
  (.seq (.seq (.reg r_law1_1)
  (.cond (.t 7) (.seq (.reg r_law1_2)
  .ret)
  .skip))
  (.seq (.reg r_law1_3)
  .ret)))
def res_law1 : List RDesc := [(.tmp 4)]
theorem e_law1_0 (C : FuncId → List AV → AV → Prop) (σ : St) (K : St → Prop) : runReg C r_law1_0 σ K = runOps C [⟨(.mv (.c (.bool false))), (some 4), none, [], []⟩] (σ.kills []) K := rfl
theorem e_law1_1 (C : FuncId → List AV → AV → Prop) (σ : St) (K : St → Prop) : runReg C r_law1_1 σ K = runOps C t_law1_1 (σ.kills []) K := rfl
theorem e_law1_2 (C : FuncId → List AV → AV → Prop) (σ : St) (K : St → Prop) : runReg C r_law1_2 σ K = runOps C [⟨(.callv (.c (.clo 5 [] [])) []), (some 8), none, [], []⟩, ⟨(.mv (.t 8)), (some 4), none, [], []⟩] (σ.kills [8]) K := rfl
theorem e_law1_3 (C : FuncId → List AV → AV → Prop) (σ : St) (K : St → Prop) : runReg C r_law1_3 σ K = runOps C t_law1_3 (σ.kills [11, 14, 15, 18, 20, 21, 24]) K := rfl
theorem fn_law1 {args : List AV} {r : AV} (ha : args.length.ble Try.f3.ntmps = true) (h : run (AFn Try.prog) ir_law1 (endQ res_law1 r) (initSt args)) : AFn Try.prog 3 args r :=
  AFn.of_code (pv := false) (hint := fun _ => []) (c := Try.f3.body.getD .skip) (by kernel_rfl) (by kernel_rfl) Try.func3 (by kernel_rfl) (by kernel_rfl) (by kernel_rfl) (of_decide_eq_true (by kernel_rfl)) (Nat.le_of_ble_eq_true ha) (Nat.le_of_ble_eq_true (by kernel_rfl)) (run_ok h)
/-! ### percolate/percolatelaw13.WaitsOrdered -/
attribute [local go_sem ↓] ir_agn
attribute [local go_sem] res_agn e_agn_0 t_agn_0 e_agn_1 t_agn_1
attribute [local go_sem ↓] ir_aw13
attribute [local go_sem] res_aw13 e_aw13_0 e_aw13_1 t_aw13_1 e_aw13_2 t_aw13_2
attribute [local go_sem ↓] ir_law1
attribute [local go_sem] res_law1 e_law1_0 e_law1_1 t_law1_1 e_law1_2 e_law1_3 t_law1_3
/-- edges of Go's ints -/
def EdOk (l : List Edge) : Prop := ∀ e, e ∈ l → I64 e.1 ∧ I64 e.2
theorem Reach_ok (l : List Edge) (a : Int) (hl : l.length ≤ 400000) (hi : EdOk l) : AFn Try.prog 7 [.sl (l.map edA), .int .i64 a] (.sl ((reachL l a).map (AV.int .i64))) := by
  refine ⟨by kernel_rfl, fun w Pr vs hG hPr hlen hvs => ?_⟩
  match vs, hlen with
  | [v0, v1], _ =>
    obtain ⟨A, cap, rfl, h1, h2, hE⟩ := EdAt.of (hvs 0 _ v0 rfl rfl)
    obtain rfl := VR.int_of (hvs 1 _ v1 rfl rfl)
    refine (Reach_any l a hl (fun e he => (hi e he).2) A cap w hG hE).mono ?_
    rintro e w' ⟨v, rfl, hB, hrow⟩
    exact ⟨_, rfl, hB, row_vr hrow fun b o hb => .inr hb⟩
theorem Stuck_ok (l : List Edge) (hl : l.length ≤ 400000) (hi : EdOk l) : AFn Try.prog 9 [.sl (l.map edA)] (.sl ((stuckL l).map (AV.int .i64))) := by
  refine ⟨by kernel_rfl, fun w Pr vs hG hPr hlen hvs => ?_⟩
  match vs, hlen with
  | [v0], _ =>
    obtain ⟨A, cap, rfl, h1, h2, hE⟩ := EdAt.of (hvs 0 _ v0 rfl rfl)
    refine (Stuck_any l hl (fun e he => (hi e he).1) A cap w hG hE).mono ?_
    rintro e w' ⟨v, rfl, hB, hV⟩
    exact ⟨_, rfl, hB, hV.kept ⟨Nat.le_refl _, fun _ _ _ h => .inr h, fun _ _ _ _ => rfl, fun _ _ _ _ _ e => e⟩⟩
theorem stuckL_len {l : List Edge} : (stuckL l).length ≤ l.length := by
  have h0 : Rise (stuckL l) := by
    unfold stuckL
    exact List.Pairwise.filter _ (rise_srtI _)
  have h1 : (stuckL l).Nodup := h0.imp fun h => by omega
  have := sub_len h1 (b := l.map (·.1)) fun b hb => by
    unfold stuckL at hb
    exact mem_srtI.1 ((List.mem_filter.1 hb).1)
  rwa [List.length_map] at this
def lW : List Edge := [(0, 1), (1, 2), (2, 1)]
theorem lW_ok : EdOk lW := by
  intro e he
  rcases List.mem_cons.1 he with h | he
  · subst h; exact ⟨by unfold I64; decide, by unfold I64; decide⟩
  rcases List.mem_cons.1 he with h | he
  · subst h; exact ⟨by unfold I64; decide, by unfold I64; decide⟩
  rw [List.mem_singleton.1 he]
  exact ⟨by unfold I64; decide, by unfold I64; decide⟩
theorem agn_ok : AFn Try.prog 11 [.agg [.int .i64 1, .int .i64 0, .bool true], .agg [.int .i64 0, .int .i64 0, .bool false]] (.bool true) := by
  refine fn_agn rfl ?_
  simp (maxSteps := 4000000) only [go_sem, ↓reduceIte, reduceCtorEq, Nat.reduceEqDiff, Nat.reduceBEq, Nat.reduceAdd, Nat.reduceSub, Nat.reduceMul, Nat.reduceLT, Nat.reduceLeDiff, Nat.reduceBNe, Int.reduceBEq, Int.reduceBNe, Int.reduceLT, Int.reduceLE, edA]
theorem aw13_ok : AFn Try.prog 5 [] (.bool true) := by
  refine fn_aw13 rfl ?_
  have c1 := Stuck_ok lW (by decide) lW_ok
  have c2 := Reach_ok lW 0 (by decide) lW_ok
  have e1 : stuckL lW = [1, 2] := by decide
  have e2 : reachL lW 0 = [1, 2] := by decide
  rw [e1] at c1
  rw [e2] at c2
  have c3 := wints_ok [1, 2] [1, 2] (by decide) (by decide)
  rw [eqW_self] at c3
  have c4 := agn_ok
  simp only [lW, List.map_cons, List.map_nil, edA] at c1 c2 c3
  (repeat (first | simp (maxSteps := 4000000) only [go_sem, ↓reduceIte, reduceCtorEq, Nat.reduceEqDiff, Nat.reduceBEq, Nat.reduceAdd, Nat.reduceSub, Nat.reduceMul, Nat.reduceLT, Nat.reduceLeDiff, Nat.reduceBNe, Int.reduceBEq, Int.reduceBNe, Int.reduceLT, Int.reduceLE, edA, List.length_map] | refine calling (c1) ?_ | refine callingH (c1) ?_ | refine calling (c2) ?_ | refine callingH (c2) ?_ | refine calling (c3) ?_ | refine callingH (c3) ?_ | refine calling (c4) ?_ | refine callingH (c4) ?_ | refine And.intro (by omega) ?_ | refine And.intro (fun d hd => by (repeat (rcases hd with rfl | hd; · exact ⟨rfl, rfl⟩)); cases hd) ?_))
theorem law1_ok (l : List Edge) (a : Int) (hi : EdOk l) : AFn Try.prog 3 [.sl (l.map edA), .int .i64 a] (.bool true) := by
  refine fn_law1 rfl ?_
  have c0 := aw13_ok
  by_cases hl : l.length ≤ 60
  case neg =>
    have hl' : (60 : Int) < (l.length : Int) := by omega
    (repeat (first | simp (maxSteps := 4000000) only [go_sem, ↓reduceIte, reduceCtorEq, Nat.reduceEqDiff, Nat.reduceBEq, Nat.reduceAdd, Nat.reduceSub, Nat.reduceMul, Nat.reduceLT, Nat.reduceLeDiff, Nat.reduceBNe, Int.reduceBEq, Int.reduceBNe, Int.reduceLT, Int.reduceLE, edA, hl', List.length_map] | refine calling (c0) ?_ | refine callingH (c0) ?_ | refine And.intro (by omega) ?_ | refine And.intro (fun d hd => by (repeat (rcases hd with rfl | hd; · exact ⟨rfl, rfl⟩)); cases hd) ?_))
  have hl' : ¬ (60 : Int) < (l.length : Int) := by omega
  have c1 := Reach_ok l a (by omega) hi
  have c2 := rrc_ok l a (by omega)
  have r1 := reachL_len (l := l) (a := a)
  have c3 := wints_ok (reachL l a) (reachL l a) (by omega) (by omega)
  rw [eqW_self] at c3
  have c4 := Stuck_ok l (by omega) hi
  have c5 := rst_ok l (by omega)
  have r2 := stuckL_len (l := l)
  have c6 := wints_ok (stuckL l) (stuckL l) (by omega) (by omega)
  rw [eqW_self] at c6
  (repeat (first | simp (maxSteps := 4000000) only [go_sem, ↓reduceIte, reduceCtorEq, Nat.reduceEqDiff, Nat.reduceBEq, Nat.reduceAdd, Nat.reduceSub, Nat.reduceMul, Nat.reduceLT, Nat.reduceLeDiff, Nat.reduceBNe, Int.reduceBEq, Int.reduceBNe, Int.reduceLT, Int.reduceLE, edA, hl', List.length_map] | refine calling (c1) ?_ | refine callingH (c1) ?_ | refine calling (c2) ?_ | refine callingH (c2) ?_ | refine calling (c3) ?_ | refine callingH (c3) ?_ | refine calling (c4) ?_ | refine callingH (c4) ?_ | refine calling (c5) ?_ | refine callingH (c5) ?_ | refine calling (c6) ?_ | refine callingH (c6) ?_ | refine calling (c0) ?_ | refine callingH (c0) ?_ | refine And.intro (by omega) ?_ | refine And.intro (fun d hd => by (repeat (rcases hd with rfl | hd; · exact ⟨rfl, rfl⟩)); cases hd) ?_))
end
section
/-
  Edges that came in; the laws at what came in.
-/
open Go.RowKit
set_option linter.unusedVariables false
set_option linter.unusedSimpArgs false
set_option maxRecDepth 100000
theorem w_cons {T : Ty} {fs : List Ty} {ds : List AV} (h : TypedC (.st (T :: fs)) ds) : ∃ c r, ds = c ++ r ∧ TypedC T c ∧ TypedC (.st fs) r := by
  cases h with
  | cons h1 h2 => exact ⟨_, _, rfl, h1, h2⟩
theorem w_nil {ds : List AV} (h : TypedC (.st []) ds) : ds = [] := by cases h; rfl
theorem w_int {ds : List AV} (h : TypedC (.int .i64) ds) : ∃ n, ds = [.int .i64 n] ∧ -9223372036854775808 ≤ n ∧ n ≤ 9223372036854775807 := by
  cases h with
  | int k n h => exact ⟨n, rfl, bounds_i64 h⟩
theorem w_sl {α : Type} (f : α → AV) (ok : α → Prop) {T : Ty} {ds : List AV} (h : TypedC (.sl T) ds) (hel : ∀ c, TypedC T c → ∃ a, packT T c = f a ∧ ok a) : ∃ l : List α, ds = [.sl (l.map f)] ∧ l.length ≤ 281474976710656 ∧ ∀ a, a ∈ l → ok a := by
  cases h with
  | sl T ls hlen h =>
    have : ∃ l : List α, ls.map (packT T) = l.map f ∧ l.length = ls.length ∧ ∀ a, a ∈ l → ok a := by
      clear hlen
      induction ls with
      | nil => exact ⟨[], rfl, rfl, fun a ha => by cases ha⟩
      | cons c ls ih =>
        obtain ⟨l, h1, h2, h3⟩ := ih fun x hx => h x (List.mem_cons_of_mem _ hx)
        obtain ⟨a, ha, hok⟩ := hel c (h c (List.mem_cons_self ..))
        refine ⟨a :: l, by rw [List.map_cons, List.map_cons, h1, ha], by rw [List.length_cons, List.length_cons, h2], fun b hb => ?_⟩
        rcases List.mem_cons.1 hb with rfl | hb
        · exact hok
        · exact h3 b hb
    obtain ⟨l, h1, h2, h3⟩ := this
    exact ⟨l, by rw [h1], by omega, h3⟩
def EdT : Ty := .st [.int .i64, .int .i64]
theorem ed_of {c : List AV} (h : TypedC EdT c) : ∃ e : Edge, packT EdT c = edA e ∧ (I64 e.1 ∧ I64 e.2) := by
  obtain ⟨c0, r0, rfl, h0, h⟩ := w_cons h
  obtain ⟨c1, r1, rfl, h1, h⟩ := w_cons h
  obtain rfl := w_nil h
  obtain ⟨v0, rfl, b0⟩ := w_int h0
  obtain ⟨v1, rfl, b1⟩ := w_int h1
  exact ⟨(v0, v1), rfl, b0, b1⟩
theorem w_one {w : World} {T : Ty} {v : Value} {ds : List AV} (h : ReadsAs w T [v] ds) : ∃ d, ds = [d] ∧ VR (fun b _ => b < w.heap.size) w d v := by
  obtain ⟨h1, h2, h3⟩ := h
  match ds, h2 with
  | [d], _ => exact ⟨d, rfl, h3 0 d v rfl rfl⟩
theorem eds_in {w : World} {v : Value} (h : ∃ ds, ReadsAs w (.sl EdT) [v] ds) : ∃ l : List Edge, EdOk l ∧ VR (fun b _ => b < w.heap.size) w (.sl (l.map edA)) v := by
  obtain ⟨ds, r⟩ := h
  obtain ⟨d, rfl, u⟩ := w_one r
  obtain ⟨l, hd, _, hok⟩ := w_sl edA (fun e => I64 e.1 ∧ I64 e.2) r.1 (fun c h => ed_of h)
  cases hd
  exact ⟨l, hok, u⟩
theorem w_run {f : FuncId} {w : World} {ds : List AV} {vs : List Value} (hl : ds.length = vs.length) (h : ∀ (j : Nat) (d : AV) (u : Value), ds[j]? = some d → vs[j]? = some u → VR (fun b _ => b < w.heap.size) w d u) (hA : AFn Try.prog f ds (.bool true)) :
    Calls Try.prog f ⟨vs⟩ w fun e w' => e = .returned (.bool true) ∧ Below w.heap.size w w' := by
  have := hA.calls w (fun b _ => b < w.heap.size) vs trivial (fun b o hb => hb) hl h
  refine this.mono fun e w' ⟨u, he, hb, hr⟩ => ?_
  have hr' : VR _ w' (.bool true) u := hr
  cases hr'
  exact ⟨he, hb⟩
theorem stuck_walk (v0 : Value) (a : Int) (w : World) (f0 : ∃ ds, ReadsAs w (.sl EdT) [v0] ds) (f1 : -9223372036854775808 ≤ a ∧ a ≤ 9223372036854775807) :
    Calls Try.prog 3 #[v0, .int .i64 a] w fun e w' => e = .returned (.bool true) ∧ Below w.heap.size w w' := by
  obtain ⟨l, hok, u⟩ := eds_in f0
  refine w_run (vs := [v0, .int .i64 a]) rfl (fun j d x hj hx => ?_) (law1_ok l a hok)
  match j with
  | 0 => cases hj; cases hx; exact u
  | 1 => cases hj; cases hx; exact .int .i64 a
  | j + 2 => simp at hj
end
section
/-
  'Rows.WaitsStuckSaid' is proved: the law percolatelaw13.WaitsStuck returns true at every input, and its arguments read as they did. No condition.
-/
namespace waitsStuck
open Go.ChangeShapes Go.WideShapes Go.ChangeAt Go.RowKit
open Go.ChangeMaps (open_string shut_string)
set_option linter.unusedVariables false
set_option maxRecDepth 100000 in
theorem lifted (os : Os) (started : os.Started) (H : Type) (enc : TypeId × Value → H) :
    ReturnsInHanded {} Try.checked os 3 .any (Rows.waitsStuckSpec.pre6 enc Try.prog Try.f3 Rows.waitsStuckRow.domain false) (Rows.waitsStuckSpec.post enc Try.prog Try.f3 false true false false) := by
  refine returnsInHanded_of_change_sized (C := Try.checked) ownK started (by kernel_rfl) Try.func3
    (ChangeSpec.witness6 (enc := enc) (C := Try.checked) false ⟨#[], #[.slice none 0 0, .int .i64 0], []⟩ 8 (by kernel_rfl) (by kernel_rfl) (by kernel_rfl) (by kernel_rfl)) ?_
  intro W base args ds gs before hval0 hW hcnd hsz _
  have hval : ∀ (j : Nat) t v, Try.f3.params[j]? = some t → args[j]? = some v → Value.okWide Try.prog W .any base t v := hval0
  have hW' := hW
  obtain ⟨p, q, hA0, hV, rfl, hfz, hnd⟩ := hW
  have hA : DataW.TrodAll enc Try.prog W 0 (fun _ => true) true Try.f3.params.toList args.toList ds p := hA0
  rw [Try.params3] at hA hval
  obtain ⟨v0, vs0, d0, ds0, p0, q0, hargs, rfl, rfl, h0, r0⟩ := trodAll_cons hA
  obtain ⟨v1, vs1, d1, ds1, p1, q1, rfl, rfl, rfl, h1, r1⟩ := trodAll_cons r0
  obtain ⟨rfl, rfl, rfl⟩ := trodAll_nil r1
  obtain rfl : args = #[v0, v1] := by cases args; simp_all
  obtain ⟨rfl, rfl⟩ := trodVars_none hV
  have hw0 : (d0.weights Try.prog 22).all (· ≤ reachBytes) = true := weightsEach_mem hsz 0 22 d0 rfl rfl
  obtain ⟨s0, n0, c0, rfl⟩ := okWide_slice Try.underlying22 (hval 0 22 v0 rfl rfl)
  obtain ⟨fu0, ht0⟩ := h0
  have f0 : ∃ ds, ReadsAs W (.sl EdT) [.slice s0 n0 c0] ds := typed_in 8 (x := (d0, p0)) (by kernel_rfl) hw0 ht0
  obtain ⟨a1, rfl, hd1, hp1, w1⟩ := open_int Try.underlying3 (hval 1 3 v1 rfl rfl) h1
  have f1 := bounds_i64 w1
  refine (stuck_walk _ a1 W f0 f1).mono fun e W' ⟨he, hb⟩ => ?_
  subst he
  exact ⟨_, rfl, post_law laidOut hW' rfl rfl rfl rfl rfl Try.underlying4 (by intro t ht; rw [Try.params3] at ht; simp only [List.mem_cons, List.not_mem_nil, or_false] at ht; rcases ht with rfl | rfl <;> exact ⟨by kernel_rfl, of_decide_eq_true (by kernel_rfl)⟩) hb⟩
theorem proved : Rows.WaitsStuckSaid :=
  OpenClaim.holds_of_wide 3 Try.f3 rfl rfl rfl rfl rfl rfl rfl ⟨rfl, rfl, rfl, rfl, rfl⟩ rfl rfl rfl rfl rfl (by kernel_rfl) Try.func3 (by kernel_rfl)
    (of_decide_eq_true (by kernel_rfl)) (by unfold Func.isWrapper; first | (rw [if_pos (by decide +kernel)]; kernel_rfl) | (rw [if_neg (by decide +kernel)]; exact ⟨rfl, rfl⟩))
    (fun os started H enc _ => lifted os started H enc)
end waitsStuck
end
end Go.Proofs.Ytdmhhdfjajjflaa
