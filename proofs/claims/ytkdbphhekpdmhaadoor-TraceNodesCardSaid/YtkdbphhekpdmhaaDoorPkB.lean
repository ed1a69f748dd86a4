/-
  Layer 6 on the plain machine: bytes, texts with their lengths.
-/
import Derived.Test.YtkdbphhekpdmhaaDoorAmR
import Derived.Test.YtkdbphhekpdmhaaDoorShelf
import Derived.IntWalk
namespace Go.Proofs.YtkdbphhekpdmhaaDoor
open Go.RowKit
set_option linter.unusedVariables false
set_option linter.unusedSimpArgs false
set_option maxRecDepth 100000
attribute [local go_sem ↓] runOp headOp
attribute [local go_sem] ev0 ev1 ev2 ev3 ev4 evA stHOk.eq_1 stHOk.eq_2 stHSt.eq_1 stHSt.eq_2 okV valV fzV okF valF okBld valBld mxOk.eq_1 mxOk.eq_2 mxVal.eq_1 mxVal.eq_2 cellFit.eq_1 cellFit.eq_2 cellFit.eq_3 cellEq.eq_1 cellEq.eq_2 cellEq.eq_3 upd_at AV.flatB AV.flatBs binIok binIV binSok binSV cellsOk.eq_1 cellsOk.eq_2 cellsVal.eq_1 cellsVal.eq_2 objCells.eq_1 objCells.eq_2 objZ.eq_1 objZ.eq_2 objProt.eq_1 objProt.eq_2 oneObj ptrOk.eq_1 ptrOk.eq_2 ptrOk.eq_3 ptrCells.eq_1 ptrCells.eq_2 ptrCells.eq_3 lenOk.eq_1 lenOk.eq_2 lenOk.eq_3 lenOk.eq_4 lenVal.eq_1 lenVal.eq_2 lenVal.eq_3 lenVal.eq_4 faOk.eq_1 faOk.eq_2 faOk.eq_3 faVal.eq_1 faVal.eq_2 faVal.eq_3 iaOk.eq_1 iaOk.eq_2 iaOk.eq_3 iaVal.eq_1 iaVal.eq_2 iaVal.eq_3 slcLen.eq_1 slcLen.eq_2 slcLen.eq_3 slcLen.eq_4 bdOk.eq_1 bdOk.eq_2 bdVal.eq_1 bdVal.eq_2 slcOk.eq_1 slcOk.eq_2 slcOk.eq_3 slcOk.eq_4 slcVal.eq_1 slcVal.eq_2 slcVal.eq_3 slcVal.eq_4 slcFz.eq_1 slcFz.eq_2 byOk.eq_1 byOk.eq_2 byOk.eq_3 byOk.eq_4 byOk.eq_5 byOk.eq_6 byOk.eq_7 byVal.eq_1 byVal.eq_2 byVal.eq_3 byFz.eq_1 byFz.eq_2 byFz.eq_3 byOks byVals byFzs allOne resSt.eq_1 resSt.eq_2 resName.eq_1 resName.eq_2 stOk.eq_1 stOk.eq_2 stArr.eq_1 stArr.eq_2 stSt.eq_1 stSt.eq_2 AV.patch nameOk_none gB.eq_1 gB.eq_2 gB.eq_3 gIs.eq_1 gIs.eq_2 gIs.eq_3 retV resV resVs evalV cellsV St.byval List.getD_cons_zero List.getD_cons_succ List.getD_nil List.map_cons List.map_nil List.length_cons List.length_nil List.take_succ_cons List.take_zero List.drop_succ_cons List.drop_zero List.headD_cons List.set_cons_zero List.append_nil List.nil_append List.cons_append List.contains_cons List.contains_nil List.elem_cons List.elem_nil List.all_cons List.all_nil List.getElem?_cons_zero List.getElem?_cons_succ List.filterMap_cons List.filterMap_nil Option.isSome_some Option.isSome_none Option.map_some Option.map_none Option.some.injEq AV.int.injEq AV.bool.injEq AV.str.injEq AV.tup.injEq AV.agg.injEq AV.sl.injEq List.cons.injEq Bool.false_eq_true Bool.true_eq_false Bool.not_true Bool.not_false Bool.and_true Bool.true_and Bool.or_false Bool.or_true Bool.false_or Bool.true_or Bool.or_self Bool.and_self Bool.not_eq_true' Bool.not_eq_false' Bool.not_not beq_self_eq_true true_and and_true false_and and_false and_self not_true_eq_false not_false_eq_true forall_const true_implies false_implies implies_true imp_self Nat.lt_add_one Nat.le_refl Nat.zero_le Nat.add_zero Nat.zero_add decide_true decide_false decide_eq_true_eq decide_eq_false_iff_not exists_eq_left exists_eq_left' ge_iff_le gt_iff_lt ite_branch ite_branch' nilOk.eq_1 nilOk.eq_2 nilMay.eq_1 nilMay.eq_2 AV.isSl.eq_1 objTy'.eq_1 objTy'.eq_2 apSt.eq_1 apArr.eq_1 apArr.eq_2 slOf.eq_1 fitsV List.mem_cons List.not_mem_nil Bool.false_and Bool.and_false primOk.eq_1 primOk.eq_2 primOk.eq_3 primOk.eq_4 primOk.eq_5 primVal.eq_1 primVal.eq_2 primVal.eq_3 primVal.eq_4 primVal.eq_5 mOk.eq_1 mOk.eq_2 mVal.eq_1 mVal.eq_2 mFz.eq_1 mFz.eq_2 mOks mVals mFzs mCalOk.eq_1 mCalOk.eq_2 mFn.eq_1 mFn.eq_2 mArgs.eq_1 mArgs.eq_2 ckOk.eq_1 ckOk.eq_2 cloOk.eq_1 ptrAt.eq_1 sh.eq_1 sh.eq_2 sh.eq_3 sh.eq_4 sh.eq_5 retM shH_small
abbrev bz (c : UInt8) : AV := .int .u8 (c.toNat : Int)
theorem wrapU8 (n : Nat) : IntKind.u8.wrap (n : Int) = ((UInt8.ofNat n).toNat : Int) := by
  rw [show (UInt8.ofNat n).toNat = n % 256 from UInt8.toNat_ofNat' ..]
  simp [IntKind.wrap, IntKind.signed, IntKind.bits]
theorem byteB_bz (c : UInt8) : (AV.int .u8 (c.toNat : Int)).byteB = true := by
  have := c.toNat_lt
  simp [AV.byteB]; omega
theorem toB_bz (c : UInt8) : (AV.int .u8 (c.toNat : Int)).toB = c := by
  simp [AV.toB]
def plainB (c : UInt8) : Bool := (decide (97 ≤ (c.toNat : Int)) && decide ((c.toNat : Int) ≤ 122)) || (decide (65 ≤ (c.toNat : Int)) && decide ((c.toNat : Int) ≤ 90)) || (decide (48 ≤ (c.toNat : Int)) && decide ((c.toNat : Int) ≤ 57)) || ((c.toNat : Int) == 95)
/-! ### percolate/pack.plain -/
def r_plain_0 : Reg := ⟨[], [⟨(.mv (.c (.bool false))), (some 2), none, [], []⟩], [], [], false⟩
def r_plain_1 : Reg := ⟨[], [⟨(.mv (.t 0)), (some 3), none, [], []⟩, ⟨(.bin .geq (.t 3) (.c (.int .u8 97))), (some 4), none, [], []⟩, ⟨(.mv (.t 4)), (some 5), none, [], []⟩, ⟨(.mv (.t 0)), (some 6), (some (5, true)), [], []⟩, ⟨(.bin .leq (.t 6) (.c (.int .u8 122))), (some 7), (some (5, true)), [], []⟩, ⟨(.pick (.t 5) (.t 7) (.c (.bool false))), (some 8), none, [], []⟩, ⟨(.mv (.t 8)), (some 9), none, [], []⟩, ⟨(.mv (.t 0)), (some 10), (some (9, false)), [], []⟩, ⟨(.bin .geq (.t 10) (.c (.int .u8 65))), (some 11), (some (9, false)), [], []⟩, ⟨(.mv (.t 11)), (some 12), (some (9, false)), [], []⟩, ⟨(.mv (.t 0)), (some 13), (some (12, true)), [], []⟩, ⟨(.bin .leq (.t 13) (.c (.int .u8 90))), (some 14), (some (12, true)), [], []⟩, ⟨(.pick (.t 12) (.t 14) (.c (.bool false))), (some 15), (some (9, false)), [], []⟩, ⟨(.pick (.t 9) (.c (.bool true)) (.t 15)), (some 16), none, [], []⟩, ⟨(.mv (.t 16)), (some 17), none, [], []⟩, ⟨(.mv (.t 0)), (some 18), (some (17, false)), [], []⟩, ⟨(.bin .geq (.t 18) (.c (.int .u8 48))), (some 19), (some (17, false)), [], []⟩, ⟨(.mv (.t 19)), (some 20), (some (17, false)), [], []⟩, ⟨(.mv (.t 0)), (some 21), (some (20, true)), [], []⟩, ⟨(.bin .leq (.t 21) (.c (.int .u8 57))), (some 22), (some (20, true)), [], []⟩, ⟨(.pick (.t 20) (.t 22) (.c (.bool false))), (some 23), (some (17, false)), [], []⟩, ⟨(.pick (.t 17) (.c (.bool true)) (.t 23)), (some 24), none, [], []⟩, ⟨(.mv (.t 24)), (some 25), none, [], []⟩, ⟨(.mv (.t 0)), (some 26), (some (25, false)), [], []⟩, ⟨(.bin .eql (.t 26) (.c (.int .u8 95))), (some 27), (some (25, false)), [], []⟩, ⟨(.pick (.t 25) (.c (.bool true)) (.t 27)), (some 28), none, [], []⟩, ⟨(.mv (.t 28)), (some 2), none, [], []⟩], [], [], false⟩
def ir_plain : IR := (.seq (.reg r_plain_0)
  (.seq (.reg r_plain_1)
  .ret))
def res_plain : List RDesc := [(.tmp 2)]
theorem e_plain_0 (C : FuncId → List AV → AV → Prop) (σ : St) (K : St → Prop) : runReg C r_plain_0 σ K = runOps C [⟨(.mv (.c (.bool false))), (some 2), none, [], []⟩] (σ.kills []) K := rfl
theorem e_plain_1 (C : FuncId → List AV → AV → Prop) (σ : St) (K : St → Prop) : runReg C r_plain_1 σ K = runOps C [⟨(.mv (.t 0)), (some 3), none, [], []⟩, ⟨(.bin .geq (.t 3) (.c (.int .u8 97))), (some 4), none, [], []⟩, ⟨(.mv (.t 4)), (some 5), none, [], []⟩, ⟨(.mv (.t 0)), (some 6), (some (5, true)), [], []⟩, ⟨(.bin .leq (.t 6) (.c (.int .u8 122))), (some 7), (some (5, true)), [], []⟩, ⟨(.pick (.t 5) (.t 7) (.c (.bool false))), (some 8), none, [], []⟩, ⟨(.mv (.t 8)), (some 9), none, [], []⟩, ⟨(.mv (.t 0)), (some 10), (some (9, false)), [], []⟩, ⟨(.bin .geq (.t 10) (.c (.int .u8 65))), (some 11), (some (9, false)), [], []⟩, ⟨(.mv (.t 11)), (some 12), (some (9, false)), [], []⟩, ⟨(.mv (.t 0)), (some 13), (some (12, true)), [], []⟩, ⟨(.bin .leq (.t 13) (.c (.int .u8 90))), (some 14), (some (12, true)), [], []⟩, ⟨(.pick (.t 12) (.t 14) (.c (.bool false))), (some 15), (some (9, false)), [], []⟩, ⟨(.pick (.t 9) (.c (.bool true)) (.t 15)), (some 16), none, [], []⟩, ⟨(.mv (.t 16)), (some 17), none, [], []⟩, ⟨(.mv (.t 0)), (some 18), (some (17, false)), [], []⟩, ⟨(.bin .geq (.t 18) (.c (.int .u8 48))), (some 19), (some (17, false)), [], []⟩, ⟨(.mv (.t 19)), (some 20), (some (17, false)), [], []⟩, ⟨(.mv (.t 0)), (some 21), (some (20, true)), [], []⟩, ⟨(.bin .leq (.t 21) (.c (.int .u8 57))), (some 22), (some (20, true)), [], []⟩, ⟨(.pick (.t 20) (.t 22) (.c (.bool false))), (some 23), (some (17, false)), [], []⟩, ⟨(.pick (.t 17) (.c (.bool true)) (.t 23)), (some 24), none, [], []⟩, ⟨(.mv (.t 24)), (some 25), none, [], []⟩, ⟨(.mv (.t 0)), (some 26), (some (25, false)), [], []⟩, ⟨(.bin .eql (.t 26) (.c (.int .u8 95))), (some 27), (some (25, false)), [], []⟩, ⟨(.pick (.t 25) (.c (.bool true)) (.t 27)), (some 28), none, [], []⟩, ⟨(.mv (.t 28)), (some 2), none, [], []⟩] (σ.kills []) K := rfl
theorem fn_plain {args : List AV} {r : AV} (ha : args.length.ble Tryd.f102.ntmps = true) (h : run (AFn Tryd.prog) ir_plain (endQ res_plain r) (initSt args)) : AFn Tryd.prog 102 args r :=
  AFn.of_code (hint := fun _ => []) (c := Tryd.f102.body.getD .skip) (by kernel_rfl) (by kernel_rfl) Tryd.func102 (by kernel_rfl) (by kernel_rfl) (by kernel_rfl) (of_decide_eq_true (by kernel_rfl)) (Nat.le_of_ble_eq_true ha) (Nat.le_of_ble_eq_true (by kernel_rfl)) (run_ok h)

/-! ### percolate/percolateref06.own -/
def r_rOwn_0 : Reg := ⟨[], [⟨(.mv (.c (.bool false))), (some 2), none, [], []⟩], [], [], false⟩
def r_rOwn_1 : Reg := ⟨[], [⟨(.mv (.t 0)), (some 3), none, [], []⟩, ⟨(.bin .leq (.c (.int .u8 97)) (.t 3)), (some 4), none, [], []⟩, ⟨(.mv (.t 4)), (some 5), none, [], []⟩, ⟨(.mv (.t 0)), (some 6), (some (5, true)), [], []⟩, ⟨(.bin .leq (.t 6) (.c (.int .u8 122))), (some 7), (some (5, true)), [], []⟩, ⟨(.pick (.t 5) (.t 7) (.c (.bool false))), (some 8), none, [], []⟩, ⟨(.mv (.t 8)), (some 9), none, [], []⟩, ⟨(.mv (.t 0)), (some 10), (some (9, false)), [], []⟩, ⟨(.bin .leq (.c (.int .u8 65)) (.t 10)), (some 11), (some (9, false)), [], []⟩, ⟨(.mv (.t 11)), (some 12), (some (9, false)), [], []⟩, ⟨(.mv (.t 0)), (some 13), (some (12, true)), [], []⟩, ⟨(.bin .leq (.t 13) (.c (.int .u8 90))), (some 14), (some (12, true)), [], []⟩, ⟨(.pick (.t 12) (.t 14) (.c (.bool false))), (some 15), (some (9, false)), [], []⟩, ⟨(.pick (.t 9) (.c (.bool true)) (.t 15)), (some 16), none, [], []⟩, ⟨(.mv (.t 16)), (some 17), none, [], []⟩, ⟨(.mv (.t 0)), (some 18), (some (17, false)), [], []⟩, ⟨(.bin .leq (.c (.int .u8 48)) (.t 18)), (some 19), (some (17, false)), [], []⟩, ⟨(.mv (.t 19)), (some 20), (some (17, false)), [], []⟩, ⟨(.mv (.t 0)), (some 21), (some (20, true)), [], []⟩, ⟨(.bin .leq (.t 21) (.c (.int .u8 57))), (some 22), (some (20, true)), [], []⟩, ⟨(.pick (.t 20) (.t 22) (.c (.bool false))), (some 23), (some (17, false)), [], []⟩, ⟨(.pick (.t 17) (.c (.bool true)) (.t 23)), (some 24), none, [], []⟩, ⟨(.mv (.t 24)), (some 25), none, [], []⟩, ⟨(.mv (.t 0)), (some 26), (some (25, false)), [], []⟩, ⟨(.bin .eql (.t 26) (.c (.int .u8 95))), (some 27), (some (25, false)), [], []⟩, ⟨(.pick (.t 25) (.c (.bool true)) (.t 27)), (some 28), none, [], []⟩, ⟨(.mv (.t 28)), (some 2), none, [], []⟩], [], [], false⟩
def ir_rOwn : IR := (.seq (.reg r_rOwn_0)
  (.seq (.reg r_rOwn_1)
  .ret))
def res_rOwn : List RDesc := [(.tmp 2)]
theorem e_rOwn_0 (C : FuncId → List AV → AV → Prop) (σ : St) (K : St → Prop) : runReg C r_rOwn_0 σ K = runOps C [⟨(.mv (.c (.bool false))), (some 2), none, [], []⟩] (σ.kills []) K := rfl
theorem e_rOwn_1 (C : FuncId → List AV → AV → Prop) (σ : St) (K : St → Prop) : runReg C r_rOwn_1 σ K = runOps C [⟨(.mv (.t 0)), (some 3), none, [], []⟩, ⟨(.bin .leq (.c (.int .u8 97)) (.t 3)), (some 4), none, [], []⟩, ⟨(.mv (.t 4)), (some 5), none, [], []⟩, ⟨(.mv (.t 0)), (some 6), (some (5, true)), [], []⟩, ⟨(.bin .leq (.t 6) (.c (.int .u8 122))), (some 7), (some (5, true)), [], []⟩, ⟨(.pick (.t 5) (.t 7) (.c (.bool false))), (some 8), none, [], []⟩, ⟨(.mv (.t 8)), (some 9), none, [], []⟩, ⟨(.mv (.t 0)), (some 10), (some (9, false)), [], []⟩, ⟨(.bin .leq (.c (.int .u8 65)) (.t 10)), (some 11), (some (9, false)), [], []⟩, ⟨(.mv (.t 11)), (some 12), (some (9, false)), [], []⟩, ⟨(.mv (.t 0)), (some 13), (some (12, true)), [], []⟩, ⟨(.bin .leq (.t 13) (.c (.int .u8 90))), (some 14), (some (12, true)), [], []⟩, ⟨(.pick (.t 12) (.t 14) (.c (.bool false))), (some 15), (some (9, false)), [], []⟩, ⟨(.pick (.t 9) (.c (.bool true)) (.t 15)), (some 16), none, [], []⟩, ⟨(.mv (.t 16)), (some 17), none, [], []⟩, ⟨(.mv (.t 0)), (some 18), (some (17, false)), [], []⟩, ⟨(.bin .leq (.c (.int .u8 48)) (.t 18)), (some 19), (some (17, false)), [], []⟩, ⟨(.mv (.t 19)), (some 20), (some (17, false)), [], []⟩, ⟨(.mv (.t 0)), (some 21), (some (20, true)), [], []⟩, ⟨(.bin .leq (.t 21) (.c (.int .u8 57))), (some 22), (some (20, true)), [], []⟩, ⟨(.pick (.t 20) (.t 22) (.c (.bool false))), (some 23), (some (17, false)), [], []⟩, ⟨(.pick (.t 17) (.c (.bool true)) (.t 23)), (some 24), none, [], []⟩, ⟨(.mv (.t 24)), (some 25), none, [], []⟩, ⟨(.mv (.t 0)), (some 26), (some (25, false)), [], []⟩, ⟨(.bin .eql (.t 26) (.c (.int .u8 95))), (some 27), (some (25, false)), [], []⟩, ⟨(.pick (.t 25) (.c (.bool true)) (.t 27)), (some 28), none, [], []⟩, ⟨(.mv (.t 28)), (some 2), none, [], []⟩] (σ.kills []) K := rfl
theorem fn_rOwn {args : List AV} {r : AV} (ha : args.length.ble Tryd.f89.ntmps = true) (h : run (AFn Tryd.prog) ir_rOwn (endQ res_rOwn r) (initSt args)) : AFn Tryd.prog 89 args r :=
  AFn.of_code (hint := fun _ => []) (c := Tryd.f89.body.getD .skip) (by kernel_rfl) (by kernel_rfl) Tryd.func89 (by kernel_rfl) (by kernel_rfl) (by kernel_rfl) (of_decide_eq_true (by kernel_rfl)) (Nat.le_of_ble_eq_true ha) (Nat.le_of_ble_eq_true (by kernel_rfl)) (run_ok h)

attribute [local go_sem ↓] ir_plain
attribute [local go_sem] res_plain e_plain_0 e_plain_1
attribute [local go_sem ↓] ir_rOwn
attribute [local go_sem] res_rOwn e_rOwn_0 e_rOwn_1

theorem plain_ok (c : UInt8) : AFn Tryd.prog 102 [bz c] (.bool (plainB c)) := by
  refine fn_plain rfl ?_
  simp (maxSteps := 4000000) only [go_sem, ↓reduceIte, reduceCtorEq, Nat.reduceEqDiff, Nat.reduceBEq, Nat.reduceAdd, Nat.reduceSub, Nat.reduceMul, Nat.reduceLT, Nat.reduceLeDiff, Nat.reduceBNe, Int.reduceBEq, Int.reduceBNe, Int.reduceLT, Int.reduceLE]
  repeat' split
  all_goals (simp [plainB, *] <;> omega)
theorem rOwn_ok (c : UInt8) : AFn Tryd.prog 89 [bz c] (.bool (plainB c)) := by
  refine fn_rOwn rfl ?_
  simp (maxSteps := 4000000) only [go_sem, ↓reduceIte, reduceCtorEq, Nat.reduceEqDiff, Nat.reduceBEq, Nat.reduceAdd, Nat.reduceSub, Nat.reduceMul, Nat.reduceLT, Nat.reduceLeDiff, Nat.reduceBNe, Int.reduceBEq, Int.reduceBNe, Int.reduceLT, Int.reduceLE]
  repeat' split
  all_goals (simp [plainB, *] <;> omega)
def b0 (s : ByteArray) : UInt8 := s.data.toList.getD 0 0
/-! ### Contracts that are proved over the model itself -/
theorem AFn.flat1 {P : Program} {f : FuncId} (hok : funcOk P f = true) {d r : AV} {v u : Value} (hd : ∀ Q w v', VR Q w d v' → v' = v) (hr : ∀ Q base w, RR Q base w r u)
    (h : ∀ w, Glob w → Calls P f #[v] w fun e w' => e = .returned u ∧ Below w.heap.size w w') : AFn P f [d] r := by
  refine ⟨hok, fun w Pr vs hG hPr hlen hvs => ?_⟩
  obtain ⟨v', rfl⟩ : ∃ v', vs = [v'] := by
    match vs, hlen with
    | [v'], _ => exact ⟨v', rfl⟩
  rw [hd _ _ _ (hvs 0 _ v' rfl rfl)]
  exact (h w hG).mono fun e w' ⟨he, hb⟩ => ⟨u, he, hb, hr _ _ _⟩
theorem AFn.flat2 {P : Program} {f : FuncId} (hok : funcOk P f = true) {d1 d2 r : AV} {v1 v2 u : Value} (hd1 : ∀ Q w v', VR Q w d1 v' → v' = v1) (hd2 : ∀ Q w v', VR Q w d2 v' → v' = v2) (hr : ∀ Q base w, RR Q base w r u)
    (h : ∀ w, Glob w → Calls P f #[v1, v2] w fun e w' => e = .returned u ∧ Below w.heap.size w w') : AFn P f [d1, d2] r := by
  refine ⟨hok, fun w Pr vs hG hPr hlen hvs => ?_⟩
  obtain ⟨a, b, rfl⟩ : ∃ a b, vs = [a, b] := by
    match vs, hlen with
    | [a, b], _ => exact ⟨a, b, rfl⟩
  rw [hd1 _ _ _ (hvs 0 _ a rfl rfl), hd2 _ _ _ (hvs 1 _ b rfl rfl)]
  exact (h w hG).mono fun e w' ⟨he, hb⟩ => ⟨u, he, hb, hr _ _ _⟩
theorem AFn.flat2' {P : Program} {f : FuncId} (hok : funcOk P f = true) {d1 d2 r : AV} {v1 v2 : Value} (hd1 : ∀ Q w v', VR Q w d1 v' → v' = v1) (hd2 : ∀ Q w v', VR Q w d2 v' → v' = v2)
    (h : ∀ w, Glob w → Calls P f #[v1, v2] w fun e w' => ∃ u, e = .returned u ∧ Below w.heap.size w w' ∧ ∀ (Q : Nat → Nat → Prop) base, base ≤ w.heap.size → RR Q base w' r u) : AFn P f [d1, d2] r := by
  refine ⟨hok, fun w Pr vs hG hPr hlen hvs => ?_⟩
  obtain ⟨a, b, rfl⟩ : ∃ a b, vs = [a, b] := by
    match vs, hlen with
    | [a, b], _ => exact ⟨a, b, rfl⟩
  rw [hd1 _ _ _ (hvs 0 _ a rfl rfl), hd2 _ _ _ (hvs 1 _ b rfl rfl)]
  exact (h w hG).mono fun e w' ⟨u, he, hb, hr⟩ => ⟨u, he, hb, hr _ _ (Nat.le_refl _)⟩
theorem str_flat {s : ByteArray} : ∀ Q w v', VR Q w (.str s) v' → v' = .string s := fun _ _ _ h => h.str_of
theorem int_flat {k : IntKind} {m : Int} : ∀ Q w v', VR Q w (.int k m) v' → v' = .int k m := fun _ _ _ h => h.int_of
theorem indexByte_ok (s : ByteArray) (c : UInt8) : AFn Tryd.prog 157 [.str s, bz c] (.int .i64 (Lib.indexByte s.data.toList c)) :=
  .flat2 (by kernel_rfl) str_flat int_flat (fun _ _ _ => .int _ _) fun w _ => (Tryd.strings_IndexByte s (c.toNat : Int) w).mono fun e w' ⟨he, hw⟩ => by
    subst hw
    refine ⟨?_, Below.refl _ _⟩
    rw [he]
    simp
/-! ### percolate/pack.digit -/
def r_digit_0 : Reg := ⟨[], [⟨(.mv (.c (.int .i64 0))), (some 2), none, [], []⟩], [], [], false⟩
def r_digit_1 : Reg := ⟨[], [⟨(.mv (.t 0)), (some 3), none, [4], []⟩, ⟨(.callv (.c (.clo 157 [] [])) [(.c (.str ⟨#[48, 49, 50, 51, 52, 53, 54, 55, 56, 57, 97, 98, 99, 100, 101, 102]⟩)), (.t 3)]), (some 4), none, [], []⟩, ⟨(.mv (.t 4)), (some 2), none, [], []⟩], [4], [], false⟩
def ir_digit : IR := (.seq (.reg r_digit_0)
  (.seq (.reg r_digit_1)
  .ret))
def res_digit : List RDesc := [(.tmp 2)]
theorem e_digit_0 (C : FuncId → List AV → AV → Prop) (σ : St) (K : St → Prop) : runReg C r_digit_0 σ K = runOps C [⟨(.mv (.c (.int .i64 0))), (some 2), none, [], []⟩] (σ.kills []) K := rfl
theorem e_digit_1 (C : FuncId → List AV → AV → Prop) (σ : St) (K : St → Prop) : runReg C r_digit_1 σ K = runOps C [⟨(.mv (.t 0)), (some 3), none, [4], []⟩, ⟨(.callv (.c (.clo 157 [] [])) [(.c (.str ⟨#[48, 49, 50, 51, 52, 53, 54, 55, 56, 57, 97, 98, 99, 100, 101, 102]⟩)), (.t 3)]), (some 4), none, [], []⟩, ⟨(.mv (.t 4)), (some 2), none, [], []⟩] (σ.kills [4]) K := rfl
theorem fn_digit {args : List AV} {r : AV} (ha : args.length.ble Tryd.f139.ntmps = true) (h : run (AFn Tryd.prog) ir_digit (endQ res_digit r) (initSt args)) : AFn Tryd.prog 139 args r :=
  AFn.of_code (hint := fun _ => []) (c := Tryd.f139.body.getD .skip) (by kernel_rfl) (by kernel_rfl) Tryd.func139 (by kernel_rfl) (by kernel_rfl) (by kernel_rfl) (of_decide_eq_true (by kernel_rfl)) (Nat.le_of_ble_eq_true ha) (Nat.le_of_ble_eq_true (by kernel_rfl)) (run_ok h)

attribute [local go_sem ↓] ir_digit
attribute [local go_sem] res_digit e_digit_0 e_digit_1

def hexL : List UInt8 := [48, 49, 50, 51, 52, 53, 54, 55, 56, 57, 97, 98, 99, 100, 101, 102]
def digF (c : UInt8) : Int := Lib.indexByte hexL c
theorem digit_ok (c : UInt8) : AFn Tryd.prog 139 [bz c] (.int .i64 (digF c)) := by
  refine fn_digit rfl ?_
  simp (maxSteps := 4000000) only [go_sem, ↓reduceIte, reduceCtorEq, Nat.reduceEqDiff, Nat.reduceBEq, Nat.reduceAdd, Nat.reduceSub, Nat.reduceMul, Nat.reduceLT, Nat.reduceLeDiff, Nat.reduceBNe, Int.reduceBEq, Int.reduceBNe, Int.reduceLT, Int.reduceLE]
  (first | refine calling (indexByte_ok ⟨#[48, 49, 50, 51, 52, 53, 54, 55, 56, 57, 97, 98, 99, 100, 101, 102]⟩ c) ?_ | refine callingH (indexByte_ok ⟨#[48, 49, 50, 51, 52, 53, 54, 55, 56, 57, 97, 98, 99, 100, 101, 102]⟩ c) ?_)
  simp (maxSteps := 4000000) only [go_sem, ↓reduceIte, reduceCtorEq, Nat.reduceEqDiff, Nat.reduceBEq, Nat.reduceAdd, Nat.reduceSub, Nat.reduceMul, Nat.reduceLT, Nat.reduceLeDiff, Nat.reduceBNe, Int.reduceBEq, Int.reduceBNe, Int.reduceLT, Int.reduceLE]
  rfl
end Go.Proofs.YtkdbphhekpdmhaaDoor
