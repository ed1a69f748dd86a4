/-
  Layer 6: the document's Quote and Unquote, and the law PackQuotes.
-/
import Derived.Test.YtkdbphhekpdmhaaDoorPkF
import Derived.Test.YtkdbphhekpdmhaaDoorPkG
namespace Go.Proofs.YtkdbphhekpdmhaaDoor
open Go.RowKit
set_option linter.unusedVariables false
set_option linter.unusedSimpArgs false
set_option maxRecDepth 100000
attribute [local go_sem ↓] runOp headOp
attribute [local go_sem] ev0 ev1 ev2 ev3 ev4 evA stHOk.eq_1 stHOk.eq_2 stHSt.eq_1 stHSt.eq_2 okV valV fzV okF valF okBld valBld mxOk.eq_1 mxOk.eq_2 mxVal.eq_1 mxVal.eq_2 cellFit.eq_1 cellFit.eq_2 cellFit.eq_3 cellEq.eq_1 cellEq.eq_2 cellEq.eq_3 upd_at AV.flatB AV.flatBs binIok binIV binSok binSV cellsOk.eq_1 cellsOk.eq_2 cellsVal.eq_1 cellsVal.eq_2 objCells.eq_1 objCells.eq_2 objZ.eq_1 objZ.eq_2 objProt.eq_1 objProt.eq_2 oneObj ptrOk.eq_1 ptrOk.eq_2 ptrOk.eq_3 ptrCells.eq_1 ptrCells.eq_2 ptrCells.eq_3 lenOk.eq_1 lenOk.eq_2 lenOk.eq_3 lenOk.eq_4 lenVal.eq_1 lenVal.eq_2 lenVal.eq_3 lenVal.eq_4 faOk.eq_1 faOk.eq_2 faOk.eq_3 faVal.eq_1 faVal.eq_2 faVal.eq_3 iaOk.eq_1 iaOk.eq_2 iaOk.eq_3 iaVal.eq_1 iaVal.eq_2 iaVal.eq_3 slcLen.eq_1 slcLen.eq_2 slcLen.eq_3 slcLen.eq_4 bdOk.eq_1 bdOk.eq_2 bdVal.eq_1 bdVal.eq_2 slcOk.eq_1 slcOk.eq_2 slcOk.eq_3 slcOk.eq_4 slcVal.eq_1 slcVal.eq_2 slcVal.eq_3 slcVal.eq_4 slcFz.eq_1 slcFz.eq_2 byOk.eq_1 byOk.eq_2 byOk.eq_3 byOk.eq_4 byOk.eq_5 byOk.eq_6 byOk.eq_7 byVal.eq_1 byVal.eq_2 byVal.eq_3 byFz.eq_1 byFz.eq_2 byFz.eq_3 byOks byVals byFzs allOne resSt.eq_1 resSt.eq_2 resName.eq_1 resName.eq_2 stOk.eq_1 stOk.eq_2 stArr.eq_1 stArr.eq_2 stSt.eq_1 stSt.eq_2 AV.patch nameOk_none gB.eq_1 gB.eq_2 gB.eq_3 gIs.eq_1 gIs.eq_2 gIs.eq_3 retV resV resVs evalV cellsV St.byval List.getD_cons_zero List.getD_cons_succ List.getD_nil List.map_cons List.map_nil List.length_cons List.length_nil List.take_succ_cons List.take_zero List.drop_succ_cons List.drop_zero List.headD_cons List.set_cons_zero List.append_nil List.nil_append List.cons_append List.contains_cons List.contains_nil List.elem_cons List.elem_nil List.all_cons List.all_nil List.getElem?_cons_zero List.getElem?_cons_succ List.filterMap_cons List.filterMap_nil Option.isSome_some Option.isSome_none Option.map_some Option.map_none Option.some.injEq AV.int.injEq AV.bool.injEq AV.str.injEq AV.tup.injEq AV.agg.injEq AV.sl.injEq List.cons.injEq Bool.false_eq_true Bool.true_eq_false Bool.not_true Bool.not_false Bool.and_true Bool.true_and Bool.or_false Bool.or_true Bool.false_or Bool.true_or Bool.or_self Bool.and_self Bool.not_eq_true' Bool.not_eq_false' Bool.not_not beq_self_eq_true true_and and_true false_and and_false and_self not_true_eq_false not_false_eq_true forall_const true_implies false_implies implies_true imp_self Nat.lt_add_one Nat.le_refl Nat.zero_le Nat.add_zero Nat.zero_add decide_true decide_false decide_eq_true_eq decide_eq_false_iff_not exists_eq_left exists_eq_left' ge_iff_le gt_iff_lt ite_branch ite_branch' nilOk.eq_1 nilOk.eq_2 nilMay.eq_1 nilMay.eq_2 AV.isSl.eq_1 objTy'.eq_1 objTy'.eq_2 apSt.eq_1 apArr.eq_1 apArr.eq_2 slOf.eq_1 fitsV List.mem_cons List.not_mem_nil Bool.false_and Bool.and_false primOk.eq_1 primOk.eq_2 primOk.eq_3 primOk.eq_4 primOk.eq_5 primVal.eq_1 primVal.eq_2 primVal.eq_3 primVal.eq_4 primVal.eq_5 mOk.eq_1 mOk.eq_2 mVal.eq_1 mVal.eq_2 mFz.eq_1 mFz.eq_2 mOks mVals mFzs mCalOk.eq_1 mCalOk.eq_2 mFn.eq_1 mFn.eq_2 mArgs.eq_1 mArgs.eq_2 ckOk.eq_1 ckOk.eq_2 cloOk.eq_1 ptrAt.eq_1 sh.eq_1 sh.eq_2 sh.eq_3 sh.eq_4 sh.eq_5 retM shH_small
/-! ### percolate/percolateref06.Quote -/
def r_rQuote_0 : Reg := ⟨[], [⟨(.mv (.c (.str ⟨#[]⟩))), (some 2), none, [], []⟩], [], [], false⟩
def r_rQuote_1 : Reg := ⟨[], [⟨(.mv (.c (.str ⟨#[48, 49, 50, 51, 52, 53, 54, 55, 56, 57, 97, 98, 99, 100, 101, 102]⟩))), (some 3), none, [], []⟩], [], [], false⟩
def r_rQuote_2 : Reg := ⟨[], [⟨(.mv (.c (.str ⟨#[]⟩))), (some 4), none, [], []⟩], [], [], false⟩
def r_rQuote_3 : Reg := ⟨[], [⟨(.mv (.c (.int .i64 0))), (some 5), none, [], []⟩], [], [], false⟩
def r_rQuote_4 : Reg := ⟨[], [⟨(.mv (.t 5)), (some 6), none, [], []⟩, ⟨(.mv (.t 0)), (some 7), none, [], []⟩, ⟨(.len true (.t 7)), (some 8), none, [], []⟩, ⟨(.bin .lss (.t 6) (.t 8)), (some 9), none, [], []⟩], [], [], false⟩
def r_rQuote_5 : Reg := ⟨[], [⟨(.mv (.t 0)), (some 12), none, [15], []⟩, ⟨(.mv (.t 5)), (some 13), none, [15], []⟩, ⟨(.idx (.t 12) (.t 13)), (some 14), none, [15], []⟩, ⟨(.callv (.c (.clo 89 [] [])) [(.t 14)]), (some 15), none, [], []⟩], [15], [], false⟩
def r_rQuote_6 : Reg := ⟨[], [⟨(.mv (.t 4)), (some 16), none, [], []⟩, ⟨(.mv (.t 0)), (some 17), none, [], []⟩, ⟨(.mv (.t 5)), (some 18), none, [], []⟩, ⟨(.mv (.t 5)), (some 19), none, [], []⟩, ⟨(.bin .add (.t 19) (.c (.int .i64 1))), (some 20), none, [], []⟩, ⟨(.slc true 0 (.t 17) (some (.t 18)) (some (.t 20))), (some 21), none, [], []⟩, ⟨(.bin .add (.t 16) (.t 21)), (some 22), none, [], []⟩, ⟨(.mv (.t 22)), (some 4), none, [], []⟩], [], [], false⟩
def r_rQuote_7 : Reg := ⟨[⟨(.mv (.t 4)), (some 23), none, [], []⟩, ⟨(.mv (.t 3)), (some 24), none, [], []⟩, ⟨(.mv (.t 0)), (some 25), none, [], []⟩, ⟨(.mv (.t 5)), (some 26), none, [], []⟩, ⟨(.idx (.t 25) (.t 26)), (some 27), none, [], []⟩, ⟨(.bin .quo (.t 27) (.c (.int .u8 16))), (some 28), none, [], []⟩, ⟨(.mv (.t 0)), (some 29), none, [], []⟩, ⟨(.mv (.t 5)), (some 30), none, [], []⟩, ⟨(.idx (.t 29) (.t 30)), (some 31), none, [], []⟩, ⟨(.bin .quo (.t 31) (.c (.int .u8 16))), (some 32), none, [], []⟩, ⟨(.bin .add (.t 32) (.c (.int .u8 1))), (some 33), none, [], []⟩, ⟨(.slc true 0 (.t 24) (some (.t 28)) (some (.t 33))), (some 34), none, [], []⟩, ⟨(.bin .add (.c (.str ⟨#[37]⟩)) (.t 34)), (some 35), none, [], []⟩, ⟨(.mv (.t 3)), (some 36), none, [], []⟩, ⟨(.mv (.t 0)), (some 37), none, [], []⟩, ⟨(.mv (.t 5)), (some 38), none, [], []⟩, ⟨(.idx (.t 37) (.t 38)), (some 39), none, [], []⟩, ⟨(.bin .rem (.t 39) (.c (.int .u8 16))), (some 40), none, [], []⟩, ⟨(.mv (.t 0)), (some 41), none, [], []⟩, ⟨(.mv (.t 5)), (some 42), none, [], []⟩, ⟨(.idx (.t 41) (.t 42)), (some 43), none, [], []⟩, ⟨(.bin .rem (.t 43) (.c (.int .u8 16))), (some 44), none, [], []⟩, ⟨(.bin .add (.t 44) (.c (.int .u8 1))), (some 45), none, [], []⟩, ⟨(.slc true 0 (.t 36) (some (.t 40)) (some (.t 45))), (some 46), none, [], []⟩, ⟨(.bin .add (.t 35) (.t 46)), (some 47), none, [], []⟩], [⟨(.bin .add (.t 23) (.t 47)), (some 48), none, [], []⟩, ⟨(.mv (.t 48)), (some 4), none, [], []⟩], [], [], true⟩
def r_rQuote_8 : Reg := ⟨[], [⟨(.mv (.t 5)), (some 10), none, [], []⟩, ⟨(.bin .add (.t 10) (.c (.int .i64 1))), (some 11), none, [], []⟩, ⟨(.mv (.t 11)), (some 5), none, [], []⟩], [], [], false⟩
def r_rQuote_l9 : IR := (.seq (.seq (.reg r_rQuote_4)
  (.cond (.t 9) .skip
  (.exit 0)))
  (.seq (.block 1 (.seq (.reg r_rQuote_5)
  (.cond (.t 15) (.reg r_rQuote_6)
  (.reg r_rQuote_7))))
  (.reg r_rQuote_8)))
def r_rQuote_10 : Reg := ⟨[], [⟨(.mv (.t 4)), (some 49), none, [], []⟩, ⟨(.bin .eql (.t 49) (.c (.str ⟨#[]⟩))), (some 50), none, [], []⟩], [], [], false⟩
def r_rQuote_11 : Reg := ⟨[], [⟨(.mv (.c (.str ⟨#[45]⟩))), (some 2), none, [], []⟩], [], [], false⟩
def r_rQuote_12 : Reg := ⟨[], [⟨(.mv (.t 4)), (some 51), none, [], []⟩, ⟨(.mv (.t 51)), (some 2), none, [], []⟩], [], [], false⟩
def ir_rQuote : IR := (.seq (.reg r_rQuote_0)
  (.seq (.reg r_rQuote_1)
  (.seq (.reg r_rQuote_2)
  (.seq (.seq (.reg r_rQuote_3)
  (.block 0 (.loop r_rQuote_l9)))
  (.seq (.seq (.reg r_rQuote_10)
  (.cond (.t 50) (.seq (.reg r_rQuote_11)
  .ret)
  .skip))
  (.seq (.reg r_rQuote_12)
  .ret))))))
def res_rQuote : List RDesc := [(.tmp 2)]
theorem e_rQuote_0 (C : FuncId → List AV → AV → Prop) (σ : St) (K : St → Prop) : runReg C r_rQuote_0 σ K = runOps C [⟨(.mv (.c (.str ⟨#[]⟩))), (some 2), none, [], []⟩] (σ.kills []) K := rfl
theorem e_rQuote_1 (C : FuncId → List AV → AV → Prop) (σ : St) (K : St → Prop) : runReg C r_rQuote_1 σ K = runOps C [⟨(.mv (.c (.str ⟨#[48, 49, 50, 51, 52, 53, 54, 55, 56, 57, 97, 98, 99, 100, 101, 102]⟩))), (some 3), none, [], []⟩] (σ.kills []) K := rfl
theorem e_rQuote_2 (C : FuncId → List AV → AV → Prop) (σ : St) (K : St → Prop) : runReg C r_rQuote_2 σ K = runOps C [⟨(.mv (.c (.str ⟨#[]⟩))), (some 4), none, [], []⟩] (σ.kills []) K := rfl
theorem e_rQuote_3 (C : FuncId → List AV → AV → Prop) (σ : St) (K : St → Prop) : runReg C r_rQuote_3 σ K = runOps C [⟨(.mv (.c (.int .i64 0))), (some 5), none, [], []⟩] (σ.kills []) K := rfl
theorem e_rQuote_4 (C : FuncId → List AV → AV → Prop) (σ : St) (K : St → Prop) : runReg C r_rQuote_4 σ K = runOps C [⟨(.mv (.t 5)), (some 6), none, [], []⟩, ⟨(.mv (.t 0)), (some 7), none, [], []⟩, ⟨(.len true (.t 7)), (some 8), none, [], []⟩, ⟨(.bin .lss (.t 6) (.t 8)), (some 9), none, [], []⟩] (σ.kills []) K := rfl
theorem e_rQuote_5 (C : FuncId → List AV → AV → Prop) (σ : St) (K : St → Prop) : runReg C r_rQuote_5 σ K = runOps C [⟨(.mv (.t 0)), (some 12), none, [15], []⟩, ⟨(.mv (.t 5)), (some 13), none, [15], []⟩, ⟨(.idx (.t 12) (.t 13)), (some 14), none, [15], []⟩, ⟨(.callv (.c (.clo 89 [] [])) [(.t 14)]), (some 15), none, [], []⟩] (σ.kills [15]) K := rfl
theorem e_rQuote_6 (C : FuncId → List AV → AV → Prop) (σ : St) (K : St → Prop) : runReg C r_rQuote_6 σ K = runOps C [⟨(.mv (.t 4)), (some 16), none, [], []⟩, ⟨(.mv (.t 0)), (some 17), none, [], []⟩, ⟨(.mv (.t 5)), (some 18), none, [], []⟩, ⟨(.mv (.t 5)), (some 19), none, [], []⟩, ⟨(.bin .add (.t 19) (.c (.int .i64 1))), (some 20), none, [], []⟩, ⟨(.slc true 0 (.t 17) (some (.t 18)) (some (.t 20))), (some 21), none, [], []⟩, ⟨(.bin .add (.t 16) (.t 21)), (some 22), none, [], []⟩, ⟨(.mv (.t 22)), (some 4), none, [], []⟩] (σ.kills []) K := rfl
theorem e_rQuote_7 (C : FuncId → List AV → AV → Prop) (σ : St) (K : St → Prop) : runReg C r_rQuote_7 σ K = runHead C [] [⟨(.bin .add (.t 23) (.t 47)), (some 48), none, [], []⟩, ⟨(.mv (.t 48)), (some 4), none, [], []⟩] [⟨(.mv (.t 4)), (some 23), none, [], []⟩, ⟨(.mv (.t 3)), (some 24), none, [], []⟩, ⟨(.mv (.t 0)), (some 25), none, [], []⟩, ⟨(.mv (.t 5)), (some 26), none, [], []⟩, ⟨(.idx (.t 25) (.t 26)), (some 27), none, [], []⟩, ⟨(.bin .quo (.t 27) (.c (.int .u8 16))), (some 28), none, [], []⟩, ⟨(.mv (.t 0)), (some 29), none, [], []⟩, ⟨(.mv (.t 5)), (some 30), none, [], []⟩, ⟨(.idx (.t 29) (.t 30)), (some 31), none, [], []⟩, ⟨(.bin .quo (.t 31) (.c (.int .u8 16))), (some 32), none, [], []⟩, ⟨(.bin .add (.t 32) (.c (.int .u8 1))), (some 33), none, [], []⟩, ⟨(.slc true 0 (.t 24) (some (.t 28)) (some (.t 33))), (some 34), none, [], []⟩, ⟨(.bin .add (.c (.str ⟨#[37]⟩)) (.t 34)), (some 35), none, [], []⟩, ⟨(.mv (.t 3)), (some 36), none, [], []⟩, ⟨(.mv (.t 0)), (some 37), none, [], []⟩, ⟨(.mv (.t 5)), (some 38), none, [], []⟩, ⟨(.idx (.t 37) (.t 38)), (some 39), none, [], []⟩, ⟨(.bin .rem (.t 39) (.c (.int .u8 16))), (some 40), none, [], []⟩, ⟨(.mv (.t 0)), (some 41), none, [], []⟩, ⟨(.mv (.t 5)), (some 42), none, [], []⟩, ⟨(.idx (.t 41) (.t 42)), (some 43), none, [], []⟩, ⟨(.bin .rem (.t 43) (.c (.int .u8 16))), (some 44), none, [], []⟩, ⟨(.bin .add (.t 44) (.c (.int .u8 1))), (some 45), none, [], []⟩, ⟨(.slc true 0 (.t 36) (some (.t 40)) (some (.t 45))), (some 46), none, [], []⟩, ⟨(.bin .add (.t 35) (.t 46)), (some 47), none, [], []⟩] (σ.kills []) K := rfl
theorem e_rQuote_8 (C : FuncId → List AV → AV → Prop) (σ : St) (K : St → Prop) : runReg C r_rQuote_8 σ K = runOps C [⟨(.mv (.t 5)), (some 10), none, [], []⟩, ⟨(.bin .add (.t 10) (.c (.int .i64 1))), (some 11), none, [], []⟩, ⟨(.mv (.t 11)), (some 5), none, [], []⟩] (σ.kills []) K := rfl
theorem e_rQuote_10 (C : FuncId → List AV → AV → Prop) (σ : St) (K : St → Prop) : runReg C r_rQuote_10 σ K = runOps C [⟨(.mv (.t 4)), (some 49), none, [], []⟩, ⟨(.bin .eql (.t 49) (.c (.str ⟨#[]⟩))), (some 50), none, [], []⟩] (σ.kills []) K := rfl
theorem e_rQuote_11 (C : FuncId → List AV → AV → Prop) (σ : St) (K : St → Prop) : runReg C r_rQuote_11 σ K = runOps C [⟨(.mv (.c (.str ⟨#[45]⟩))), (some 2), none, [], []⟩] (σ.kills []) K := rfl
theorem e_rQuote_12 (C : FuncId → List AV → AV → Prop) (σ : St) (K : St → Prop) : runReg C r_rQuote_12 σ K = runOps C [⟨(.mv (.t 4)), (some 51), none, [], []⟩, ⟨(.mv (.t 51)), (some 2), none, [], []⟩] (σ.kills []) K := rfl
theorem fn_rQuote {args : List AV} {r : AV} (ha : args.length.ble Tryd.f43.ntmps = true) (h : run (AFn Tryd.prog) ir_rQuote (endQ res_rQuote r) (initSt args)) : AFn Tryd.prog 43 args r :=
  AFn.of_code (hint := fun _ => []) (c := Tryd.f43.body.getD .skip) (by kernel_rfl) (by kernel_rfl) Tryd.func43 (by kernel_rfl) (by kernel_rfl) (by kernel_rfl) (of_decide_eq_true (by kernel_rfl)) (Nat.le_of_ble_eq_true ha) (Nat.le_of_ble_eq_true (by kernel_rfl)) (run_ok h)

attribute [local go_sem ↓] ir_rQuote
attribute [local go_sem] res_rQuote e_rQuote_0 e_rQuote_1 e_rQuote_2 e_rQuote_3 e_rQuote_4 e_rQuote_5 e_rQuote_6 e_rQuote_7 e_rQuote_8 e_rQuote_10 e_rQuote_11 e_rQuote_12

def qs (l : List UInt8) : ByteArray := ⟨(quoteL l).toArray⟩
def hexS : ByteArray := ⟨#[48, 49, 50, 51, 52, 53, 54, 55, 56, 57, 97, 98, 99, 100, 101, 102]⟩
theorem hexS_ext : ∀ n : Fin 16, hexS.extract n.val (n.val + 1) = ⟨#[hexD n.val]⟩ := by decide +kernel
theorem qs_size (l : List UInt8) : (qs l).size = (quoteL l).length := rfl
theorem qs_plain {s : List UInt8} {j : Nat} {c : UInt8} (hc : s[j]? = some c) (hp : plainB c = true) : qs (s.take j) ++ (⟨#[c]⟩ : ByteArray) = qs (s.take (j + 1)) := by
  apply ba_ext
  rw [ByteArray.data_append, Array.toList_append]
  unfold qs
  rw [List.take_add_one, hc]
  simp only [Option.toList]
  rw [quoteL_app, quoteL_one, hp, if_pos rfl]
theorem qs_other {s : List UInt8} {j : Nat} {c : UInt8} (hc : s[j]? = some c) (hp : plainB c = false) : qs (s.take j) ++ ((⟨#[37]⟩ : ByteArray) ++ ⟨#[hexD (c.toNat / 16)]⟩ ++ ⟨#[hexD (c.toNat % 16)]⟩) = qs (s.take (j + 1)) := by
  apply ba_ext
  rw [ByteArray.data_append, Array.toList_append]
  unfold qs
  rw [List.take_add_one, hc]
  simp only [Option.toList]
  rw [quoteL_app, quoteL_one, hp, if_neg (by simp)]
  rfl
theorem ext_one {s : ByteArray} {j : Nat} {c : UInt8} (hc : s.data.toList[j]? = some c) : s.extract j (j + 1) = ⟨#[c]⟩ := by
  apply bext
  rw [ext_list, List.take_add_one, hc]
  have hj := (List.getElem?_eq_some_iff.1 hc).1
  simp only [Option.toList]
  rw [List.drop_append, List.length_take, Nat.min_eq_left (by omega), Nat.sub_self, List.drop_zero, List.drop_eq_nil_of_le (by rw [List.length_take]; omega), List.nil_append]
def rqInv (s : ByteArray) (k : Nat) (σ : St) : Prop :=
  ∃ j : Nat, j ≤ s.size ∧ k = s.size - j ∧ σ.T 0 = .str s ∧ σ.T 3 = .str hexS ∧ σ.T 4 = .str (qs (s.data.toList.take j)) ∧ σ.T 5 = .int .i64 j
theorem qs_eq {s : ByteArray} : (if s.size = 0 then (⟨#[45]⟩ : ByteArray) else qs s.data.toList) = quoteF s := rfl
theorem rQuote_ok (s : ByteArray) (hs : s.size ≤ 1000000) : AFn Tryd.prog 43 [.str s] (.str (quoteF s)) := by
  have hL : s.data.toList.length = s.size := by rw [Array.length_toList]; rfl
  refine fn_rQuote rfl ?_
  simp (maxSteps := 4000000) only [go_sem, ↓reduceIte, reduceCtorEq, Nat.reduceEqDiff, Nat.reduceBEq, Nat.reduceAdd, Nat.reduceSub, Nat.reduceMul, Nat.reduceLT, Nat.reduceLeDiff, Nat.reduceBNe, Int.reduceBEq, Int.reduceBNe, Int.reduceLT, Int.reduceLE]
  refine run_loop (rqInv s) (k := s.size) ⟨0, by omega, rfl, ?_, ?_, ?_, ?_⟩ ?_
  · simp (maxSteps := 4000000) only [go_sem, ↓reduceIte, reduceCtorEq, Nat.reduceEqDiff, Nat.reduceBEq, Nat.reduceAdd, Nat.reduceSub, Nat.reduceMul, Nat.reduceLT, Nat.reduceLeDiff, Nat.reduceBNe, Int.reduceBEq, Int.reduceBNe, Int.reduceLT, Int.reduceLE]
  · simp (maxSteps := 4000000) only [go_sem, ↓reduceIte, reduceCtorEq, Nat.reduceEqDiff, Nat.reduceBEq, Nat.reduceAdd, Nat.reduceSub, Nat.reduceMul, Nat.reduceLT, Nat.reduceLeDiff, Nat.reduceBNe, Int.reduceBEq, Int.reduceBNe, Int.reduceLT, Int.reduceLE]
    rfl
  · simp (maxSteps := 4000000) only [go_sem, ↓reduceIte, reduceCtorEq, Nat.reduceEqDiff, Nat.reduceBEq, Nat.reduceAdd, Nat.reduceSub, Nat.reduceMul, Nat.reduceLT, Nat.reduceLeDiff, Nat.reduceBNe, Int.reduceBEq, Int.reduceBNe, Int.reduceLT, Int.reduceLE]
    rfl
  · simp (maxSteps := 4000000) only [go_sem, ↓reduceIte, reduceCtorEq, Nat.reduceEqDiff, Nat.reduceBEq, Nat.reduceAdd, Nat.reduceSub, Nat.reduceMul, Nat.reduceLT, Nat.reduceLeDiff, Nat.reduceBNe, Int.reduceBEq, Int.reduceBNe, Int.reduceLT, Int.reduceLE]
    rfl
  rintro k σ ⟨j, hj, rfl, t0, t3, t4, t5⟩
  simp only [r_rQuote_l9]
  have hsz : (qs (s.data.toList.take j)).size ≤ 3000000 := by
    rw [qs_size]
    have h1 := quoteL_len (s.data.toList.take j)
    have h2 : (s.data.toList.take j).length ≤ s.size := by rw [List.length_take, hL]; omega
    omega
  by_cases hlt : j < s.size
  · have hlt' : (j : Int) < (s.size : Int) := by omega
    have hw1 : IntKind.i64.wrap ((j : Int) + 1) = ((j + 1 : Nat) : Int) := by rw [IntWalk.i64_in _ (by omega)]; rfl
    obtain ⟨c, hc⟩ : ∃ c, s.data.toList[j]? = some c := ⟨_, List.getElem?_eq_getElem (by omega)⟩
    have hg : s.data.toList.getD j 0 = c := by rw [List.getD_eq_getElem?_getD, hc]; rfl
    simp (maxSteps := 4000000) only [go_sem, ↓reduceIte, reduceCtorEq, Nat.reduceEqDiff, Nat.reduceBEq, Nat.reduceAdd, Nat.reduceSub, Nat.reduceMul, Nat.reduceLT, Nat.reduceLeDiff, Nat.reduceBNe, Int.reduceBEq, Int.reduceBNe, Int.reduceLT, Int.reduceLE, t0, t3, t4, t5, hlt', hg, Int.toNat_natCast]
    (repeat refine And.intro (by omega) ?_)
    (first | refine calling (rOwn_ok c) ?_ | refine callingH (rOwn_ok c) ?_)
    cases hp : plainB c with
    | true =>
      have hx := ext_one hc
      have hq := qs_plain hc hp
      simp (maxSteps := 4000000) only [go_sem, ↓reduceIte, reduceCtorEq, Nat.reduceEqDiff, Nat.reduceBEq, Nat.reduceAdd, Nat.reduceSub, Nat.reduceMul, Nat.reduceLT, Nat.reduceLeDiff, Nat.reduceBNe, Int.reduceBEq, Int.reduceBNe, Int.reduceLT, Int.reduceLE, t0, t3, t4, t5, hp, hw1, hx, Int.toNat_natCast]
      (repeat refine And.intro (by omega) ?_)
      rw [hq]
      refine ⟨?_, s.size - (j + 1), by omega, j + 1, by omega, rfl, ?_, ?_, ?_, ?_⟩
      · show (qs _).size + 1 ≤ _
        omega
      all_goals (simp (maxSteps := 4000000) only [go_sem, ↓reduceIte, reduceCtorEq, Nat.reduceEqDiff, Nat.reduceBEq, Nat.reduceAdd, Nat.reduceSub, Nat.reduceMul, Nat.reduceLT, Nat.reduceLeDiff, Nat.reduceBNe, Int.reduceBEq, Int.reduceBNe, Int.reduceLT, Int.reduceLE, t0, t3, t4, t5, hw1])
    | false =>
      have hcl := c.toNat_lt
      have hq := qs_other hc hp
      have e1 := hexS_ext ⟨c.toNat / 16, by omega⟩
      have e2 := hexS_ext ⟨c.toNat % 16, by omega⟩
      simp only at e1 e2
      have h16 : hexS.size = 16 := rfl
      have s1 : ∀ x : UInt8, #[x].size = 1 := fun _ => rfl
      have d1 : IntKind.u8.wrap ((c.toNat : Int).tdiv 16) = ((c.toNat / 16 : Nat) : Int) := by
        rw [Int.tdiv_eq_ediv_of_nonneg (by omega), show ((c.toNat : Int) / 16) = ((c.toNat / 16 : Nat) : Int) by omega]
        simp [IntKind.wrap, IntKind.signed, IntKind.bits]; omega
      have d2 : (c.toNat : Int).tmod 16 = ((c.toNat % 16 : Nat) : Int) := by
        rw [Int.tmod_eq_emod_of_nonneg (by omega)]; omega
      have d3 : IntKind.u8.wrap (((c.toNat / 16 : Nat) : Int) + 1) = ((c.toNat / 16 + 1 : Nat) : Int) := by
        simp [IntKind.wrap, IntKind.signed, IntKind.bits]; omega
      have d4 : IntKind.u8.wrap (((c.toNat % 16 : Nat) : Int) + 1) = ((c.toNat % 16 + 1 : Nat) : Int) := by
        simp [IntKind.wrap, IntKind.signed, IntKind.bits]; omega
      simp (maxSteps := 4000000) only [go_sem, ↓reduceIte, reduceCtorEq, Nat.reduceEqDiff, Nat.reduceBEq, Nat.reduceAdd, Nat.reduceSub, Nat.reduceMul, Nat.reduceLT, Nat.reduceLeDiff, Nat.reduceBNe, Int.reduceBEq, Int.reduceBNe, Int.reduceLT, Int.reduceLE, t0, t3, t4, t5, hp, hw1, hg, d1, d2, d3, d4, e1, e2, h16, s1, Int.toNat_natCast]
      (repeat refine And.intro (by omega) ?_)
      rw [hq]
      refine ⟨s.size - (j + 1), by omega, j + 1, by omega, rfl, ?_, ?_, ?_, ?_⟩ <;> (simp (maxSteps := 4000000) only [go_sem, ↓reduceIte, reduceCtorEq, Nat.reduceEqDiff, Nat.reduceBEq, Nat.reduceAdd, Nat.reduceSub, Nat.reduceMul, Nat.reduceLT, Nat.reduceLeDiff, Nat.reduceBNe, Int.reduceBEq, Int.reduceBNe, Int.reduceLT, Int.reduceLE, t0, t3, t4, t5, hw1])
  · have hlt' : ¬ (j : Int) < (s.size : Int) := by omega
    have hall : s.data.toList.take j = s.data.toList := List.take_of_length_le (by omega)
    rw [hall] at t4
    by_cases h0 : s.size = 0
    · have hnil : s.data.toList = [] := List.eq_nil_of_length_eq_zero (by omega)
      have z1 : ((qs s.data.toList).toList == (ByteArray.mk #[]).toList) = true := by rw [hnil]; decide +kernel
      have z2 : quoteF s = ⟨#[45]⟩ := by rw [← qs_eq, if_pos h0]
      rw [z2]
      simp (maxSteps := 4000000) only [go_sem, ↓reduceIte, reduceCtorEq, Nat.reduceEqDiff, Nat.reduceBEq, Nat.reduceAdd, Nat.reduceSub, Nat.reduceMul, Nat.reduceLT, Nat.reduceLeDiff, Nat.reduceBNe, Int.reduceBEq, Int.reduceBNe, Int.reduceLT, Int.reduceLE, t0, t3, t4, t5, hlt', z1]
    · have hq : qs s.data.toList = quoteF s := by rw [← qs_eq, if_neg h0]
      have z1 : ((qs s.data.toList).toList == (ByteArray.mk #[]).toList) = false := by
        rw [bytes_nil]
        refine decide_eq_false fun e => h0 ?_
        rw [qs_size] at e
        have := quoteL_nil (List.eq_nil_of_length_eq_zero e)
        rw [← hL, this]; rfl
      rw [← hq]
      simp (maxSteps := 4000000) only [go_sem, ↓reduceIte, reduceCtorEq, Nat.reduceEqDiff, Nat.reduceBEq, Nat.reduceAdd, Nat.reduceSub, Nat.reduceMul, Nat.reduceLT, Nat.reduceLeDiff, Nat.reduceBNe, Int.reduceBEq, Int.reduceBNe, Int.reduceLT, Int.reduceLE, t0, t3, t4, t5, hlt', z1]
end Go.Proofs.YtkdbphhekpdmhaaDoor
