/-
  Effects and messages on the plain machine: the code's.
-/
import Derived.Test.YtdjkefndigijjaaSqA
import Derived.IntWalk
namespace Go.Proofs.Ytdjkefndigijjaa
open Go.RowKit
set_option linter.unusedVariables false
set_option linter.unusedSimpArgs false
set_option maxRecDepth 100000
attribute [local go_sem ↓] runOp headOp
attribute [local go_sem] ev0 ev1 ev2 ev3 evA stHOk.eq_1 stHOk.eq_2 stHSt.eq_1 stHSt.eq_2 okV valV fzV okF valF okBld valBld mxOk.eq_1 mxOk.eq_2 mxVal.eq_1 mxVal.eq_2 cellFit.eq_1 cellFit.eq_2 cellFit.eq_3 cellEq.eq_1 cellEq.eq_2 cellEq.eq_3 upd_at AV.flatB AV.flatBs binIok binIV binSok binSV cellsOk.eq_1 cellsOk.eq_2 cellsVal.eq_1 cellsVal.eq_2 objCells.eq_1 objCells.eq_2 objZ.eq_1 objZ.eq_2 objProt.eq_1 objProt.eq_2 oneObj ptrOk.eq_1 ptrOk.eq_2 ptrOk.eq_3 ptrCells.eq_1 ptrCells.eq_2 ptrCells.eq_3 lenOk.eq_1 lenOk.eq_2 lenOk.eq_3 lenOk.eq_4 lenVal.eq_1 lenVal.eq_2 lenVal.eq_3 lenVal.eq_4 faOk.eq_1 faOk.eq_2 faOk.eq_3 faVal.eq_1 faVal.eq_2 faVal.eq_3 iaOk.eq_1 iaOk.eq_2 iaOk.eq_3 iaVal.eq_1 iaVal.eq_2 iaVal.eq_3 slcLen.eq_1 slcLen.eq_2 slcLen.eq_3 slcLen.eq_4 bdOk.eq_1 bdOk.eq_2 bdVal.eq_1 bdVal.eq_2 slcOk.eq_1 slcOk.eq_2 slcOk.eq_3 slcOk.eq_4 slcVal.eq_1 slcVal.eq_2 slcVal.eq_3 slcVal.eq_4 slcFz.eq_1 slcFz.eq_2 byOk.eq_1 byOk.eq_2 byOk.eq_3 byOk.eq_4 byOk.eq_5 byVal.eq_1 byVal.eq_2 byVal.eq_3 byFz.eq_1 byFz.eq_2 byFz.eq_3 byOks byVals byFzs allOne resSt.eq_1 resSt.eq_2 resName.eq_1 resName.eq_2 stOk.eq_1 stOk.eq_2 stArr.eq_1 stArr.eq_2 stSt.eq_1 stSt.eq_2 AV.patch nameOk_none gB.eq_1 gB.eq_2 gB.eq_3 gIs.eq_1 gIs.eq_2 gIs.eq_3 retV resV resVs evalV cellsV St.byval List.getD_cons_zero List.getD_cons_succ List.getD_nil List.map_cons List.map_nil List.length_cons List.length_nil List.take_succ_cons List.take_zero List.drop_succ_cons List.drop_zero List.headD_cons List.set_cons_zero List.append_nil List.nil_append List.cons_append List.contains_cons List.contains_nil List.elem_cons List.elem_nil List.all_cons List.all_nil List.getElem?_cons_zero List.getElem?_cons_succ List.filterMap_cons List.filterMap_nil Option.isSome_some Option.isSome_none Option.map_some Option.map_none Option.some.injEq AV.int.injEq AV.bool.injEq AV.str.injEq AV.tup.injEq AV.agg.injEq AV.sl.injEq List.cons.injEq Bool.false_eq_true Bool.true_eq_false Bool.not_true Bool.not_false Bool.and_true Bool.true_and Bool.or_false Bool.or_true Bool.false_or Bool.true_or Bool.or_self Bool.and_self Bool.not_eq_true' Bool.not_eq_false' Bool.not_not beq_self_eq_true true_and and_true false_and and_false and_self not_true_eq_false not_false_eq_true forall_const true_implies false_implies implies_true imp_self Nat.lt_add_one Nat.le_refl Nat.zero_le Nat.add_zero Nat.zero_add decide_true decide_false decide_eq_true_eq decide_eq_false_iff_not exists_eq_left exists_eq_left' ge_iff_le gt_iff_lt ite_branch ite_branch' nilOk.eq_1 nilOk.eq_2 nilMay.eq_1 nilMay.eq_2 AV.isSl.eq_1 objTy'.eq_1 objTy'.eq_2 apSt.eq_1 apArr.eq_1 apArr.eq_2 slOf.eq_1 fitsV List.mem_cons List.not_mem_nil Bool.false_and Bool.and_false

structure Eff where
  kind : Int
  val : ByteArray
deriving DecidableEq
structure Msg where
  stamp : Int
  kind : Int
  key : ByteArray
  hi : ByteArray
  op : Bool
  val : ByteArray
deriving DecidableEq
def Eff.a (e : Eff) : AV := .agg [.int .i64 e.kind, .str e.val]
def Msg.a (m : Msg) : AV := .agg [.int .i64 m.stamp, .int .i64 m.kind, .str m.key, .str m.hi, .bool m.op, .str m.val]
def Eff.none : Eff := ⟨0, ⟨#[]⟩⟩
def tail16 (s : ByteArray) : ByteArray := s.extract (s.size - 16) s.size
def Eff.thenC (a b : Eff) : Eff := if b.kind = 0 then a else if b.kind ≠ 2 ∨ a.kind = 0 then b else ⟨if a.kind = 2 then 2 else 1, tail16 ((if a.kind = 3 then ⟨#[]⟩ else a.val) ++ b.val)⟩
def Eff.thenR (a b : Eff) : Eff := if b.kind = 0 then a else if b.kind ≠ 2 ∨ a.kind = 0 then b else ⟨if a.kind = 2 then 2 else 1, tail16 (a.val ++ b.val)⟩
theorem then_same {a : Eff} (b : Eff) (h : a.kind = 3 → a.val = ⟨#[]⟩) : a.thenC b = a.thenR b := by
  unfold Eff.thenC Eff.thenR
  split
  · rfl
  · split
    · rfl
    · by_cases h3 : a.kind = 3
      · rw [if_pos h3, h h3]
      · rw [if_neg h3]
def Msg.span (m : Msg) : Spn := if m.kind = 4 then ⟨m.key, m.hi, m.op⟩ else pointS m.key
def Msg.on (m : Msg) (k : ByteArray) : Eff := if m.span.has k = true then (if m.kind = 1 ∨ m.kind = 2 then ⟨m.kind, m.val⟩ else if m.kind = 3 ∨ m.kind = 4 then ⟨3, ⟨#[]⟩⟩ else Eff.none) else Eff.none

/-! ### percolate/value.Tail -/
def r_vTail_0 : Reg := ⟨[], [⟨(.mv (.c (.str ⟨#[]⟩))), (some 2), none, [], []⟩], [], [], false⟩
def r_vTail_1 : Reg := ⟨[], [⟨(.mv (.t 0)), (some 3), none, [], []⟩, ⟨(.mv (.t 0)), (some 4), none, [], []⟩, ⟨(.len true (.t 4)), (some 5), none, [], []⟩, ⟨(.bin .sub (.t 5) (.c (.int .i64 16))), (some 6), none, [], []⟩, ⟨(.mx true (.c (.int .i64 0)) (.t 6)), (some 7), none, [], []⟩, ⟨(.slc true 0 (.t 3) (some (.t 7)) none), (some 8), none, [], []⟩, ⟨(.mv (.t 8)), (some 2), none, [], []⟩], [], [], false⟩
def ir_vTail : IR := (.seq (.reg r_vTail_0)
  (.seq (.reg r_vTail_1)
  .ret))
def res_vTail : List RDesc := [(.tmp 2)]
theorem e_vTail_0 (C : FuncId → List AV → AV → Prop) (σ : St) (K : St → Prop) : runReg C r_vTail_0 σ K = runOps C [⟨(.mv (.c (.str ⟨#[]⟩))), (some 2), none, [], []⟩] (σ.kills []) K := rfl
theorem e_vTail_1 (C : FuncId → List AV → AV → Prop) (σ : St) (K : St → Prop) : runReg C r_vTail_1 σ K = runOps C [⟨(.mv (.t 0)), (some 3), none, [], []⟩, ⟨(.mv (.t 0)), (some 4), none, [], []⟩, ⟨(.len true (.t 4)), (some 5), none, [], []⟩, ⟨(.bin .sub (.t 5) (.c (.int .i64 16))), (some 6), none, [], []⟩, ⟨(.mx true (.c (.int .i64 0)) (.t 6)), (some 7), none, [], []⟩, ⟨(.slc true 0 (.t 3) (some (.t 7)) none), (some 8), none, [], []⟩, ⟨(.mv (.t 8)), (some 2), none, [], []⟩] (σ.kills []) K := rfl
theorem fn_vTail {args : List AV} {r : AV} (ha : args.length.ble Try.f166.ntmps = true) (h : run (AFn Try.prog) ir_vTail (endQ res_vTail r) (initSt args)) : AFn Try.prog 166 args r :=
  AFn.of_code (hint := fun _ => []) (c := Try.f166.body.getD .skip) (by kernel_rfl) (by kernel_rfl) Try.func166 (by kernel_rfl) (by kernel_rfl) (by kernel_rfl) (of_decide_eq_true (by kernel_rfl)) (Nat.le_of_ble_eq_true ha) (run_ok h)

/-! ### percolate/value.Add -/
def r_vAdd_0 : Reg := ⟨[], [⟨(.mv (.c (.str ⟨#[]⟩))), (some 4), none, [], []⟩], [], [], false⟩
def r_vAdd_1 : Reg := ⟨[], [⟨(.mv (.t 0)), (some 5), none, [8], []⟩, ⟨(.mv (.t 1)), (some 6), none, [8], []⟩, ⟨(.bin .add (.t 5) (.t 6)), (some 7), none, [8], []⟩, ⟨(.callv (.c (.clo 166 [] [])) [(.t 7)]), (some 8), none, [], []⟩, ⟨(.mv (.t 8)), (some 4), none, [], []⟩], [8], [], false⟩
def ir_vAdd : IR := (.seq (.reg r_vAdd_0)
  (.seq (.reg r_vAdd_1)
  .ret))
def res_vAdd : List RDesc := [(.tmp 4)]
theorem e_vAdd_0 (C : FuncId → List AV → AV → Prop) (σ : St) (K : St → Prop) : runReg C r_vAdd_0 σ K = runOps C [⟨(.mv (.c (.str ⟨#[]⟩))), (some 4), none, [], []⟩] (σ.kills []) K := rfl
theorem e_vAdd_1 (C : FuncId → List AV → AV → Prop) (σ : St) (K : St → Prop) : runReg C r_vAdd_1 σ K = runOps C [⟨(.mv (.t 0)), (some 5), none, [8], []⟩, ⟨(.mv (.t 1)), (some 6), none, [8], []⟩, ⟨(.bin .add (.t 5) (.t 6)), (some 7), none, [8], []⟩, ⟨(.callv (.c (.clo 166 [] [])) [(.t 7)]), (some 8), none, [], []⟩, ⟨(.mv (.t 8)), (some 4), none, [], []⟩] (σ.kills [8]) K := rfl
theorem fn_vAdd {args : List AV} {r : AV} (ha : args.length.ble Try.f159.ntmps = true) (h : run (AFn Try.prog) ir_vAdd (endQ res_vAdd r) (initSt args)) : AFn Try.prog 159 args r :=
  AFn.of_code (hint := fun _ => []) (c := Try.f159.body.getD .skip) (by kernel_rfl) (by kernel_rfl) Try.func159 (by kernel_rfl) (by kernel_rfl) (by kernel_rfl) (of_decide_eq_true (by kernel_rfl)) (Nat.le_of_ble_eq_true ha) (run_ok h)

/-! ### percolate/effect.Apply -/
def r_eApply_0 : Reg := ⟨[], [⟨(.box 2 63 (.t 0)), (some 3), none, [], []⟩, ⟨(.mv (.c (.bool false))), (some 6), none, [], []⟩, ⟨(.mv (.c (.str ⟨#[]⟩))), (some 7), none, [], []⟩], [3], [], false⟩
def r_eApply_1 : Reg := ⟨[], [⟨(.mv (.t 1)), (some 8), none, [], []⟩, ⟨(.un .not (.t 8)), (some 9), none, [], []⟩], [], [], false⟩
def r_eApply_2 : Reg := ⟨[], [⟨(.mv (.c (.str ⟨#[]⟩))), (some 2), none, [], []⟩], [], [], false⟩
def r_eApply_3 : Reg := ⟨[], [⟨(.faddr 0 (.t 3)), (some 10), none, [], []⟩, ⟨(.load 1 false (.t 10)), (some 11), none, [], []⟩], [], [], false⟩
def r_eApply_4 : Reg := ⟨[], [⟨(.bin .eql (.t 11) (.c (.int .i64 1))), (some 13), none, [], []⟩, ⟨(.mv (.t 13)), (some 12), none, [], []⟩], [], [], false⟩
def r_eApply_5 : Reg := ⟨[⟨(.faddr 1 (.t 3)), (some 14), none, [], []⟩, ⟨(.load 1 false (.t 14)), (some 15), none, [], []⟩, ⟨(.mv (.c (.bool true))), (some 6), none, [], []⟩], [⟨(.mv (.t 15)), (some 7), none, [], []⟩], [], [], true⟩
def r_eApply_6 : Reg := ⟨[], [⟨(.bin .eql (.t 11) (.c (.int .i64 2))), (some 17), none, [], []⟩, ⟨(.mv (.t 17)), (some 16), none, [], []⟩], [], [], false⟩
def r_eApply_7 : Reg := ⟨[], [⟨(.mv (.t 2)), (some 18), none, [21], []⟩, ⟨(.faddr 1 (.t 3)), (some 19), none, [21], []⟩, ⟨(.load 1 false (.t 19)), (some 20), none, [21], []⟩, ⟨(.callv (.c (.clo 159 [] [])) [(.t 18), (.t 20)]), (some 21), none, [], []⟩, ⟨(.mv (.c (.bool true))), (some 6), none, [], []⟩, ⟨(.mv (.t 21)), (some 7), none, [], []⟩], [21], [], false⟩
def r_eApply_8 : Reg := ⟨[], [⟨(.bin .eql (.t 11) (.c (.int .i64 3))), (some 23), none, [], []⟩, ⟨(.mv (.t 23)), (some 22), none, [], []⟩], [], [], false⟩
def r_eApply_9 : Reg := ⟨[], [⟨(.mv (.c (.bool false))), (some 6), none, [], []⟩, ⟨(.mv (.c (.str ⟨#[]⟩))), (some 7), none, [], []⟩], [], [], false⟩
def r_eApply_10 : Reg := ⟨[], [⟨(.mv (.t 1)), (some 24), none, [], []⟩, ⟨(.mv (.t 2)), (some 25), none, [], []⟩, ⟨(.mv (.t 24)), (some 6), none, [], []⟩, ⟨(.mv (.t 25)), (some 7), none, [], []⟩], [], [], false⟩
def ir_eApply : IR := (.seq (.reg r_eApply_0)
  (.seq (.seq (.reg r_eApply_1)
  (.cond (.t 9) (.reg r_eApply_2)
  .skip))
  (.seq (.seq (.reg r_eApply_3)
  (.block 0 (.seq (.reg r_eApply_4)
  (.cond (.t 12) (.seq (.reg r_eApply_5)
  .ret)
  (.seq (.reg r_eApply_6)
  (.cond (.t 16) (.seq (.reg r_eApply_7)
  .ret)
  (.seq (.reg r_eApply_8)
  (.cond (.t 22) (.seq (.reg r_eApply_9)
  .ret)
  .skip))))))))
  (.seq (.reg r_eApply_10)
  .ret))))
def res_eApply : List RDesc := [(.tmp 6), (.tmp 7)]
theorem e_eApply_0 (C : FuncId → List AV → AV → Prop) (σ : St) (K : St → Prop) : runReg C r_eApply_0 σ K = runOps C [⟨(.box 2 63 (.t 0)), (some 3), none, [], []⟩, ⟨(.mv (.c (.bool false))), (some 6), none, [], []⟩, ⟨(.mv (.c (.str ⟨#[]⟩))), (some 7), none, [], []⟩] (σ.kills [3]) K := rfl
theorem e_eApply_1 (C : FuncId → List AV → AV → Prop) (σ : St) (K : St → Prop) : runReg C r_eApply_1 σ K = runOps C [⟨(.mv (.t 1)), (some 8), none, [], []⟩, ⟨(.un .not (.t 8)), (some 9), none, [], []⟩] (σ.kills []) K := rfl
theorem e_eApply_2 (C : FuncId → List AV → AV → Prop) (σ : St) (K : St → Prop) : runReg C r_eApply_2 σ K = runOps C [⟨(.mv (.c (.str ⟨#[]⟩))), (some 2), none, [], []⟩] (σ.kills []) K := rfl
theorem e_eApply_3 (C : FuncId → List AV → AV → Prop) (σ : St) (K : St → Prop) : runReg C r_eApply_3 σ K = runOps C [⟨(.faddr 0 (.t 3)), (some 10), none, [], []⟩, ⟨(.load 1 false (.t 10)), (some 11), none, [], []⟩] (σ.kills []) K := rfl
theorem e_eApply_4 (C : FuncId → List AV → AV → Prop) (σ : St) (K : St → Prop) : runReg C r_eApply_4 σ K = runOps C [⟨(.bin .eql (.t 11) (.c (.int .i64 1))), (some 13), none, [], []⟩, ⟨(.mv (.t 13)), (some 12), none, [], []⟩] (σ.kills []) K := rfl
theorem e_eApply_5 (C : FuncId → List AV → AV → Prop) (σ : St) (K : St → Prop) : runReg C r_eApply_5 σ K = runHead C [] [⟨(.mv (.t 15)), (some 7), none, [], []⟩] [⟨(.faddr 1 (.t 3)), (some 14), none, [], []⟩, ⟨(.load 1 false (.t 14)), (some 15), none, [], []⟩, ⟨(.mv (.c (.bool true))), (some 6), none, [], []⟩] (σ.kills []) K := rfl
theorem e_eApply_6 (C : FuncId → List AV → AV → Prop) (σ : St) (K : St → Prop) : runReg C r_eApply_6 σ K = runOps C [⟨(.bin .eql (.t 11) (.c (.int .i64 2))), (some 17), none, [], []⟩, ⟨(.mv (.t 17)), (some 16), none, [], []⟩] (σ.kills []) K := rfl
theorem e_eApply_7 (C : FuncId → List AV → AV → Prop) (σ : St) (K : St → Prop) : runReg C r_eApply_7 σ K = runOps C [⟨(.mv (.t 2)), (some 18), none, [21], []⟩, ⟨(.faddr 1 (.t 3)), (some 19), none, [21], []⟩, ⟨(.load 1 false (.t 19)), (some 20), none, [21], []⟩, ⟨(.callv (.c (.clo 159 [] [])) [(.t 18), (.t 20)]), (some 21), none, [], []⟩, ⟨(.mv (.c (.bool true))), (some 6), none, [], []⟩, ⟨(.mv (.t 21)), (some 7), none, [], []⟩] (σ.kills [21]) K := rfl
theorem e_eApply_8 (C : FuncId → List AV → AV → Prop) (σ : St) (K : St → Prop) : runReg C r_eApply_8 σ K = runOps C [⟨(.bin .eql (.t 11) (.c (.int .i64 3))), (some 23), none, [], []⟩, ⟨(.mv (.t 23)), (some 22), none, [], []⟩] (σ.kills []) K := rfl
theorem e_eApply_9 (C : FuncId → List AV → AV → Prop) (σ : St) (K : St → Prop) : runReg C r_eApply_9 σ K = runOps C [⟨(.mv (.c (.bool false))), (some 6), none, [], []⟩, ⟨(.mv (.c (.str ⟨#[]⟩))), (some 7), none, [], []⟩] (σ.kills []) K := rfl
theorem e_eApply_10 (C : FuncId → List AV → AV → Prop) (σ : St) (K : St → Prop) : runReg C r_eApply_10 σ K = runOps C [⟨(.mv (.t 1)), (some 24), none, [], []⟩, ⟨(.mv (.t 2)), (some 25), none, [], []⟩, ⟨(.mv (.t 24)), (some 6), none, [], []⟩, ⟨(.mv (.t 25)), (some 7), none, [], []⟩] (σ.kills []) K := rfl
theorem fn_eApply {args : List AV} {r : AV} (ha : args.length.ble Try.f138.ntmps = true) (h : run (AFn Try.prog) ir_eApply (endQ res_eApply r) (initSt args)) : AFn Try.prog 138 args r :=
  AFn.of_code (hint := fun _ => []) (c := Try.f138.body.getD .skip) (by kernel_rfl) (by kernel_rfl) Try.func138 (by kernel_rfl) (by kernel_rfl) (by kernel_rfl) (of_decide_eq_true (by kernel_rfl)) (Nat.le_of_ble_eq_true ha) (run_ok h)

/-! ### percolate/effect.Then -/
def r_eThen_0 : Reg := ⟨[], [⟨(.box 2 63 (.t 0)), (some 2), none, [3, 4], []⟩, ⟨(.box 2 63 (.t 1)), (some 3), none, [4], []⟩, ⟨(.alloc 2 63 (.agg [(.int .i64 0), (.str ⟨#[]⟩)])), (some 4), none, [], []⟩], [2, 3, 4], [], false⟩
def r_eThen_1 : Reg := ⟨[], [⟨(.faddr 0 (.t 3)), (some 8), none, [], []⟩, ⟨(.load 1 false (.t 8)), (some 9), none, [], []⟩, ⟨(.bin .eql (.t 9) (.c (.int .i64 0))), (some 10), none, [], []⟩, ⟨(.mv (.t 10)), (some 7), none, [], []⟩], [], [], false⟩
def r_eThen_2 : Reg := ⟨[], [⟨(.load 2 true (.t 2)), (some 11), none, [], []⟩, ⟨(.store 2 (.t 4) (.t 11)), none, none, [], []⟩], [], [], false⟩
def r_eThen_3 : Reg := ⟨[], [⟨(.faddr 0 (.t 3)), (some 13), none, [], []⟩, ⟨(.load 1 false (.t 13)), (some 14), none, [], []⟩, ⟨(.bin .neq (.t 14) (.c (.int .i64 2))), (some 15), none, [], []⟩, ⟨(.mv (.t 15)), (some 16), none, [], []⟩, ⟨(.faddr 0 (.t 2)), (some 17), (some (16, false)), [], []⟩, ⟨(.load 1 false (.t 17)), (some 18), (some (16, false)), [], []⟩, ⟨(.bin .eql (.t 18) (.c (.int .i64 0))), (some 19), (some (16, false)), [], []⟩, ⟨(.pick (.t 16) (.c (.bool true)) (.t 19)), (some 20), none, [], []⟩, ⟨(.mv (.t 20)), (some 12), none, [], []⟩], [], [], false⟩
def r_eThen_4 : Reg := ⟨[], [⟨(.load 2 true (.t 3)), (some 21), none, [], []⟩, ⟨(.store 2 (.t 4) (.t 21)), none, none, [], []⟩], [], [], false⟩
def r_eThen_5 : Reg := ⟨[], [⟨(.load 2 true (.t 3)), (some 23), none, [29], []⟩, ⟨(.faddr 0 (.t 2)), (some 24), none, [29], []⟩, ⟨(.load 1 false (.t 24)), (some 25), none, [29], []⟩, ⟨(.bin .neq (.t 25) (.c (.int .i64 3))), (some 26), none, [29], []⟩, ⟨(.faddr 1 (.t 2)), (some 27), none, [29], []⟩, ⟨(.load 1 false (.t 27)), (some 28), none, [29], []⟩, ⟨(.callv (.c (.clo 138 [] [])) [(.t 23), (.t 26), (.t 28)]), (some 29), none, [], []⟩, ⟨(.mv (.t 29)), (some 22), none, [], []⟩, ⟨(.ext 0 (.t 22)), (some 30), none, [], []⟩, ⟨(.ext 1 (.t 22)), (some 31), none, [], []⟩, ⟨(.mv (.t 30)), (some 5), none, [], []⟩, ⟨(.mv (.t 31)), (some 6), none, [], []⟩], [29], [], false⟩
def r_eThen_6 : Reg := ⟨[], [⟨(.faddr 0 (.t 2)), (some 32), none, [], []⟩, ⟨(.load 1 false (.t 32)), (some 33), none, [], []⟩], [], [], false⟩
def r_eThen_7 : Reg := ⟨[], [⟨(.bin .eql (.t 33) (.c (.int .i64 2))), (some 37), none, [], []⟩, ⟨(.mv (.t 37)), (some 36), none, [], []⟩], [], [], false⟩
def r_eThen_8 : Reg := ⟨[], [⟨(.mv (.t 6)), (some 38), none, [], []⟩, ⟨(.bld [(.int .i64 0), (.str ⟨#[]⟩)] [⟨0, 1, (.c (.int .i64 2))⟩, ⟨1, 1, (.t 38)⟩]), (some 39), none, [], []⟩, ⟨(.store 2 (.t 4) (.t 39)), none, none, [], []⟩], [], [], false⟩
def r_eThen_9 : Reg := ⟨[], [⟨(.mv (.t 6)), (some 34), none, [], []⟩, ⟨(.bld [(.int .i64 0), (.str ⟨#[]⟩)] [⟨0, 1, (.c (.int .i64 1))⟩, ⟨1, 1, (.t 34)⟩]), (some 35), none, [], []⟩, ⟨(.store 2 (.t 4) (.t 35)), none, none, [], []⟩], [], [], false⟩
def ir_eThen : IR := (.seq (.reg r_eThen_0)
  (.seq (.block 0 (.seq (.reg r_eThen_1)
  (.cond (.t 7) (.seq (.reg r_eThen_2)
  .ret)
  (.seq (.reg r_eThen_3)
  (.cond (.t 12) (.seq (.reg r_eThen_4)
  .ret)
  .skip)))))
  (.seq (.reg r_eThen_5)
  (.seq (.reg r_eThen_6)
  (.block 1 (.seq (.reg r_eThen_7)
  (.cond (.t 36) (.seq (.reg r_eThen_8)
  .ret)
  (.seq (.reg r_eThen_9)
  .ret))))))))
def res_eThen : List RDesc := [(.cell 4 2 true)]
theorem e_eThen_0 (C : FuncId → List AV → AV → Prop) (σ : St) (K : St → Prop) : runReg C r_eThen_0 σ K = runOps C [⟨(.box 2 63 (.t 0)), (some 2), none, [3, 4], []⟩, ⟨(.box 2 63 (.t 1)), (some 3), none, [4], []⟩, ⟨(.alloc 2 63 (.agg [(.int .i64 0), (.str ⟨#[]⟩)])), (some 4), none, [], []⟩] (σ.kills [2, 3, 4]) K := rfl
theorem e_eThen_1 (C : FuncId → List AV → AV → Prop) (σ : St) (K : St → Prop) : runReg C r_eThen_1 σ K = runOps C [⟨(.faddr 0 (.t 3)), (some 8), none, [], []⟩, ⟨(.load 1 false (.t 8)), (some 9), none, [], []⟩, ⟨(.bin .eql (.t 9) (.c (.int .i64 0))), (some 10), none, [], []⟩, ⟨(.mv (.t 10)), (some 7), none, [], []⟩] (σ.kills []) K := rfl
theorem e_eThen_2 (C : FuncId → List AV → AV → Prop) (σ : St) (K : St → Prop) : runReg C r_eThen_2 σ K = runOps C [⟨(.load 2 true (.t 2)), (some 11), none, [], []⟩, ⟨(.store 2 (.t 4) (.t 11)), none, none, [], []⟩] (σ.kills []) K := rfl
theorem e_eThen_3 (C : FuncId → List AV → AV → Prop) (σ : St) (K : St → Prop) : runReg C r_eThen_3 σ K = runOps C [⟨(.faddr 0 (.t 3)), (some 13), none, [], []⟩, ⟨(.load 1 false (.t 13)), (some 14), none, [], []⟩, ⟨(.bin .neq (.t 14) (.c (.int .i64 2))), (some 15), none, [], []⟩, ⟨(.mv (.t 15)), (some 16), none, [], []⟩, ⟨(.faddr 0 (.t 2)), (some 17), (some (16, false)), [], []⟩, ⟨(.load 1 false (.t 17)), (some 18), (some (16, false)), [], []⟩, ⟨(.bin .eql (.t 18) (.c (.int .i64 0))), (some 19), (some (16, false)), [], []⟩, ⟨(.pick (.t 16) (.c (.bool true)) (.t 19)), (some 20), none, [], []⟩, ⟨(.mv (.t 20)), (some 12), none, [], []⟩] (σ.kills []) K := rfl
theorem e_eThen_4 (C : FuncId → List AV → AV → Prop) (σ : St) (K : St → Prop) : runReg C r_eThen_4 σ K = runOps C [⟨(.load 2 true (.t 3)), (some 21), none, [], []⟩, ⟨(.store 2 (.t 4) (.t 21)), none, none, [], []⟩] (σ.kills []) K := rfl
theorem e_eThen_5 (C : FuncId → List AV → AV → Prop) (σ : St) (K : St → Prop) : runReg C r_eThen_5 σ K = runOps C [⟨(.load 2 true (.t 3)), (some 23), none, [29], []⟩, ⟨(.faddr 0 (.t 2)), (some 24), none, [29], []⟩, ⟨(.load 1 false (.t 24)), (some 25), none, [29], []⟩, ⟨(.bin .neq (.t 25) (.c (.int .i64 3))), (some 26), none, [29], []⟩, ⟨(.faddr 1 (.t 2)), (some 27), none, [29], []⟩, ⟨(.load 1 false (.t 27)), (some 28), none, [29], []⟩, ⟨(.callv (.c (.clo 138 [] [])) [(.t 23), (.t 26), (.t 28)]), (some 29), none, [], []⟩, ⟨(.mv (.t 29)), (some 22), none, [], []⟩, ⟨(.ext 0 (.t 22)), (some 30), none, [], []⟩, ⟨(.ext 1 (.t 22)), (some 31), none, [], []⟩, ⟨(.mv (.t 30)), (some 5), none, [], []⟩, ⟨(.mv (.t 31)), (some 6), none, [], []⟩] (σ.kills [29]) K := rfl
theorem e_eThen_6 (C : FuncId → List AV → AV → Prop) (σ : St) (K : St → Prop) : runReg C r_eThen_6 σ K = runOps C [⟨(.faddr 0 (.t 2)), (some 32), none, [], []⟩, ⟨(.load 1 false (.t 32)), (some 33), none, [], []⟩] (σ.kills []) K := rfl
theorem e_eThen_7 (C : FuncId → List AV → AV → Prop) (σ : St) (K : St → Prop) : runReg C r_eThen_7 σ K = runOps C [⟨(.bin .eql (.t 33) (.c (.int .i64 2))), (some 37), none, [], []⟩, ⟨(.mv (.t 37)), (some 36), none, [], []⟩] (σ.kills []) K := rfl
theorem e_eThen_8 (C : FuncId → List AV → AV → Prop) (σ : St) (K : St → Prop) : runReg C r_eThen_8 σ K = runOps C [⟨(.mv (.t 6)), (some 38), none, [], []⟩, ⟨(.bld [(.int .i64 0), (.str ⟨#[]⟩)] [⟨0, 1, (.c (.int .i64 2))⟩, ⟨1, 1, (.t 38)⟩]), (some 39), none, [], []⟩, ⟨(.store 2 (.t 4) (.t 39)), none, none, [], []⟩] (σ.kills []) K := rfl
theorem e_eThen_9 (C : FuncId → List AV → AV → Prop) (σ : St) (K : St → Prop) : runReg C r_eThen_9 σ K = runOps C [⟨(.mv (.t 6)), (some 34), none, [], []⟩, ⟨(.bld [(.int .i64 0), (.str ⟨#[]⟩)] [⟨0, 1, (.c (.int .i64 1))⟩, ⟨1, 1, (.t 34)⟩]), (some 35), none, [], []⟩, ⟨(.store 2 (.t 4) (.t 35)), none, none, [], []⟩] (σ.kills []) K := rfl
theorem fn_eThen {args : List AV} {r : AV} (ha : args.length.ble Try.f117.ntmps = true) (h : run (AFn Try.prog) ir_eThen (endQ res_eThen r) (initSt args)) : AFn Try.prog 117 args r :=
  AFn.of_code (hint := fun _ => []) (c := Try.f117.body.getD .skip) (by kernel_rfl) (by kernel_rfl) Try.func117 (by kernel_rfl) (by kernel_rfl) (by kernel_rfl) (of_decide_eq_true (by kernel_rfl)) (Nat.le_of_ble_eq_true ha) (run_ok h)

attribute [local go_sem ↓] ir_vTail
attribute [local go_sem] res_vTail e_vTail_0 e_vTail_1
attribute [local go_sem ↓] ir_vAdd
attribute [local go_sem] res_vAdd e_vAdd_0 e_vAdd_1
attribute [local go_sem ↓] ir_eApply
attribute [local go_sem] res_eApply e_eApply_0 e_eApply_1 e_eApply_2 e_eApply_3 e_eApply_4 e_eApply_5 e_eApply_6 e_eApply_7 e_eApply_8 e_eApply_9 e_eApply_10
attribute [local go_sem ↓] ir_eThen
attribute [local go_sem] res_eThen e_eThen_0 e_eThen_1 e_eThen_2 e_eThen_3 e_eThen_4 e_eThen_5 e_eThen_6 e_eThen_7 e_eThen_8 e_eThen_9

theorem valueTail (s : ByteArray) (hs : s.size ≤ 9223372036854775807) : AFn Try.prog 166 [.str s] (.str (tail16 s)) := by
  refine fn_vTail rfl ?_
  simp (maxSteps := 4000000) only [go_sem, ↓reduceIte, reduceCtorEq, Nat.reduceEqDiff, Nat.reduceBEq, Nat.reduceAdd, Nat.reduceSub, Nat.reduceMul, Nat.reduceLT, Nat.reduceLeDiff, Nat.reduceBNe, Int.reduceBEq, Int.reduceBNe, Int.reduceLT, Int.reduceLE, Spn.a, Msg.a, Eff.a]
  have hw : IntKind.i64.wrap ((s.size : Int) - 16) = s.size - 16 := IntWalk.i64_in _ (by omega)
  rw [hw]
  by_cases h : (0 : Int) < s.size - 16
  · rw [if_pos h, show ((s.size : Int) - 16).toNat = s.size - 16 by omega]
    exact ⟨⟨by omega, by omega⟩, rfl⟩
  · rw [if_neg h]
    refine ⟨⟨by omega, by simp⟩, ?_⟩
    unfold tail16
    rw [show s.size - 16 = 0 by omega]; rfl
theorem valueAdd (a b : ByteArray) (hs : a.size + b.size ≤ 9223372036854775807) : AFn Try.prog 159 [.str a, .str b] (.str (tail16 (a ++ b))) := by
  refine fn_vAdd rfl ?_
  simp (maxSteps := 4000000) only [go_sem, ↓reduceIte, reduceCtorEq, Nat.reduceEqDiff, Nat.reduceBEq, Nat.reduceAdd, Nat.reduceSub, Nat.reduceMul, Nat.reduceLT, Nat.reduceLeDiff, Nat.reduceBNe, Int.reduceBEq, Int.reduceBNe, Int.reduceLT, Int.reduceLE, Spn.a, Msg.a, Eff.a]
  refine ⟨hs, ?_⟩
  (first | refine calling (valueTail (a ++ b) (by rw [ByteArray.size_append]; exact hs)) ?_ | refine callingH (valueTail (a ++ b) (by rw [ByteArray.size_append]; exact hs)) ?_)
  simp (maxSteps := 4000000) only [go_sem, ↓reduceIte, reduceCtorEq, Nat.reduceEqDiff, Nat.reduceBEq, Nat.reduceAdd, Nat.reduceSub, Nat.reduceMul, Nat.reduceLT, Nat.reduceLeDiff, Nat.reduceBNe, Int.reduceBEq, Int.reduceBNe, Int.reduceLT, Int.reduceLE, Spn.a, Msg.a, Eff.a]
theorem effApply (x v : ByteArray) (has : Bool) (hs : v.size + x.size ≤ 9223372036854775807) : AFn Try.prog 138 [(⟨2, x⟩ : Eff).a, .bool has, .str v] (.tup [.bool true, .str (tail16 ((if has then v else ⟨#[]⟩) ++ x))]) := by
  refine fn_eApply rfl ?_
  cases has
  · simp (maxSteps := 4000000) only [go_sem, ↓reduceIte, reduceCtorEq, Nat.reduceEqDiff, Nat.reduceBEq, Nat.reduceAdd, Nat.reduceSub, Nat.reduceMul, Nat.reduceLT, Nat.reduceLeDiff, Nat.reduceBNe, Int.reduceBEq, Int.reduceBNe, Int.reduceLT, Int.reduceLE, Spn.a, Msg.a, Eff.a]
    (first | refine calling (valueAdd ⟨#[]⟩ x (by show 0 + x.size ≤ _; omega)) ?_ | refine callingH (valueAdd ⟨#[]⟩ x (by show 0 + x.size ≤ _; omega)) ?_)
    simp (maxSteps := 4000000) only [go_sem, ↓reduceIte, reduceCtorEq, Nat.reduceEqDiff, Nat.reduceBEq, Nat.reduceAdd, Nat.reduceSub, Nat.reduceMul, Nat.reduceLT, Nat.reduceLeDiff, Nat.reduceBNe, Int.reduceBEq, Int.reduceBNe, Int.reduceLT, Int.reduceLE, Spn.a, Msg.a, Eff.a]
  · simp (maxSteps := 4000000) only [go_sem, ↓reduceIte, reduceCtorEq, Nat.reduceEqDiff, Nat.reduceBEq, Nat.reduceAdd, Nat.reduceSub, Nat.reduceMul, Nat.reduceLT, Nat.reduceLeDiff, Nat.reduceBNe, Int.reduceBEq, Int.reduceBNe, Int.reduceLT, Int.reduceLE, Spn.a, Msg.a, Eff.a]
    (first | refine calling (valueAdd v x hs) ?_ | refine callingH (valueAdd v x hs) ?_)
    simp (maxSteps := 4000000) only [go_sem, ↓reduceIte, reduceCtorEq, Nat.reduceEqDiff, Nat.reduceBEq, Nat.reduceAdd, Nat.reduceSub, Nat.reduceMul, Nat.reduceLT, Nat.reduceLeDiff, Nat.reduceBNe, Int.reduceBEq, Int.reduceBNe, Int.reduceLT, Int.reduceLE, Spn.a, Msg.a, Eff.a]
theorem effThen (a b : Eff) (hs : a.val.size + b.val.size ≤ 9223372036854775807) : AFn Try.prog 117 [a.a, b.a] (a.thenC b).a := by
  refine fn_eThen rfl ?_
  cases h1 : (b.kind == 0) with
  | true =>
    have h1' : b.kind = 0 := by simpa using h1
    simp (maxSteps := 4000000) only [go_sem, ↓reduceIte, reduceCtorEq, Nat.reduceEqDiff, Nat.reduceBEq, Nat.reduceAdd, Nat.reduceSub, Nat.reduceMul, Nat.reduceLT, Nat.reduceLeDiff, Nat.reduceBNe, Int.reduceBEq, Int.reduceBNe, Int.reduceLT, Int.reduceLE, Spn.a, Msg.a, Eff.a, h1]
    simp [Eff.thenC, h1']
  | false =>
    have h1' : b.kind ≠ 0 := by simpa using h1
    cases h2 : (b.kind != 2) with
    | true =>
      have h2' : b.kind ≠ 2 := by simpa using h2
      simp (maxSteps := 4000000) only [go_sem, ↓reduceIte, reduceCtorEq, Nat.reduceEqDiff, Nat.reduceBEq, Nat.reduceAdd, Nat.reduceSub, Nat.reduceMul, Nat.reduceLT, Nat.reduceLeDiff, Nat.reduceBNe, Int.reduceBEq, Int.reduceBNe, Int.reduceLT, Int.reduceLE, Spn.a, Msg.a, Eff.a, h1, h2]
      simp [Eff.thenC, h1', h2']
    | false =>
      have h2' : b.kind = 2 := by simpa using h2
      cases h3 : (a.kind == 0) with
      | true =>
        have h3' : a.kind = 0 := by simpa using h3
        simp (maxSteps := 4000000) only [go_sem, ↓reduceIte, reduceCtorEq, Nat.reduceEqDiff, Nat.reduceBEq, Nat.reduceAdd, Nat.reduceSub, Nat.reduceMul, Nat.reduceLT, Nat.reduceLeDiff, Nat.reduceBNe, Int.reduceBEq, Int.reduceBNe, Int.reduceLT, Int.reduceLE, Spn.a, Msg.a, Eff.a, h1, h2, h3]
        simp [Eff.thenC, h1', h3']
      | false =>
        have h3' : a.kind ≠ 0 := by simpa using h3
        obtain ⟨bk, bv⟩ := b
        simp only at h2' hs
        subst h2'
        simp (maxSteps := 4000000) only [go_sem, ↓reduceIte, reduceCtorEq, Nat.reduceEqDiff, Nat.reduceBEq, Nat.reduceAdd, Nat.reduceSub, Nat.reduceMul, Nat.reduceLT, Nat.reduceLeDiff, Nat.reduceBNe, Int.reduceBEq, Int.reduceBNe, Int.reduceLT, Int.reduceLE, Spn.a, Msg.a, Eff.a, h1, h2, h3]
        (first | refine calling (effApply bv a.val (a.kind != 3) hs) ?_ | refine callingH (effApply bv a.val (a.kind != 3) hs) ?_)
        cases h4 : (a.kind == 2) with
        | true =>
          have h4' : a.kind = 2 := by simpa using h4
          simp (maxSteps := 4000000) only [go_sem, ↓reduceIte, reduceCtorEq, Nat.reduceEqDiff, Nat.reduceBEq, Nat.reduceAdd, Nat.reduceSub, Nat.reduceMul, Nat.reduceLT, Nat.reduceLeDiff, Nat.reduceBNe, Int.reduceBEq, Int.reduceBNe, Int.reduceLT, Int.reduceLE, Spn.a, Msg.a, Eff.a, h1, h2, h3, h4]
          simp [Eff.thenC, h3', h4']
        | false =>
          have h4' : a.kind ≠ 2 := by simpa using h4
          simp (maxSteps := 4000000) only [go_sem, ↓reduceIte, reduceCtorEq, Nat.reduceEqDiff, Nat.reduceBEq, Nat.reduceAdd, Nat.reduceSub, Nat.reduceMul, Nat.reduceLT, Nat.reduceLeDiff, Nat.reduceBNe, Int.reduceBEq, Int.reduceBNe, Int.reduceLT, Int.reduceLE, Spn.a, Msg.a, Eff.a, h1, h2, h3, h4]
          by_cases h5 : a.kind = 3 <;> simp [Eff.thenC, h3', h4', h5]
/-! ### percolate/message.Span -/
def r_mSpan_0 : Reg := ⟨[], [⟨(.box 6 55 (.t 0)), (some 1), none, [2], []⟩, ⟨(.alloc 3 41 (.agg [(.str ⟨#[]⟩), (.str ⟨#[]⟩), (.bool false)])), (some 2), none, [], []⟩], [1, 2], [], false⟩
def r_mSpan_1 : Reg := ⟨[], [⟨(.faddr 1 (.t 1)), (some 3), none, [], []⟩, ⟨(.load 1 false (.t 3)), (some 4), none, [], []⟩, ⟨(.bin .eql (.t 4) (.c (.int .i64 4))), (some 5), none, [], []⟩], [], [], false⟩
def r_mSpan_2 : Reg := ⟨[], [⟨(.faddr 2 (.t 1)), (some 6), none, [], []⟩, ⟨(.load 1 false (.t 6)), (some 7), none, [], []⟩, ⟨(.faddr 3 (.t 1)), (some 8), none, [], []⟩, ⟨(.load 1 false (.t 8)), (some 9), none, [], []⟩, ⟨(.faddr 4 (.t 1)), (some 10), none, [], []⟩, ⟨(.load 1 false (.t 10)), (some 11), none, [], []⟩, ⟨(.bld [(.str ⟨#[]⟩), (.str ⟨#[]⟩), (.bool false)] [⟨0, 1, (.t 7)⟩, ⟨1, 1, (.t 9)⟩, ⟨2, 1, (.t 11)⟩]), (some 12), none, [], []⟩, ⟨(.store 3 (.t 2) (.t 12)), none, none, [], []⟩], [], [], false⟩
def r_mSpan_3 : Reg := ⟨[], [⟨(.faddr 2 (.t 1)), (some 13), none, [15], []⟩, ⟨(.load 1 false (.t 13)), (some 14), none, [15], []⟩, ⟨(.callv (.c (.clo 129 [] [])) [(.t 14)]), (some 15), none, [], []⟩, ⟨(.store 3 (.t 2) (.t 15)), none, none, [], []⟩], [15], [], false⟩
def ir_mSpan : IR := (.seq (.reg r_mSpan_0)
  (.seq (.seq (.reg r_mSpan_1)
  (.cond (.t 5) (.seq (.reg r_mSpan_2)
  .ret)
  .skip))
  (.seq (.reg r_mSpan_3)
  .ret)))
def res_mSpan : List RDesc := [(.cell 2 3 true)]
theorem e_mSpan_0 (C : FuncId → List AV → AV → Prop) (σ : St) (K : St → Prop) : runReg C r_mSpan_0 σ K = runOps C [⟨(.box 6 55 (.t 0)), (some 1), none, [2], []⟩, ⟨(.alloc 3 41 (.agg [(.str ⟨#[]⟩), (.str ⟨#[]⟩), (.bool false)])), (some 2), none, [], []⟩] (σ.kills [1, 2]) K := rfl
theorem e_mSpan_1 (C : FuncId → List AV → AV → Prop) (σ : St) (K : St → Prop) : runReg C r_mSpan_1 σ K = runOps C [⟨(.faddr 1 (.t 1)), (some 3), none, [], []⟩, ⟨(.load 1 false (.t 3)), (some 4), none, [], []⟩, ⟨(.bin .eql (.t 4) (.c (.int .i64 4))), (some 5), none, [], []⟩] (σ.kills []) K := rfl
theorem e_mSpan_2 (C : FuncId → List AV → AV → Prop) (σ : St) (K : St → Prop) : runReg C r_mSpan_2 σ K = runOps C [⟨(.faddr 2 (.t 1)), (some 6), none, [], []⟩, ⟨(.load 1 false (.t 6)), (some 7), none, [], []⟩, ⟨(.faddr 3 (.t 1)), (some 8), none, [], []⟩, ⟨(.load 1 false (.t 8)), (some 9), none, [], []⟩, ⟨(.faddr 4 (.t 1)), (some 10), none, [], []⟩, ⟨(.load 1 false (.t 10)), (some 11), none, [], []⟩, ⟨(.bld [(.str ⟨#[]⟩), (.str ⟨#[]⟩), (.bool false)] [⟨0, 1, (.t 7)⟩, ⟨1, 1, (.t 9)⟩, ⟨2, 1, (.t 11)⟩]), (some 12), none, [], []⟩, ⟨(.store 3 (.t 2) (.t 12)), none, none, [], []⟩] (σ.kills []) K := rfl
theorem e_mSpan_3 (C : FuncId → List AV → AV → Prop) (σ : St) (K : St → Prop) : runReg C r_mSpan_3 σ K = runOps C [⟨(.faddr 2 (.t 1)), (some 13), none, [15], []⟩, ⟨(.load 1 false (.t 13)), (some 14), none, [15], []⟩, ⟨(.callv (.c (.clo 129 [] [])) [(.t 14)]), (some 15), none, [], []⟩, ⟨(.store 3 (.t 2) (.t 15)), none, none, [], []⟩] (σ.kills [15]) K := rfl
theorem fn_mSpan {args : List AV} {r : AV} (ha : args.length.ble Try.f105.ntmps = true) (h : run (AFn Try.prog) ir_mSpan (endQ res_mSpan r) (initSt args)) : AFn Try.prog 105 args r :=
  AFn.of_code (hint := fun _ => []) (c := Try.f105.body.getD .skip) (by kernel_rfl) (by kernel_rfl) Try.func105 (by kernel_rfl) (by kernel_rfl) (by kernel_rfl) (of_decide_eq_true (by kernel_rfl)) (Nat.le_of_ble_eq_true ha) (run_ok h)

/-! ### percolate/message.Touches -/
def r_mTouches_0 : Reg := ⟨[], [⟨(.box 6 55 (.t 0)), (some 2), none, [3], []⟩, ⟨(.box 3 41 (.t 1)), (some 3), none, [], []⟩, ⟨(.mv (.c (.bool false))), (some 4), none, [], []⟩], [2, 3], [], false⟩
def r_mTouches_1 : Reg := ⟨[⟨(.load 6 true (.t 2)), (some 5), none, [6, 8], []⟩, ⟨(.callv (.c (.clo 105 [] [])) [(.t 5)]), (some 6), none, [8], []⟩, ⟨(.load 3 true (.t 3)), (some 7), none, [6, 8], []⟩], [⟨(.callv (.c (.clo 130 [] [])) [(.t 6), (.t 7)]), (some 8), none, [], []⟩, ⟨(.mv (.t 8)), (some 4), none, [], []⟩], [6, 8], [], true⟩
def ir_mTouches : IR := (.seq (.reg r_mTouches_0)
  (.seq (.reg r_mTouches_1)
  .ret))
def res_mTouches : List RDesc := [(.tmp 4)]
theorem e_mTouches_0 (C : FuncId → List AV → AV → Prop) (σ : St) (K : St → Prop) : runReg C r_mTouches_0 σ K = runOps C [⟨(.box 6 55 (.t 0)), (some 2), none, [3], []⟩, ⟨(.box 3 41 (.t 1)), (some 3), none, [], []⟩, ⟨(.mv (.c (.bool false))), (some 4), none, [], []⟩] (σ.kills [2, 3]) K := rfl
theorem e_mTouches_1 (C : FuncId → List AV → AV → Prop) (σ : St) (K : St → Prop) : runReg C r_mTouches_1 σ K = runHead C [] [⟨(.callv (.c (.clo 130 [] [])) [(.t 6), (.t 7)]), (some 8), none, [], []⟩, ⟨(.mv (.t 8)), (some 4), none, [], []⟩] [⟨(.load 6 true (.t 2)), (some 5), none, [6, 8], []⟩, ⟨(.callv (.c (.clo 105 [] [])) [(.t 5)]), (some 6), none, [8], []⟩, ⟨(.load 3 true (.t 3)), (some 7), none, [6, 8], []⟩] (σ.kills [6, 8]) K := rfl
theorem fn_mTouches {args : List AV} {r : AV} (ha : args.length.ble Try.f106.ntmps = true) (h : run (AFn Try.prog) ir_mTouches (endQ res_mTouches r) (initSt args)) : AFn Try.prog 106 args r :=
  AFn.of_code (hint := fun _ => []) (c := Try.f106.body.getD .skip) (by kernel_rfl) (by kernel_rfl) Try.func106 (by kernel_rfl) (by kernel_rfl) (by kernel_rfl) (of_decide_eq_true (by kernel_rfl)) (Nat.le_of_ble_eq_true ha) (run_ok h)

/-! ### percolate/message.On -/
def r_mOn_0 : Reg := ⟨[], [⟨(.box 6 55 (.t 0)), (some 2), none, [4], []⟩, ⟨(.alloc 2 63 (.agg [(.int .i64 0), (.str ⟨#[]⟩)])), (some 4), none, [], []⟩], [2, 4], [], false⟩
def r_mOn_1 : Reg := ⟨[], [⟨(.load 6 true (.t 2)), (some 5), none, [6, 8], []⟩, ⟨(.callv (.c (.clo 105 [] [])) [(.t 5)]), (some 6), none, [8], []⟩, ⟨(.mv (.t 1)), (some 7), none, [8], []⟩, ⟨(.callv (.c (.clo 139 [] [])) [(.t 6), (.t 7)]), (some 8), none, [], []⟩, ⟨(.un .not (.t 8)), (some 9), none, [], []⟩], [6, 8], [], false⟩
def r_mOn_2 : Reg := ⟨[], [⟨(.bld [(.int .i64 0), (.str ⟨#[]⟩)] []), (some 10), none, [], []⟩, ⟨(.store 2 (.t 4) (.t 10)), none, none, [], []⟩], [], [], false⟩
def r_mOn_3 : Reg := ⟨[], [⟨(.faddr 1 (.t 2)), (some 11), none, [], []⟩, ⟨(.load 1 false (.t 11)), (some 12), none, [], []⟩], [], [], false⟩
def r_mOn_4 : Reg := ⟨[], [⟨(.bin .eql (.t 12) (.c (.int .i64 1))), (some 14), none, [], []⟩, ⟨(.mv (.t 14)), (some 13), none, [], []⟩], [], [], false⟩
def r_mOn_5 : Reg := ⟨[], [⟨(.bin .eql (.t 12) (.c (.int .i64 2))), (some 15), none, [], []⟩, ⟨(.mv (.t 15)), (some 13), none, [], []⟩], [], [], false⟩
def r_mOn_6 : Reg := ⟨[], [⟨(.faddr 1 (.t 2)), (some 16), none, [], []⟩, ⟨(.load 1 false (.t 16)), (some 17), none, [], []⟩, ⟨(.faddr 5 (.t 2)), (some 18), none, [], []⟩, ⟨(.load 1 false (.t 18)), (some 19), none, [], []⟩, ⟨(.bld [(.int .i64 0), (.str ⟨#[]⟩)] [⟨0, 1, (.t 17)⟩, ⟨1, 1, (.t 19)⟩]), (some 20), none, [], []⟩, ⟨(.store 2 (.t 4) (.t 20)), none, none, [], []⟩], [], [], false⟩
def r_mOn_7 : Reg := ⟨[], [⟨(.bin .eql (.t 12) (.c (.int .i64 3))), (some 22), none, [], []⟩, ⟨(.mv (.t 22)), (some 21), none, [], []⟩], [], [], false⟩
def r_mOn_8 : Reg := ⟨[], [⟨(.bin .eql (.t 12) (.c (.int .i64 4))), (some 23), none, [], []⟩, ⟨(.mv (.t 23)), (some 21), none, [], []⟩], [], [], false⟩
def r_mOn_9 : Reg := ⟨[], [⟨(.bld [(.int .i64 0), (.str ⟨#[]⟩)] [⟨0, 1, (.c (.int .i64 3))⟩]), (some 24), none, [], []⟩, ⟨(.store 2 (.t 4) (.t 24)), none, none, [], []⟩], [], [], false⟩
def r_mOn_10 : Reg := ⟨[], [⟨(.bld [(.int .i64 0), (.str ⟨#[]⟩)] []), (some 25), none, [], []⟩, ⟨(.store 2 (.t 4) (.t 25)), none, none, [], []⟩], [], [], false⟩
def ir_mOn : IR := (.seq (.reg r_mOn_0)
  (.seq (.seq (.reg r_mOn_1)
  (.cond (.t 9) (.seq (.reg r_mOn_2)
  .ret)
  .skip))
  (.seq (.seq (.reg r_mOn_3)
  (.block 0 (.seq (.seq (.reg r_mOn_4)
  (.cond (.t 13) .skip
  (.reg r_mOn_5)))
  (.cond (.t 13) (.seq (.reg r_mOn_6)
  .ret)
  (.seq (.seq (.reg r_mOn_7)
  (.cond (.t 21) .skip
  (.reg r_mOn_8)))
  (.cond (.t 21) (.seq (.reg r_mOn_9)
  .ret)
  .skip))))))
  (.seq (.reg r_mOn_10)
  .ret))))
def res_mOn : List RDesc := [(.cell 4 2 true)]
theorem e_mOn_0 (C : FuncId → List AV → AV → Prop) (σ : St) (K : St → Prop) : runReg C r_mOn_0 σ K = runOps C [⟨(.box 6 55 (.t 0)), (some 2), none, [4], []⟩, ⟨(.alloc 2 63 (.agg [(.int .i64 0), (.str ⟨#[]⟩)])), (some 4), none, [], []⟩] (σ.kills [2, 4]) K := rfl
theorem e_mOn_1 (C : FuncId → List AV → AV → Prop) (σ : St) (K : St → Prop) : runReg C r_mOn_1 σ K = runOps C [⟨(.load 6 true (.t 2)), (some 5), none, [6, 8], []⟩, ⟨(.callv (.c (.clo 105 [] [])) [(.t 5)]), (some 6), none, [8], []⟩, ⟨(.mv (.t 1)), (some 7), none, [8], []⟩, ⟨(.callv (.c (.clo 139 [] [])) [(.t 6), (.t 7)]), (some 8), none, [], []⟩, ⟨(.un .not (.t 8)), (some 9), none, [], []⟩] (σ.kills [6, 8]) K := rfl
theorem e_mOn_2 (C : FuncId → List AV → AV → Prop) (σ : St) (K : St → Prop) : runReg C r_mOn_2 σ K = runOps C [⟨(.bld [(.int .i64 0), (.str ⟨#[]⟩)] []), (some 10), none, [], []⟩, ⟨(.store 2 (.t 4) (.t 10)), none, none, [], []⟩] (σ.kills []) K := rfl
theorem e_mOn_3 (C : FuncId → List AV → AV → Prop) (σ : St) (K : St → Prop) : runReg C r_mOn_3 σ K = runOps C [⟨(.faddr 1 (.t 2)), (some 11), none, [], []⟩, ⟨(.load 1 false (.t 11)), (some 12), none, [], []⟩] (σ.kills []) K := rfl
theorem e_mOn_4 (C : FuncId → List AV → AV → Prop) (σ : St) (K : St → Prop) : runReg C r_mOn_4 σ K = runOps C [⟨(.bin .eql (.t 12) (.c (.int .i64 1))), (some 14), none, [], []⟩, ⟨(.mv (.t 14)), (some 13), none, [], []⟩] (σ.kills []) K := rfl
theorem e_mOn_5 (C : FuncId → List AV → AV → Prop) (σ : St) (K : St → Prop) : runReg C r_mOn_5 σ K = runOps C [⟨(.bin .eql (.t 12) (.c (.int .i64 2))), (some 15), none, [], []⟩, ⟨(.mv (.t 15)), (some 13), none, [], []⟩] (σ.kills []) K := rfl
theorem e_mOn_6 (C : FuncId → List AV → AV → Prop) (σ : St) (K : St → Prop) : runReg C r_mOn_6 σ K = runOps C [⟨(.faddr 1 (.t 2)), (some 16), none, [], []⟩, ⟨(.load 1 false (.t 16)), (some 17), none, [], []⟩, ⟨(.faddr 5 (.t 2)), (some 18), none, [], []⟩, ⟨(.load 1 false (.t 18)), (some 19), none, [], []⟩, ⟨(.bld [(.int .i64 0), (.str ⟨#[]⟩)] [⟨0, 1, (.t 17)⟩, ⟨1, 1, (.t 19)⟩]), (some 20), none, [], []⟩, ⟨(.store 2 (.t 4) (.t 20)), none, none, [], []⟩] (σ.kills []) K := rfl
theorem e_mOn_7 (C : FuncId → List AV → AV → Prop) (σ : St) (K : St → Prop) : runReg C r_mOn_7 σ K = runOps C [⟨(.bin .eql (.t 12) (.c (.int .i64 3))), (some 22), none, [], []⟩, ⟨(.mv (.t 22)), (some 21), none, [], []⟩] (σ.kills []) K := rfl
theorem e_mOn_8 (C : FuncId → List AV → AV → Prop) (σ : St) (K : St → Prop) : runReg C r_mOn_8 σ K = runOps C [⟨(.bin .eql (.t 12) (.c (.int .i64 4))), (some 23), none, [], []⟩, ⟨(.mv (.t 23)), (some 21), none, [], []⟩] (σ.kills []) K := rfl
theorem e_mOn_9 (C : FuncId → List AV → AV → Prop) (σ : St) (K : St → Prop) : runReg C r_mOn_9 σ K = runOps C [⟨(.bld [(.int .i64 0), (.str ⟨#[]⟩)] [⟨0, 1, (.c (.int .i64 3))⟩]), (some 24), none, [], []⟩, ⟨(.store 2 (.t 4) (.t 24)), none, none, [], []⟩] (σ.kills []) K := rfl
theorem e_mOn_10 (C : FuncId → List AV → AV → Prop) (σ : St) (K : St → Prop) : runReg C r_mOn_10 σ K = runOps C [⟨(.bld [(.int .i64 0), (.str ⟨#[]⟩)] []), (some 25), none, [], []⟩, ⟨(.store 2 (.t 4) (.t 25)), none, none, [], []⟩] (σ.kills []) K := rfl
theorem fn_mOn {args : List AV} {r : AV} (ha : args.length.ble Try.f118.ntmps = true) (h : run (AFn Try.prog) ir_mOn (endQ res_mOn r) (initSt args)) : AFn Try.prog 118 args r :=
  AFn.of_code (hint := fun _ => []) (c := Try.f118.body.getD .skip) (by kernel_rfl) (by kernel_rfl) Try.func118 (by kernel_rfl) (by kernel_rfl) (by kernel_rfl) (of_decide_eq_true (by kernel_rfl)) (Nat.le_of_ble_eq_true ha) (run_ok h)

attribute [local go_sem ↓] ir_mSpan
attribute [local go_sem] res_mSpan e_mSpan_0 e_mSpan_1 e_mSpan_2 e_mSpan_3
attribute [local go_sem ↓] ir_mTouches
attribute [local go_sem] res_mTouches e_mTouches_0 e_mTouches_1
attribute [local go_sem ↓] ir_mOn
attribute [local go_sem] res_mOn e_mOn_0 e_mOn_1 e_mOn_2 e_mOn_3 e_mOn_4 e_mOn_5 e_mOn_6 e_mOn_7 e_mOn_8 e_mOn_9 e_mOn_10

theorem msgSpan (m : Msg) (hk : m.key.size ≤ 9223372036854775806) : AFn Try.prog 105 [m.a] m.span.a := by
  refine fn_mSpan rfl ?_
  cases h : (m.kind == 4) with
  | true =>
    have h' : m.kind = 4 := by simpa using h
    simp (maxSteps := 4000000) only [go_sem, ↓reduceIte, reduceCtorEq, Nat.reduceEqDiff, Nat.reduceBEq, Nat.reduceAdd, Nat.reduceSub, Nat.reduceMul, Nat.reduceLT, Nat.reduceLeDiff, Nat.reduceBNe, Int.reduceBEq, Int.reduceBNe, Int.reduceLT, Int.reduceLE, Spn.a, Msg.a, Eff.a, h]
    simp [Msg.span, h']
  | false =>
    have h' : m.kind ≠ 4 := by simpa using h
    simp (maxSteps := 4000000) only [go_sem, ↓reduceIte, reduceCtorEq, Nat.reduceEqDiff, Nat.reduceBEq, Nat.reduceAdd, Nat.reduceSub, Nat.reduceMul, Nat.reduceLT, Nat.reduceLeDiff, Nat.reduceBNe, Int.reduceBEq, Int.reduceBNe, Int.reduceLT, Int.reduceLE, Spn.a, Msg.a, Eff.a, h]
    (first | refine calling (spanPoint m.key hk) ?_ | refine callingH (spanPoint m.key hk) ?_)
    simp (maxSteps := 4000000) only [go_sem, ↓reduceIte, reduceCtorEq, Nat.reduceEqDiff, Nat.reduceBEq, Nat.reduceAdd, Nat.reduceSub, Nat.reduceMul, Nat.reduceLT, Nat.reduceLeDiff, Nat.reduceBNe, Int.reduceBEq, Int.reduceBNe, Int.reduceLT, Int.reduceLE, Spn.a, Msg.a, Eff.a, h]
    simp [Msg.span, h']
theorem msgTouches (m : Msg) (s : Spn) (hk : m.key.size ≤ 9223372036854775806) : AFn Try.prog 106 [m.a, s.a] (.bool (m.span.touch s)) := by
  refine fn_mTouches rfl ?_
  simp (maxSteps := 4000000) only [go_sem, ↓reduceIte, reduceCtorEq, Nat.reduceEqDiff, Nat.reduceBEq, Nat.reduceAdd, Nat.reduceSub, Nat.reduceMul, Nat.reduceLT, Nat.reduceLeDiff, Nat.reduceBNe, Int.reduceBEq, Int.reduceBNe, Int.reduceLT, Int.reduceLE, Spn.a, Msg.a, Eff.a]
  (first | refine calling (msgSpan m hk) ?_ | refine callingH (msgSpan m hk) ?_)
  simp (maxSteps := 4000000) only [go_sem, ↓reduceIte, reduceCtorEq, Nat.reduceEqDiff, Nat.reduceBEq, Nat.reduceAdd, Nat.reduceSub, Nat.reduceMul, Nat.reduceLT, Nat.reduceLeDiff, Nat.reduceBNe, Int.reduceBEq, Int.reduceBNe, Int.reduceLT, Int.reduceLE, Spn.a, Msg.a, Eff.a]
  (first | refine calling (spanTouch m.span s) ?_ | refine callingH (spanTouch m.span s) ?_)
  simp (maxSteps := 4000000) only [go_sem, ↓reduceIte, reduceCtorEq, Nat.reduceEqDiff, Nat.reduceBEq, Nat.reduceAdd, Nat.reduceSub, Nat.reduceMul, Nat.reduceLT, Nat.reduceLeDiff, Nat.reduceBNe, Int.reduceBEq, Int.reduceBNe, Int.reduceLT, Int.reduceLE, Spn.a, Msg.a, Eff.a]
theorem msgOn (m : Msg) (k : ByteArray) (hk : m.key.size ≤ 9223372036854775806) : AFn Try.prog 118 [m.a, .str k] (m.on k).a := by
  refine fn_mOn rfl ?_
  simp (maxSteps := 4000000) only [go_sem, ↓reduceIte, reduceCtorEq, Nat.reduceEqDiff, Nat.reduceBEq, Nat.reduceAdd, Nat.reduceSub, Nat.reduceMul, Nat.reduceLT, Nat.reduceLeDiff, Nat.reduceBNe, Int.reduceBEq, Int.reduceBNe, Int.reduceLT, Int.reduceLE, Spn.a, Msg.a, Eff.a]
  (first | refine calling (msgSpan m hk) ?_ | refine callingH (msgSpan m hk) ?_)
  simp (maxSteps := 4000000) only [go_sem, ↓reduceIte, reduceCtorEq, Nat.reduceEqDiff, Nat.reduceBEq, Nat.reduceAdd, Nat.reduceSub, Nat.reduceMul, Nat.reduceLT, Nat.reduceLeDiff, Nat.reduceBNe, Int.reduceBEq, Int.reduceBNe, Int.reduceLT, Int.reduceLE, Spn.a, Msg.a, Eff.a]
  (first | refine calling (spanHas m.span k) ?_ | refine callingH (spanHas m.span k) ?_)
  simp (maxSteps := 4000000) only [go_sem, ↓reduceIte, reduceCtorEq, Nat.reduceEqDiff, Nat.reduceBEq, Nat.reduceAdd, Nat.reduceSub, Nat.reduceMul, Nat.reduceLT, Nat.reduceLeDiff, Nat.reduceBNe, Int.reduceBEq, Int.reduceBNe, Int.reduceLT, Int.reduceLE, Spn.a, Msg.a, Eff.a]
  refine ⟨fun h => by simp [Msg.on, Eff.none, h], fun h => ?_⟩
  simp only [beq_iff_eq, beq_eq_false_iff_ne, Msg.on, Eff.none, h, if_true]
  refine ⟨fun h1 => ⟨fun _ => by simp [h1], fun h2 => absurd h1 h2⟩, fun h1 => ⟨fun h2 => by simp [h2], fun h2 => ⟨fun h3 => ⟨fun _ => by simp [h3], fun h4 => absurd h3 h4⟩, fun h3 => ⟨fun h4 => by simp [h4], fun h4 => by simp [h1, h2, h3, h4]⟩⟩⟩⟩
/-! ### percolate/message.Join -/
def r_mJoin_0 : Reg := ⟨[], [⟨(.box 6 55 (.t 0)), (some 2), none, [3, 4], []⟩, ⟨(.box 6 55 (.t 1)), (some 3), none, [4], []⟩, ⟨(.alloc 6 55 (.agg [(.int .i64 0), (.int .i64 0), (.str ⟨#[]⟩), (.str ⟨#[]⟩), (.bool false), (.str ⟨#[]⟩)])), (some 4), none, [], []⟩, ⟨(.mv (.c (.bool false))), (some 5), none, [], []⟩], [2, 3, 4], [], false⟩
def r_mJoin_1 : Reg := ⟨[⟨(.faddr 1 (.t 3)), (some 7), none, [12, 14, 15], []⟩, ⟨(.load 1 false (.t 7)), (some 8), none, [12, 14, 15], []⟩, ⟨(.bin .eql (.t 8) (.c (.int .i64 4))), (some 9), none, [12, 14, 15], []⟩, ⟨(.mv (.t 9)), (some 10), none, [12, 14, 15], []⟩, ⟨(.load 6 true (.t 2)), (some 11), (some (10, true)), [12, 14, 15], []⟩, ⟨(.callv (.c (.clo 105 [] [])) [(.t 11)]), (some 12), (some (10, true)), [14, 15], []⟩, ⟨(.load 6 true (.t 3)), (some 13), (some (10, true)), [12, 14, 15], []⟩], [⟨(.callv (.c (.clo 105 [] [])) [(.t 13)]), (some 14), (some (10, true)), [15], []⟩, ⟨(.callv (.c (.clo 116 [] [])) [(.t 12), (.t 14)]), (some 15), (some (10, true)), [], []⟩, ⟨(.pick (.t 10) (.t 15) (.c (.bool false))), (some 16), none, [], []⟩], [12, 14, 15], [], true⟩
def r_mJoin_2 : Reg := ⟨[], [⟨(.load 6 true (.t 3)), (some 17), none, [], []⟩, ⟨(.store 6 (.t 4) (.t 17)), none, none, [], []⟩, ⟨(.mv (.c (.bool true))), (some 5), none, [], []⟩], [], [], false⟩
def r_mJoin_3 : Reg := ⟨[], [⟨(.faddr 1 (.t 2)), (some 18), none, [], []⟩, ⟨(.load 1 false (.t 18)), (some 19), none, [], []⟩, ⟨(.bin .eql (.t 19) (.c (.int .i64 4))), (some 20), none, [], []⟩, ⟨(.mv (.t 20)), (some 21), none, [], []⟩, ⟨(.faddr 1 (.t 3)), (some 22), (some (21, false)), [], []⟩, ⟨(.load 1 false (.t 22)), (some 23), (some (21, false)), [], []⟩, ⟨(.bin .eql (.t 23) (.c (.int .i64 4))), (some 24), (some (21, false)), [], []⟩, ⟨(.pick (.t 21) (.c (.bool true)) (.t 24)), (some 25), none, [], []⟩, ⟨(.mv (.t 25)), (some 26), none, [], []⟩, ⟨(.faddr 2 (.t 2)), (some 27), (some (26, false)), [], []⟩, ⟨(.load 1 false (.t 27)), (some 28), (some (26, false)), [], []⟩, ⟨(.faddr 2 (.t 3)), (some 29), (some (26, false)), [], []⟩, ⟨(.load 1 false (.t 29)), (some 30), (some (26, false)), [], []⟩, ⟨(.bin .neq (.t 28) (.t 30)), (some 31), (some (26, false)), [], []⟩, ⟨(.pick (.t 26) (.c (.bool true)) (.t 31)), (some 32), none, [], []⟩], [], [], false⟩
def r_mJoin_4 : Reg := ⟨[], [⟨(.bld [(.int .i64 0), (.int .i64 0), (.str ⟨#[]⟩), (.str ⟨#[]⟩), (.bool false), (.str ⟨#[]⟩)] []), (some 33), none, [], []⟩, ⟨(.store 6 (.t 4) (.t 33)), none, none, [], []⟩, ⟨(.mv (.c (.bool false))), (some 5), none, [], []⟩], [], [], false⟩
def r_mJoin_5 : Reg := ⟨[⟨(.load 6 true (.t 2)), (some 34), none, [37, 41, 42, 6], []⟩, ⟨(.faddr 2 (.t 2)), (some 35), none, [37, 41, 42, 6], []⟩, ⟨(.load 1 false (.t 35)), (some 36), none, [37, 41, 42, 6], []⟩, ⟨(.callv (.c (.clo 118 [] [])) [(.t 34), (.t 36)]), (some 37), none, [41, 42, 6], []⟩, ⟨(.load 6 true (.t 3)), (some 38), none, [37, 41, 42, 6], []⟩, ⟨(.faddr 2 (.t 3)), (some 39), none, [37, 41, 42, 6], []⟩, ⟨(.load 1 false (.t 39)), (some 40), none, [37, 41, 42, 6], []⟩, ⟨(.callv (.c (.clo 118 [] [])) [(.t 38), (.t 40)]), (some 41), none, [42, 6], []⟩, ⟨(.callv (.c (.clo 117 [] [])) [(.t 37), (.t 41)]), (some 42), none, [6], []⟩, ⟨(.alloc 2 63 (.agg [(.int .i64 0), (.str ⟨#[]⟩)])), (some 6), none, [37, 41, 42], []⟩], [⟨(.store 2 (.t 6) (.t 42)), none, none, [], [6]⟩], [37, 41, 42, 6], [], true⟩
def r_mJoin_6 : Reg := ⟨[⟨(.faddr 0 (.t 6)), (some 43), none, [], []⟩, ⟨(.load 1 false (.t 43)), (some 44), none, [], []⟩, ⟨(.faddr 1 (.t 6)), (some 45), none, [3], []⟩, ⟨(.load 1 false (.t 45)), (some 46), none, [3], []⟩, ⟨(.faddr 1 (.t 3)), (some 47), none, [], []⟩, ⟨(.store 1 (.t 47) (.t 44)), none, none, [], [3]⟩], [⟨(.faddr 5 (.t 3)), (some 48), none, [], []⟩, ⟨(.store 1 (.t 48) (.t 46)), none, none, [], [3]⟩], [], [], true⟩
def r_mJoin_7 : Reg := ⟨[], [⟨(.load 6 true (.t 3)), (some 49), none, [], []⟩, ⟨(.store 6 (.t 4) (.t 49)), none, none, [], []⟩, ⟨(.mv (.c (.bool true))), (some 5), none, [], []⟩], [], [], false⟩
def ir_mJoin : IR := (.seq (.reg r_mJoin_0)
  (.seq (.seq (.reg r_mJoin_1)
  (.cond (.t 16) (.seq (.reg r_mJoin_2)
  .ret)
  .skip))
  (.seq (.seq (.reg r_mJoin_3)
  (.cond (.t 32) (.seq (.reg r_mJoin_4)
  .ret)
  .skip))
  (.seq (.reg r_mJoin_5)
  (.seq (.reg r_mJoin_6)
  (.seq (.reg r_mJoin_7)
  .ret))))))
def res_mJoin : List RDesc := [(.cell 4 6 true), (.tmp 5)]
theorem e_mJoin_0 (C : FuncId → List AV → AV → Prop) (σ : St) (K : St → Prop) : runReg C r_mJoin_0 σ K = runOps C [⟨(.box 6 55 (.t 0)), (some 2), none, [3, 4], []⟩, ⟨(.box 6 55 (.t 1)), (some 3), none, [4], []⟩, ⟨(.alloc 6 55 (.agg [(.int .i64 0), (.int .i64 0), (.str ⟨#[]⟩), (.str ⟨#[]⟩), (.bool false), (.str ⟨#[]⟩)])), (some 4), none, [], []⟩, ⟨(.mv (.c (.bool false))), (some 5), none, [], []⟩] (σ.kills [2, 3, 4]) K := rfl
theorem e_mJoin_1 (C : FuncId → List AV → AV → Prop) (σ : St) (K : St → Prop) : runReg C r_mJoin_1 σ K = runHead C [] [⟨(.callv (.c (.clo 105 [] [])) [(.t 13)]), (some 14), (some (10, true)), [15], []⟩, ⟨(.callv (.c (.clo 116 [] [])) [(.t 12), (.t 14)]), (some 15), (some (10, true)), [], []⟩, ⟨(.pick (.t 10) (.t 15) (.c (.bool false))), (some 16), none, [], []⟩] [⟨(.faddr 1 (.t 3)), (some 7), none, [12, 14, 15], []⟩, ⟨(.load 1 false (.t 7)), (some 8), none, [12, 14, 15], []⟩, ⟨(.bin .eql (.t 8) (.c (.int .i64 4))), (some 9), none, [12, 14, 15], []⟩, ⟨(.mv (.t 9)), (some 10), none, [12, 14, 15], []⟩, ⟨(.load 6 true (.t 2)), (some 11), (some (10, true)), [12, 14, 15], []⟩, ⟨(.callv (.c (.clo 105 [] [])) [(.t 11)]), (some 12), (some (10, true)), [14, 15], []⟩, ⟨(.load 6 true (.t 3)), (some 13), (some (10, true)), [12, 14, 15], []⟩] (σ.kills [12, 14, 15]) K := rfl
theorem e_mJoin_2 (C : FuncId → List AV → AV → Prop) (σ : St) (K : St → Prop) : runReg C r_mJoin_2 σ K = runOps C [⟨(.load 6 true (.t 3)), (some 17), none, [], []⟩, ⟨(.store 6 (.t 4) (.t 17)), none, none, [], []⟩, ⟨(.mv (.c (.bool true))), (some 5), none, [], []⟩] (σ.kills []) K := rfl
theorem e_mJoin_3 (C : FuncId → List AV → AV → Prop) (σ : St) (K : St → Prop) : runReg C r_mJoin_3 σ K = runOps C [⟨(.faddr 1 (.t 2)), (some 18), none, [], []⟩, ⟨(.load 1 false (.t 18)), (some 19), none, [], []⟩, ⟨(.bin .eql (.t 19) (.c (.int .i64 4))), (some 20), none, [], []⟩, ⟨(.mv (.t 20)), (some 21), none, [], []⟩, ⟨(.faddr 1 (.t 3)), (some 22), (some (21, false)), [], []⟩, ⟨(.load 1 false (.t 22)), (some 23), (some (21, false)), [], []⟩, ⟨(.bin .eql (.t 23) (.c (.int .i64 4))), (some 24), (some (21, false)), [], []⟩, ⟨(.pick (.t 21) (.c (.bool true)) (.t 24)), (some 25), none, [], []⟩, ⟨(.mv (.t 25)), (some 26), none, [], []⟩, ⟨(.faddr 2 (.t 2)), (some 27), (some (26, false)), [], []⟩, ⟨(.load 1 false (.t 27)), (some 28), (some (26, false)), [], []⟩, ⟨(.faddr 2 (.t 3)), (some 29), (some (26, false)), [], []⟩, ⟨(.load 1 false (.t 29)), (some 30), (some (26, false)), [], []⟩, ⟨(.bin .neq (.t 28) (.t 30)), (some 31), (some (26, false)), [], []⟩, ⟨(.pick (.t 26) (.c (.bool true)) (.t 31)), (some 32), none, [], []⟩] (σ.kills []) K := rfl
theorem e_mJoin_4 (C : FuncId → List AV → AV → Prop) (σ : St) (K : St → Prop) : runReg C r_mJoin_4 σ K = runOps C [⟨(.bld [(.int .i64 0), (.int .i64 0), (.str ⟨#[]⟩), (.str ⟨#[]⟩), (.bool false), (.str ⟨#[]⟩)] []), (some 33), none, [], []⟩, ⟨(.store 6 (.t 4) (.t 33)), none, none, [], []⟩, ⟨(.mv (.c (.bool false))), (some 5), none, [], []⟩] (σ.kills []) K := rfl
theorem e_mJoin_5 (C : FuncId → List AV → AV → Prop) (σ : St) (K : St → Prop) : runReg C r_mJoin_5 σ K = runHead C [] [⟨(.store 2 (.t 6) (.t 42)), none, none, [], [6]⟩] [⟨(.load 6 true (.t 2)), (some 34), none, [37, 41, 42, 6], []⟩, ⟨(.faddr 2 (.t 2)), (some 35), none, [37, 41, 42, 6], []⟩, ⟨(.load 1 false (.t 35)), (some 36), none, [37, 41, 42, 6], []⟩, ⟨(.callv (.c (.clo 118 [] [])) [(.t 34), (.t 36)]), (some 37), none, [41, 42, 6], []⟩, ⟨(.load 6 true (.t 3)), (some 38), none, [37, 41, 42, 6], []⟩, ⟨(.faddr 2 (.t 3)), (some 39), none, [37, 41, 42, 6], []⟩, ⟨(.load 1 false (.t 39)), (some 40), none, [37, 41, 42, 6], []⟩, ⟨(.callv (.c (.clo 118 [] [])) [(.t 38), (.t 40)]), (some 41), none, [42, 6], []⟩, ⟨(.callv (.c (.clo 117 [] [])) [(.t 37), (.t 41)]), (some 42), none, [6], []⟩, ⟨(.alloc 2 63 (.agg [(.int .i64 0), (.str ⟨#[]⟩)])), (some 6), none, [37, 41, 42], []⟩] (σ.kills [37, 41, 42, 6]) K := rfl
theorem e_mJoin_6 (C : FuncId → List AV → AV → Prop) (σ : St) (K : St → Prop) : runReg C r_mJoin_6 σ K = runHead C [] [⟨(.faddr 5 (.t 3)), (some 48), none, [], []⟩, ⟨(.store 1 (.t 48) (.t 46)), none, none, [], [3]⟩] [⟨(.faddr 0 (.t 6)), (some 43), none, [], []⟩, ⟨(.load 1 false (.t 43)), (some 44), none, [], []⟩, ⟨(.faddr 1 (.t 6)), (some 45), none, [3], []⟩, ⟨(.load 1 false (.t 45)), (some 46), none, [3], []⟩, ⟨(.faddr 1 (.t 3)), (some 47), none, [], []⟩, ⟨(.store 1 (.t 47) (.t 44)), none, none, [], [3]⟩] (σ.kills []) K := rfl
theorem e_mJoin_7 (C : FuncId → List AV → AV → Prop) (σ : St) (K : St → Prop) : runReg C r_mJoin_7 σ K = runOps C [⟨(.load 6 true (.t 3)), (some 49), none, [], []⟩, ⟨(.store 6 (.t 4) (.t 49)), none, none, [], []⟩, ⟨(.mv (.c (.bool true))), (some 5), none, [], []⟩] (σ.kills []) K := rfl
theorem fn_mJoin {args : List AV} {r : AV} (ha : args.length.ble Try.f82.ntmps = true) (h : run (AFn Try.prog) ir_mJoin (endQ res_mJoin r) (initSt args)) : AFn Try.prog 82 args r :=
  AFn.of_code (hint := fun _ => []) (c := Try.f82.body.getD .skip) (by kernel_rfl) (by kernel_rfl) Try.func82 (by kernel_rfl) (by kernel_rfl) (by kernel_rfl) (of_decide_eq_true (by kernel_rfl)) (Nat.le_of_ble_eq_true ha) (run_ok h)

attribute [local go_sem ↓] ir_mJoin
attribute [local go_sem] res_mJoin e_mJoin_0 e_mJoin_1 e_mJoin_2 e_mJoin_3 e_mJoin_4 e_mJoin_5 e_mJoin_6 e_mJoin_7

def joinF (a b : Msg) : Msg × Bool :=
  if b.kind = 4 ∧ a.span.within b.span = true then (b, true)
  else if a.kind = 4 ∨ b.kind = 4 ∨ a.key ≠ b.key then (⟨0, 0, ⟨#[]⟩, ⟨#[]⟩, false, ⟨#[]⟩⟩, false)
  else ({ b with kind := ((a.on a.key).thenC (b.on b.key)).kind, val := ((a.on a.key).thenC (b.on b.key)).val }, true)
theorem msgJoin (a b : Msg) (ha : a.key.size ≤ 9223372036854775806) (hb : b.key.size ≤ 9223372036854775806) (hv : a.val.size + b.val.size ≤ 9223372036854775807) : AFn Try.prog 82 [a.a, b.a] (.tup [(joinF a b).1.a, .bool (joinF a b).2]) := by
  have hon : ∀ (m : Msg) (k : ByteArray), (m.on k).val.size ≤ m.val.size := by
    intro m k
    unfold Msg.on Eff.none
    split
    · split
      · exact Nat.le_refl _
      · split <;> exact Nat.zero_le _
    · exact Nat.zero_le _
  cases h1 : (b.kind == 4) with
  | true =>
    have h1' : b.kind = 4 := by simpa using h1
    refine fn_mJoin rfl ?_
    simp (maxSteps := 4000000) only [go_sem, ↓reduceIte, reduceCtorEq, Nat.reduceEqDiff, Nat.reduceBEq, Nat.reduceAdd, Nat.reduceSub, Nat.reduceMul, Nat.reduceLT, Nat.reduceLeDiff, Nat.reduceBNe, Int.reduceBEq, Int.reduceBNe, Int.reduceLT, Int.reduceLE, Spn.a, Msg.a, Eff.a, h1]
    (first | refine calling (msgSpan a ha) ?_ | refine callingH (msgSpan a ha) ?_)
    simp (maxSteps := 4000000) only [go_sem, ↓reduceIte, reduceCtorEq, Nat.reduceEqDiff, Nat.reduceBEq, Nat.reduceAdd, Nat.reduceSub, Nat.reduceMul, Nat.reduceLT, Nat.reduceLeDiff, Nat.reduceBNe, Int.reduceBEq, Int.reduceBNe, Int.reduceLT, Int.reduceLE, Spn.a, Msg.a, Eff.a, h1]
    (first | refine calling (msgSpan b hb) ?_ | refine callingH (msgSpan b hb) ?_)
    simp (maxSteps := 4000000) only [go_sem, ↓reduceIte, reduceCtorEq, Nat.reduceEqDiff, Nat.reduceBEq, Nat.reduceAdd, Nat.reduceSub, Nat.reduceMul, Nat.reduceLT, Nat.reduceLeDiff, Nat.reduceBNe, Int.reduceBEq, Int.reduceBNe, Int.reduceLT, Int.reduceLE, Spn.a, Msg.a, Eff.a, h1]
    (first | refine calling (spanWithin a.span b.span) ?_ | refine callingH (spanWithin a.span b.span) ?_)
    cases h2 : a.span.within b.span with
    | true =>
      simp (maxSteps := 4000000) only [go_sem, ↓reduceIte, reduceCtorEq, Nat.reduceEqDiff, Nat.reduceBEq, Nat.reduceAdd, Nat.reduceSub, Nat.reduceMul, Nat.reduceLT, Nat.reduceLeDiff, Nat.reduceBNe, Int.reduceBEq, Int.reduceBNe, Int.reduceLT, Int.reduceLE, Spn.a, Msg.a, Eff.a, h1, h2]
      simp [joinF, h1', h2]
    | false =>
      simp (maxSteps := 4000000) only [go_sem, ↓reduceIte, reduceCtorEq, Nat.reduceEqDiff, Nat.reduceBEq, Nat.reduceAdd, Nat.reduceSub, Nat.reduceMul, Nat.reduceLT, Nat.reduceLeDiff, Nat.reduceBNe, Int.reduceBEq, Int.reduceBNe, Int.reduceLT, Int.reduceLE, Spn.a, Msg.a, Eff.a, h1, h2]
      simp [joinF, h1', h2]
  | false =>
    have h1' : b.kind ≠ 4 := by simpa using h1
    cases h2 : (a.kind == 4) with
    | true =>
      have h2' : a.kind = 4 := by simpa using h2
      refine fn_mJoin rfl ?_
      simp (maxSteps := 4000000) only [go_sem, ↓reduceIte, reduceCtorEq, Nat.reduceEqDiff, Nat.reduceBEq, Nat.reduceAdd, Nat.reduceSub, Nat.reduceMul, Nat.reduceLT, Nat.reduceLeDiff, Nat.reduceBNe, Int.reduceBEq, Int.reduceBNe, Int.reduceLT, Int.reduceLE, Spn.a, Msg.a, Eff.a, h1, h2]
      simp [joinF, h1', h2']
    | false =>
      have h2' : a.kind ≠ 4 := by simpa using h2
      cases h3 : (a.key.toList == b.key.toList) with
      | false =>
        have h3' : a.key ≠ b.key := fun e => by rw [e] at h3; simp at h3
        refine fn_mJoin rfl ?_
        simp (maxSteps := 4000000) only [go_sem, ↓reduceIte, reduceCtorEq, Nat.reduceEqDiff, Nat.reduceBEq, Nat.reduceAdd, Nat.reduceSub, Nat.reduceMul, Nat.reduceLT, Nat.reduceLeDiff, Nat.reduceBNe, Int.reduceBEq, Int.reduceBNe, Int.reduceLT, Int.reduceLE, Spn.a, Msg.a, Eff.a, h1, h2, h3]
        simp [joinF, h1', h2', h3']
      | true =>
        have h3' : a.key = b.key := by rw [beq_bytes] at h3; simpa using h3
        refine fn_mJoin rfl ?_
        simp (maxSteps := 4000000) only [go_sem, ↓reduceIte, reduceCtorEq, Nat.reduceEqDiff, Nat.reduceBEq, Nat.reduceAdd, Nat.reduceSub, Nat.reduceMul, Nat.reduceLT, Nat.reduceLeDiff, Nat.reduceBNe, Int.reduceBEq, Int.reduceBNe, Int.reduceLT, Int.reduceLE, Spn.a, Msg.a, Eff.a, h1, h2, h3]
        (first | refine calling (msgOn a a.key ha) ?_ | refine callingH (msgOn a a.key ha) ?_)
        simp (maxSteps := 4000000) only [go_sem, ↓reduceIte, reduceCtorEq, Nat.reduceEqDiff, Nat.reduceBEq, Nat.reduceAdd, Nat.reduceSub, Nat.reduceMul, Nat.reduceLT, Nat.reduceLeDiff, Nat.reduceBNe, Int.reduceBEq, Int.reduceBNe, Int.reduceLT, Int.reduceLE, Spn.a, Msg.a, Eff.a, h1, h2, h3]
        (first | refine calling (msgOn b b.key hb) ?_ | refine callingH (msgOn b b.key hb) ?_)
        simp (maxSteps := 4000000) only [go_sem, ↓reduceIte, reduceCtorEq, Nat.reduceEqDiff, Nat.reduceBEq, Nat.reduceAdd, Nat.reduceSub, Nat.reduceMul, Nat.reduceLT, Nat.reduceLeDiff, Nat.reduceBNe, Int.reduceBEq, Int.reduceBNe, Int.reduceLT, Int.reduceLE, Spn.a, Msg.a, Eff.a, h1, h2, h3]
        (first | refine calling (effThen (a.on a.key) (b.on b.key) (Nat.le_trans (Nat.add_le_add (hon a _) (hon b _)) hv)) ?_ | refine callingH (effThen (a.on a.key) (b.on b.key) (Nat.le_trans (Nat.add_le_add (hon a _) (hon b _)) hv)) ?_)
        simp (maxSteps := 4000000) only [go_sem, ↓reduceIte, reduceCtorEq, Nat.reduceEqDiff, Nat.reduceBEq, Nat.reduceAdd, Nat.reduceSub, Nat.reduceMul, Nat.reduceLT, Nat.reduceLeDiff, Nat.reduceBNe, Int.reduceBEq, Int.reduceBNe, Int.reduceLT, Int.reduceLE, Spn.a, Msg.a, Eff.a, h1, h2, h3]
        simp [joinF, h1', h2', h3']
end Go.Proofs.Ytdjkefndigijjaa
