/-
  Spans on the plain machine: the code's.
-/
import Derived.Test.YtdjkefndigijjaaAmR
import Derived.Test.YtdjkefndigijjaaKeyPure
namespace Go.Proofs.Ytdjkefndigijjaa
open Go.RowKit
set_option linter.unusedVariables false
set_option linter.unusedSimpArgs false
set_option maxRecDepth 100000
attribute [local go_sem ↓] runOp headOp
attribute [local go_sem] ev0 ev1 ev2 ev3 evA stHOk.eq_1 stHOk.eq_2 stHSt.eq_1 stHSt.eq_2 okV valV fzV okF valF okBld valBld mxOk.eq_1 mxOk.eq_2 mxVal.eq_1 mxVal.eq_2 cellFit.eq_1 cellFit.eq_2 cellFit.eq_3 cellEq.eq_1 cellEq.eq_2 cellEq.eq_3 upd_at AV.flatB AV.flatBs binIok binIV binSok binSV cellsOk.eq_1 cellsOk.eq_2 cellsVal.eq_1 cellsVal.eq_2 objCells.eq_1 objCells.eq_2 objZ.eq_1 objZ.eq_2 objProt.eq_1 objProt.eq_2 oneObj ptrOk.eq_1 ptrOk.eq_2 ptrOk.eq_3 ptrCells.eq_1 ptrCells.eq_2 ptrCells.eq_3 lenOk.eq_1 lenOk.eq_2 lenOk.eq_3 lenOk.eq_4 lenVal.eq_1 lenVal.eq_2 lenVal.eq_3 lenVal.eq_4 faOk.eq_1 faOk.eq_2 faOk.eq_3 faVal.eq_1 faVal.eq_2 faVal.eq_3 iaOk.eq_1 iaOk.eq_2 iaOk.eq_3 iaVal.eq_1 iaVal.eq_2 iaVal.eq_3 slcLen.eq_1 slcLen.eq_2 slcLen.eq_3 slcLen.eq_4 bdOk.eq_1 bdOk.eq_2 bdVal.eq_1 bdVal.eq_2 slcOk.eq_1 slcOk.eq_2 slcOk.eq_3 slcOk.eq_4 slcVal.eq_1 slcVal.eq_2 slcVal.eq_3 slcVal.eq_4 slcFz.eq_1 slcFz.eq_2 byOk.eq_1 byOk.eq_2 byOk.eq_3 byOk.eq_4 byOk.eq_5 byVal.eq_1 byVal.eq_2 byVal.eq_3 byFz.eq_1 byFz.eq_2 byFz.eq_3 byOks byVals byFzs allOne resSt.eq_1 resSt.eq_2 resName.eq_1 resName.eq_2 stOk.eq_1 stOk.eq_2 stArr.eq_1 stArr.eq_2 stSt.eq_1 stSt.eq_2 AV.patch nameOk_none gB.eq_1 gB.eq_2 gB.eq_3 gIs.eq_1 gIs.eq_2 gIs.eq_3 retV resV resVs evalV cellsV St.byval List.getD_cons_zero List.getD_cons_succ List.getD_nil List.map_cons List.map_nil List.length_cons List.length_nil List.take_succ_cons List.take_zero List.drop_succ_cons List.drop_zero List.headD_cons List.set_cons_zero List.append_nil List.nil_append List.cons_append List.contains_cons List.contains_nil List.elem_cons List.elem_nil List.all_cons List.all_nil List.getElem?_cons_zero List.getElem?_cons_succ List.filterMap_cons List.filterMap_nil Option.isSome_some Option.isSome_none Option.map_some Option.map_none Option.some.injEq AV.int.injEq AV.bool.injEq AV.str.injEq AV.tup.injEq AV.agg.injEq AV.sl.injEq List.cons.injEq Bool.false_eq_true Bool.true_eq_false Bool.not_true Bool.not_false Bool.and_true Bool.true_and Bool.or_false Bool.or_true Bool.false_or Bool.true_or Bool.or_self Bool.and_self Bool.not_eq_true' Bool.not_eq_false' Bool.not_not beq_self_eq_true true_and and_true false_and and_false and_self not_true_eq_false not_false_eq_true forall_const true_implies false_implies implies_true imp_self Nat.lt_add_one Nat.le_refl Nat.zero_le Nat.add_zero Nat.zero_add decide_true decide_false decide_eq_true_eq decide_eq_false_iff_not exists_eq_left exists_eq_left' ge_iff_le gt_iff_lt ite_branch ite_branch' nilOk.eq_1 nilOk.eq_2 nilMay.eq_1 nilMay.eq_2 AV.isSl.eq_1 objTy'.eq_1 objTy'.eq_2 apSt.eq_1 apArr.eq_1 apArr.eq_2 slOf.eq_1 fitsV List.mem_cons List.not_mem_nil Bool.false_and Bool.and_false

structure Spn where
  lo : ByteArray
  hi : ByteArray
  op : Bool
deriving DecidableEq
def Spn.a (s : Spn) : AV := .agg [.str s.lo, .str s.hi, .bool s.op]

def lt (a b : ByteArray) : Bool := Op.bytesLess a.toList b.toList
def Spn.has (s : Spn) (k : ByteArray) : Bool := !lt k s.lo && (s.op || lt k s.hi)
def Spn.empty (s : Spn) : Bool := !s.op && !lt s.lo s.hi
def Spn.none : Spn := ⟨⟨#[]⟩, ⟨#[]⟩, false⟩
def Spn.norm (s : Spn) : Spn := if s.empty then Spn.none else if s.op then ⟨s.lo, ⟨#[]⟩, true⟩ else s
def maxS (a b : ByteArray) : ByteArray := if lt a b then b else a
def minS (a b : ByteArray) : ByteArray := if lt b a then b else a
def Spn.cut (a b : Spn) : Spn := ⟨maxS a.lo b.lo, if a.op then b.hi else if b.op then a.hi else minS a.hi b.hi, a.op && b.op⟩
def Spn.meet (a b : Spn) : Spn := (a.cut b).norm
def Spn.within (a b : Spn) : Bool := decide ((a.meet b).norm = a.norm)
def Spn.touch (a b : Spn) : Bool := !(a.meet b).empty

/-! ### percolate/span.Empty -/
def r_spEmpty_0 : Reg := ⟨[], [⟨(.box 3 41 (.t 0)), (some 1), none, [], []⟩, ⟨(.mv (.c (.bool false))), (some 2), none, [], []⟩], [1], [], false⟩
def r_spEmpty_1 : Reg := ⟨[], [⟨(.faddr 2 (.t 1)), (some 3), none, [], []⟩, ⟨(.load 1 false (.t 3)), (some 4), none, [], []⟩, ⟨(.un .not (.t 4)), (some 5), none, [], []⟩, ⟨(.mv (.t 5)), (some 6), none, [], []⟩, ⟨(.faddr 0 (.t 1)), (some 7), (some (6, true)), [], []⟩, ⟨(.load 1 false (.t 7)), (some 8), (some (6, true)), [], []⟩, ⟨(.faddr 1 (.t 1)), (some 9), (some (6, true)), [], []⟩, ⟨(.load 1 false (.t 9)), (some 10), (some (6, true)), [], []⟩, ⟨(.bin .geq (.t 8) (.t 10)), (some 11), (some (6, true)), [], []⟩, ⟨(.pick (.t 6) (.t 11) (.c (.bool false))), (some 12), none, [], []⟩, ⟨(.mv (.t 12)), (some 2), none, [], []⟩], [], [], false⟩
def ir_spEmpty : IR := (.seq (.reg r_spEmpty_0)
  (.seq (.reg r_spEmpty_1)
  .ret))
def res_spEmpty : List RDesc := [(.tmp 2)]
theorem e_spEmpty_0 (C : FuncId → List AV → AV → Prop) (σ : St) (K : St → Prop) : runReg C r_spEmpty_0 σ K = runOps C [⟨(.box 3 41 (.t 0)), (some 1), none, [], []⟩, ⟨(.mv (.c (.bool false))), (some 2), none, [], []⟩] (σ.kills [1]) K := rfl
theorem e_spEmpty_1 (C : FuncId → List AV → AV → Prop) (σ : St) (K : St → Prop) : runReg C r_spEmpty_1 σ K = runOps C [⟨(.faddr 2 (.t 1)), (some 3), none, [], []⟩, ⟨(.load 1 false (.t 3)), (some 4), none, [], []⟩, ⟨(.un .not (.t 4)), (some 5), none, [], []⟩, ⟨(.mv (.t 5)), (some 6), none, [], []⟩, ⟨(.faddr 0 (.t 1)), (some 7), (some (6, true)), [], []⟩, ⟨(.load 1 false (.t 7)), (some 8), (some (6, true)), [], []⟩, ⟨(.faddr 1 (.t 1)), (some 9), (some (6, true)), [], []⟩, ⟨(.load 1 false (.t 9)), (some 10), (some (6, true)), [], []⟩, ⟨(.bin .geq (.t 8) (.t 10)), (some 11), (some (6, true)), [], []⟩, ⟨(.pick (.t 6) (.t 11) (.c (.bool false))), (some 12), none, [], []⟩, ⟨(.mv (.t 12)), (some 2), none, [], []⟩] (σ.kills []) K := rfl
theorem fn_spEmpty {args : List AV} {r : AV} (ha : args.length.ble Try.f154.ntmps = true) (h : run (AFn Try.prog) ir_spEmpty (endQ res_spEmpty r) (initSt args)) : AFn Try.prog 154 args r :=
  AFn.of_code (hint := fun _ => []) (c := Try.f154.body.getD .skip) (by kernel_rfl) (by kernel_rfl) Try.func154 (by kernel_rfl) (by kernel_rfl) (by kernel_rfl) (of_decide_eq_true (by kernel_rfl)) (Nat.le_of_ble_eq_true ha) (run_ok h)

/-! ### percolate/span.Norm -/
def r_spNorm_0 : Reg := ⟨[], [⟨(.box 3 41 (.t 0)), (some 1), none, [2], []⟩, ⟨(.alloc 3 41 (.agg [(.str ⟨#[]⟩), (.str ⟨#[]⟩), (.bool false)])), (some 2), none, [], []⟩], [1, 2], [], false⟩
def r_spNorm_1 : Reg := ⟨[], [⟨(.load 3 true (.t 1)), (some 4), none, [5], []⟩, ⟨(.callv (.c (.clo 154 [] [])) [(.t 4)]), (some 5), none, [], []⟩, ⟨(.mv (.t 5)), (some 3), none, [], []⟩], [5], [], false⟩
def r_spNorm_2 : Reg := ⟨[], [⟨(.bld [(.str ⟨#[]⟩), (.str ⟨#[]⟩), (.bool false)] []), (some 6), none, [], []⟩, ⟨(.store 3 (.t 2) (.t 6)), none, none, [], []⟩], [], [], false⟩
def r_spNorm_3 : Reg := ⟨[], [⟨(.faddr 2 (.t 1)), (some 8), none, [], []⟩, ⟨(.load 1 false (.t 8)), (some 9), none, [], []⟩, ⟨(.mv (.t 9)), (some 7), none, [], []⟩], [], [], false⟩
def r_spNorm_4 : Reg := ⟨[], [⟨(.faddr 1 (.t 1)), (some 10), none, [], []⟩, ⟨(.store 1 (.t 10) (.c (.str ⟨#[]⟩))), none, none, [], []⟩], [], [], false⟩
def r_spNorm_5 : Reg := ⟨[], [⟨(.load 3 true (.t 1)), (some 11), none, [], []⟩, ⟨(.store 3 (.t 2) (.t 11)), none, none, [], []⟩], [], [], false⟩
def ir_spNorm : IR := (.seq (.reg r_spNorm_0)
  (.seq (.block 0 (.seq (.reg r_spNorm_1)
  (.cond (.t 3) (.seq (.reg r_spNorm_2)
  .ret)
  (.seq (.reg r_spNorm_3)
  (.cond (.t 7) (.reg r_spNorm_4)
  .skip)))))
  (.seq (.reg r_spNorm_5)
  .ret)))
def res_spNorm : List RDesc := [(.cell 2 3 true)]
theorem e_spNorm_0 (C : FuncId → List AV → AV → Prop) (σ : St) (K : St → Prop) : runReg C r_spNorm_0 σ K = runOps C [⟨(.box 3 41 (.t 0)), (some 1), none, [2], []⟩, ⟨(.alloc 3 41 (.agg [(.str ⟨#[]⟩), (.str ⟨#[]⟩), (.bool false)])), (some 2), none, [], []⟩] (σ.kills [1, 2]) K := rfl
theorem e_spNorm_1 (C : FuncId → List AV → AV → Prop) (σ : St) (K : St → Prop) : runReg C r_spNorm_1 σ K = runOps C [⟨(.load 3 true (.t 1)), (some 4), none, [5], []⟩, ⟨(.callv (.c (.clo 154 [] [])) [(.t 4)]), (some 5), none, [], []⟩, ⟨(.mv (.t 5)), (some 3), none, [], []⟩] (σ.kills [5]) K := rfl
theorem e_spNorm_2 (C : FuncId → List AV → AV → Prop) (σ : St) (K : St → Prop) : runReg C r_spNorm_2 σ K = runOps C [⟨(.bld [(.str ⟨#[]⟩), (.str ⟨#[]⟩), (.bool false)] []), (some 6), none, [], []⟩, ⟨(.store 3 (.t 2) (.t 6)), none, none, [], []⟩] (σ.kills []) K := rfl
theorem e_spNorm_3 (C : FuncId → List AV → AV → Prop) (σ : St) (K : St → Prop) : runReg C r_spNorm_3 σ K = runOps C [⟨(.faddr 2 (.t 1)), (some 8), none, [], []⟩, ⟨(.load 1 false (.t 8)), (some 9), none, [], []⟩, ⟨(.mv (.t 9)), (some 7), none, [], []⟩] (σ.kills []) K := rfl
theorem e_spNorm_4 (C : FuncId → List AV → AV → Prop) (σ : St) (K : St → Prop) : runReg C r_spNorm_4 σ K = runOps C [⟨(.faddr 1 (.t 1)), (some 10), none, [], []⟩, ⟨(.store 1 (.t 10) (.c (.str ⟨#[]⟩))), none, none, [], []⟩] (σ.kills []) K := rfl
theorem e_spNorm_5 (C : FuncId → List AV → AV → Prop) (σ : St) (K : St → Prop) : runReg C r_spNorm_5 σ K = runOps C [⟨(.load 3 true (.t 1)), (some 11), none, [], []⟩, ⟨(.store 3 (.t 2) (.t 11)), none, none, [], []⟩] (σ.kills []) K := rfl
theorem fn_spNorm {args : List AV} {r : AV} (ha : args.length.ble Try.f158.ntmps = true) (h : run (AFn Try.prog) ir_spNorm (endQ res_spNorm r) (initSt args)) : AFn Try.prog 158 args r :=
  AFn.of_code (hint := fun _ => []) (c := Try.f158.body.getD .skip) (by kernel_rfl) (by kernel_rfl) Try.func158 (by kernel_rfl) (by kernel_rfl) (by kernel_rfl) (of_decide_eq_true (by kernel_rfl)) (Nat.le_of_ble_eq_true ha) (run_ok h)

/-! ### percolate/span.Meet -/
def r_spMeet_0 : Reg := ⟨[], [⟨(.box 3 41 (.t 0)), (some 2), none, [3, 4], []⟩, ⟨(.box 3 41 (.t 1)), (some 3), none, [4], []⟩, ⟨(.alloc 3 41 (.agg [(.str ⟨#[]⟩), (.str ⟨#[]⟩), (.bool false)])), (some 4), none, [], []⟩], [2, 3, 4], [], false⟩
def r_spMeet_1 : Reg := ⟨[], [⟨(.faddr 0 (.t 2)), (some 6), none, [5], []⟩, ⟨(.load 1 false (.t 6)), (some 7), none, [5], []⟩, ⟨(.faddr 0 (.t 3)), (some 8), none, [5], []⟩, ⟨(.load 1 false (.t 8)), (some 9), none, [5], []⟩, ⟨(.mx true (.t 7) (.t 9)), (some 10), none, [5], []⟩, ⟨(.faddr 2 (.t 2)), (some 11), none, [5], []⟩, ⟨(.load 1 false (.t 11)), (some 12), none, [5], []⟩, ⟨(.mv (.t 12)), (some 13), none, [5], []⟩, ⟨(.faddr 2 (.t 3)), (some 14), (some (13, true)), [5], []⟩, ⟨(.load 1 false (.t 14)), (some 15), (some (13, true)), [5], []⟩, ⟨(.pick (.t 13) (.t 15) (.c (.bool false))), (some 16), none, [5], []⟩, ⟨(.bld [(.str ⟨#[]⟩), (.str ⟨#[]⟩), (.bool false)] [⟨0, 1, (.t 10)⟩, ⟨2, 1, (.t 16)⟩]), (some 17), none, [5], []⟩, ⟨(.alloc 3 41 (.agg [(.str ⟨#[]⟩), (.str ⟨#[]⟩), (.bool false)])), (some 5), none, [], []⟩, ⟨(.store 3 (.t 5) (.t 17)), none, none, [], []⟩], [5], [], false⟩
def r_spMeet_2 : Reg := ⟨[], [⟨(.faddr 2 (.t 2)), (some 25), none, [], []⟩, ⟨(.load 1 false (.t 25)), (some 26), none, [], []⟩, ⟨(.mv (.t 26)), (some 24), none, [], []⟩], [], [], false⟩
def r_spMeet_3 : Reg := ⟨[], [⟨(.faddr 1 (.t 3)), (some 27), none, [], []⟩, ⟨(.load 1 false (.t 27)), (some 28), none, [], []⟩, ⟨(.faddr 1 (.t 5)), (some 29), none, [], []⟩, ⟨(.store 1 (.t 29) (.t 28)), none, none, [], []⟩], [], [], false⟩
def r_spMeet_4 : Reg := ⟨[], [⟨(.faddr 2 (.t 3)), (some 31), none, [], []⟩, ⟨(.load 1 false (.t 31)), (some 32), none, [], []⟩, ⟨(.mv (.t 32)), (some 30), none, [], []⟩], [], [], false⟩
def r_spMeet_5 : Reg := ⟨[], [⟨(.faddr 1 (.t 2)), (some 33), none, [], []⟩, ⟨(.load 1 false (.t 33)), (some 34), none, [], []⟩, ⟨(.faddr 1 (.t 5)), (some 35), none, [], []⟩, ⟨(.store 1 (.t 35) (.t 34)), none, none, [], []⟩], [], [], false⟩
def r_spMeet_6 : Reg := ⟨[], [⟨(.faddr 1 (.t 2)), (some 18), none, [], []⟩, ⟨(.load 1 false (.t 18)), (some 19), none, [], []⟩, ⟨(.faddr 1 (.t 3)), (some 20), none, [], []⟩, ⟨(.load 1 false (.t 20)), (some 21), none, [], []⟩, ⟨(.mx false (.t 19) (.t 21)), (some 22), none, [], []⟩, ⟨(.faddr 1 (.t 5)), (some 23), none, [], []⟩, ⟨(.store 1 (.t 23) (.t 22)), none, none, [], []⟩], [], [], false⟩
def r_spMeet_7 : Reg := ⟨[], [⟨(.load 3 true (.t 5)), (some 36), none, [37], []⟩, ⟨(.callv (.c (.clo 158 [] [])) [(.t 36)]), (some 37), none, [], []⟩, ⟨(.store 3 (.t 4) (.t 37)), none, none, [], []⟩], [37], [], false⟩
def ir_spMeet : IR := (.seq (.reg r_spMeet_0)
  (.seq (.reg r_spMeet_1)
  (.seq (.block 0 (.seq (.reg r_spMeet_2)
  (.cond (.t 24) (.reg r_spMeet_3)
  (.seq (.reg r_spMeet_4)
  (.cond (.t 30) (.reg r_spMeet_5)
  (.reg r_spMeet_6))))))
  (.seq (.reg r_spMeet_7)
  .ret))))
def res_spMeet : List RDesc := [(.cell 4 3 true)]
theorem e_spMeet_0 (C : FuncId → List AV → AV → Prop) (σ : St) (K : St → Prop) : runReg C r_spMeet_0 σ K = runOps C [⟨(.box 3 41 (.t 0)), (some 2), none, [3, 4], []⟩, ⟨(.box 3 41 (.t 1)), (some 3), none, [4], []⟩, ⟨(.alloc 3 41 (.agg [(.str ⟨#[]⟩), (.str ⟨#[]⟩), (.bool false)])), (some 4), none, [], []⟩] (σ.kills [2, 3, 4]) K := rfl
theorem e_spMeet_1 (C : FuncId → List AV → AV → Prop) (σ : St) (K : St → Prop) : runReg C r_spMeet_1 σ K = runOps C [⟨(.faddr 0 (.t 2)), (some 6), none, [5], []⟩, ⟨(.load 1 false (.t 6)), (some 7), none, [5], []⟩, ⟨(.faddr 0 (.t 3)), (some 8), none, [5], []⟩, ⟨(.load 1 false (.t 8)), (some 9), none, [5], []⟩, ⟨(.mx true (.t 7) (.t 9)), (some 10), none, [5], []⟩, ⟨(.faddr 2 (.t 2)), (some 11), none, [5], []⟩, ⟨(.load 1 false (.t 11)), (some 12), none, [5], []⟩, ⟨(.mv (.t 12)), (some 13), none, [5], []⟩, ⟨(.faddr 2 (.t 3)), (some 14), (some (13, true)), [5], []⟩, ⟨(.load 1 false (.t 14)), (some 15), (some (13, true)), [5], []⟩, ⟨(.pick (.t 13) (.t 15) (.c (.bool false))), (some 16), none, [5], []⟩, ⟨(.bld [(.str ⟨#[]⟩), (.str ⟨#[]⟩), (.bool false)] [⟨0, 1, (.t 10)⟩, ⟨2, 1, (.t 16)⟩]), (some 17), none, [5], []⟩, ⟨(.alloc 3 41 (.agg [(.str ⟨#[]⟩), (.str ⟨#[]⟩), (.bool false)])), (some 5), none, [], []⟩, ⟨(.store 3 (.t 5) (.t 17)), none, none, [], []⟩] (σ.kills [5]) K := rfl
theorem e_spMeet_2 (C : FuncId → List AV → AV → Prop) (σ : St) (K : St → Prop) : runReg C r_spMeet_2 σ K = runOps C [⟨(.faddr 2 (.t 2)), (some 25), none, [], []⟩, ⟨(.load 1 false (.t 25)), (some 26), none, [], []⟩, ⟨(.mv (.t 26)), (some 24), none, [], []⟩] (σ.kills []) K := rfl
theorem e_spMeet_3 (C : FuncId → List AV → AV → Prop) (σ : St) (K : St → Prop) : runReg C r_spMeet_3 σ K = runOps C [⟨(.faddr 1 (.t 3)), (some 27), none, [], []⟩, ⟨(.load 1 false (.t 27)), (some 28), none, [], []⟩, ⟨(.faddr 1 (.t 5)), (some 29), none, [], []⟩, ⟨(.store 1 (.t 29) (.t 28)), none, none, [], []⟩] (σ.kills []) K := rfl
theorem e_spMeet_4 (C : FuncId → List AV → AV → Prop) (σ : St) (K : St → Prop) : runReg C r_spMeet_4 σ K = runOps C [⟨(.faddr 2 (.t 3)), (some 31), none, [], []⟩, ⟨(.load 1 false (.t 31)), (some 32), none, [], []⟩, ⟨(.mv (.t 32)), (some 30), none, [], []⟩] (σ.kills []) K := rfl
theorem e_spMeet_5 (C : FuncId → List AV → AV → Prop) (σ : St) (K : St → Prop) : runReg C r_spMeet_5 σ K = runOps C [⟨(.faddr 1 (.t 2)), (some 33), none, [], []⟩, ⟨(.load 1 false (.t 33)), (some 34), none, [], []⟩, ⟨(.faddr 1 (.t 5)), (some 35), none, [], []⟩, ⟨(.store 1 (.t 35) (.t 34)), none, none, [], []⟩] (σ.kills []) K := rfl
theorem e_spMeet_6 (C : FuncId → List AV → AV → Prop) (σ : St) (K : St → Prop) : runReg C r_spMeet_6 σ K = runOps C [⟨(.faddr 1 (.t 2)), (some 18), none, [], []⟩, ⟨(.load 1 false (.t 18)), (some 19), none, [], []⟩, ⟨(.faddr 1 (.t 3)), (some 20), none, [], []⟩, ⟨(.load 1 false (.t 20)), (some 21), none, [], []⟩, ⟨(.mx false (.t 19) (.t 21)), (some 22), none, [], []⟩, ⟨(.faddr 1 (.t 5)), (some 23), none, [], []⟩, ⟨(.store 1 (.t 23) (.t 22)), none, none, [], []⟩] (σ.kills []) K := rfl
theorem e_spMeet_7 (C : FuncId → List AV → AV → Prop) (σ : St) (K : St → Prop) : runReg C r_spMeet_7 σ K = runOps C [⟨(.load 3 true (.t 5)), (some 36), none, [37], []⟩, ⟨(.callv (.c (.clo 158 [] [])) [(.t 36)]), (some 37), none, [], []⟩, ⟨(.store 3 (.t 4) (.t 37)), none, none, [], []⟩] (σ.kills [37]) K := rfl
theorem fn_spMeet {args : List AV} {r : AV} (ha : args.length.ble Try.f137.ntmps = true) (h : run (AFn Try.prog) ir_spMeet (endQ res_spMeet r) (initSt args)) : AFn Try.prog 137 args r :=
  AFn.of_code (hint := fun _ => []) (c := Try.f137.body.getD .skip) (by kernel_rfl) (by kernel_rfl) Try.func137 (by kernel_rfl) (by kernel_rfl) (by kernel_rfl) (of_decide_eq_true (by kernel_rfl)) (Nat.le_of_ble_eq_true ha) (run_ok h)

attribute [local go_sem ↓] ir_spEmpty
attribute [local go_sem] res_spEmpty e_spEmpty_0 e_spEmpty_1
attribute [local go_sem ↓] ir_spNorm
attribute [local go_sem] res_spNorm e_spNorm_0 e_spNorm_1 e_spNorm_2 e_spNorm_3 e_spNorm_4 e_spNorm_5
attribute [local go_sem ↓] ir_spMeet
attribute [local go_sem] res_spMeet e_spMeet_0 e_spMeet_1 e_spMeet_2 e_spMeet_3 e_spMeet_4 e_spMeet_5 e_spMeet_6 e_spMeet_7


theorem spanEmpty (s : Spn) : AFn Try.prog 154 [s.a] (.bool s.empty) := by
  refine fn_spEmpty rfl ?_
  simp (maxSteps := 4000000) only [go_sem, ↓reduceIte, reduceCtorEq, Nat.reduceEqDiff, Nat.reduceBEq, Nat.reduceAdd, Nat.reduceSub, Nat.reduceMul, Nat.reduceLT, Nat.reduceLeDiff, Nat.reduceBNe, Int.reduceBEq, Int.reduceBNe, Int.reduceLT, Int.reduceLE, Spn.a]
  refine ⟨fun h => ?_, fun h => ?_⟩ <;> simp [Spn.empty, lt, h]

theorem spanNorm (s : Spn) : AFn Try.prog 158 [s.a] s.norm.a := by
  refine fn_spNorm rfl ?_
  simp (maxSteps := 4000000) only [go_sem, ↓reduceIte, reduceCtorEq, Nat.reduceEqDiff, Nat.reduceBEq, Nat.reduceAdd, Nat.reduceSub, Nat.reduceMul, Nat.reduceLT, Nat.reduceLeDiff, Nat.reduceBNe, Int.reduceBEq, Int.reduceBNe, Int.reduceLT, Int.reduceLE, Spn.a]
  (first | refine calling (spanEmpty s) ?_ | refine callingH (spanEmpty s) ?_)
  simp (maxSteps := 4000000) only [go_sem, ↓reduceIte, reduceCtorEq, Nat.reduceEqDiff, Nat.reduceBEq, Nat.reduceAdd, Nat.reduceSub, Nat.reduceMul, Nat.reduceLT, Nat.reduceLeDiff, Nat.reduceBNe, Int.reduceBEq, Int.reduceBNe, Int.reduceLT, Int.reduceLE, Spn.a]
  refine ⟨fun h => ?_, fun h => ⟨fun h2 => ?_, fun h2 => ?_⟩⟩ <;> simp [Spn.norm, Spn.none, *]

theorem mxS_eq (a b : ByteArray) : mxS a b = maxS a b := rfl
theorem mnS_eq (a b : ByteArray) : mnS a b = minS a b := by
  unfold mnS minS lt
  cases h : Op.bytesLess a.toList b.toList <;> cases h2 : Op.bytesLess b.toList a.toList
  · have := kp.less_total _ _ h h2
    simp [this]
  · have : (a.toList == b.toList) = false := by
      rw [beq_eq_false_iff_ne]
      intro e
      rw [e, ← e] at h2; rw [e] at h
      rw [e] at h2
      rw [h] at h2; cases h2
    simp [this]
  · simp
  · rw [kp.less_asymm _ _ h] at h2; cases h2
attribute [local irreducible] mxS mnS
theorem spanMeet (s t : Spn) : AFn Try.prog 137 [s.a, t.a] (s.meet t).a := by
  obtain ⟨sl, sh, so⟩ := s
  obtain ⟨tl, th, tp⟩ := t
  cases so <;> cases tp <;> refine fn_spMeet rfl ?_ <;>
    (simp (maxSteps := 4000000) only [go_sem, ↓reduceIte, reduceCtorEq, Nat.reduceEqDiff, Nat.reduceBEq, Nat.reduceAdd, Nat.reduceSub, Nat.reduceMul, Nat.reduceLT, Nat.reduceLeDiff, Nat.reduceBNe, Int.reduceBEq, Int.reduceBNe, Int.reduceLT, Int.reduceLE, Spn.a]
     (first | refine calling (spanNorm ⟨_, _, _⟩) ?_ | refine callingH (spanNorm ⟨_, _, _⟩) ?_)
     simp (maxSteps := 4000000) only [go_sem, ↓reduceIte, reduceCtorEq, Nat.reduceEqDiff, Nat.reduceBEq, Nat.reduceAdd, Nat.reduceSub, Nat.reduceMul, Nat.reduceLT, Nat.reduceLeDiff, Nat.reduceBNe, Int.reduceBEq, Int.reduceBNe, Int.reduceLT, Int.reduceLE, Spn.a]
     simp [Spn.meet, Spn.cut, mxS_eq, mnS_eq])

/-! ### percolate/span.Same -/
def r_spSame_0 : Reg := ⟨[], [⟨(.box 3 41 (.t 0)), (some 2), none, [3], []⟩, ⟨(.box 3 41 (.t 1)), (some 3), none, [], []⟩, ⟨(.mv (.c (.bool false))), (some 4), none, [], []⟩], [2, 3], [], false⟩
def r_spSame_1 : Reg := ⟨[⟨(.load 3 true (.t 2)), (some 5), none, [6, 8], []⟩, ⟨(.callv (.c (.clo 158 [] [])) [(.t 5)]), (some 6), none, [8], []⟩, ⟨(.load 3 true (.t 3)), (some 7), none, [6, 8], []⟩], [⟨(.callv (.c (.clo 158 [] [])) [(.t 7)]), (some 8), none, [], []⟩, ⟨(.feq false [(0, 1), (1, 1), (2, 2)] (.t 6) (.t 8)), (some 9), none, [], []⟩, ⟨(.mv (.t 9)), (some 4), none, [], []⟩], [6, 8], [], true⟩
def ir_spSame : IR := (.seq (.reg r_spSame_0)
  (.seq (.reg r_spSame_1)
  .ret))
def res_spSame : List RDesc := [(.tmp 4)]
theorem e_spSame_0 (C : FuncId → List AV → AV → Prop) (σ : St) (K : St → Prop) : runReg C r_spSame_0 σ K = runOps C [⟨(.box 3 41 (.t 0)), (some 2), none, [3], []⟩, ⟨(.box 3 41 (.t 1)), (some 3), none, [], []⟩, ⟨(.mv (.c (.bool false))), (some 4), none, [], []⟩] (σ.kills [2, 3]) K := rfl
theorem e_spSame_1 (C : FuncId → List AV → AV → Prop) (σ : St) (K : St → Prop) : runReg C r_spSame_1 σ K = runHead C [] [⟨(.callv (.c (.clo 158 [] [])) [(.t 7)]), (some 8), none, [], []⟩, ⟨(.feq false [(0, 1), (1, 1), (2, 2)] (.t 6) (.t 8)), (some 9), none, [], []⟩, ⟨(.mv (.t 9)), (some 4), none, [], []⟩] [⟨(.load 3 true (.t 2)), (some 5), none, [6, 8], []⟩, ⟨(.callv (.c (.clo 158 [] [])) [(.t 5)]), (some 6), none, [8], []⟩, ⟨(.load 3 true (.t 3)), (some 7), none, [6, 8], []⟩] (σ.kills [6, 8]) K := rfl
theorem fn_spSame {args : List AV} {r : AV} (ha : args.length.ble Try.f136.ntmps = true) (h : run (AFn Try.prog) ir_spSame (endQ res_spSame r) (initSt args)) : AFn Try.prog 136 args r :=
  AFn.of_code (hint := fun _ => []) (c := Try.f136.body.getD .skip) (by kernel_rfl) (by kernel_rfl) Try.func136 (by kernel_rfl) (by kernel_rfl) (by kernel_rfl) (of_decide_eq_true (by kernel_rfl)) (Nat.le_of_ble_eq_true ha) (run_ok h)

/-! ### percolate/span.Within -/
def r_spWithin_0 : Reg := ⟨[], [⟨(.box 3 41 (.t 0)), (some 2), none, [3], []⟩, ⟨(.box 3 41 (.t 1)), (some 3), none, [], []⟩, ⟨(.mv (.c (.bool false))), (some 4), none, [], []⟩], [2, 3], [], false⟩
def r_spWithin_1 : Reg := ⟨[⟨(.load 3 true (.t 2)), (some 5), none, [7, 9], []⟩, ⟨(.load 3 true (.t 3)), (some 6), none, [7, 9], []⟩, ⟨(.callv (.c (.clo 137 [] [])) [(.t 5), (.t 6)]), (some 7), none, [9], []⟩, ⟨(.load 3 true (.t 2)), (some 8), none, [7, 9], []⟩], [⟨(.callv (.c (.clo 136 [] [])) [(.t 7), (.t 8)]), (some 9), none, [], []⟩, ⟨(.mv (.t 9)), (some 4), none, [], []⟩], [7, 9], [], true⟩
def ir_spWithin : IR := (.seq (.reg r_spWithin_0)
  (.seq (.reg r_spWithin_1)
  .ret))
def res_spWithin : List RDesc := [(.tmp 4)]
theorem e_spWithin_0 (C : FuncId → List AV → AV → Prop) (σ : St) (K : St → Prop) : runReg C r_spWithin_0 σ K = runOps C [⟨(.box 3 41 (.t 0)), (some 2), none, [3], []⟩, ⟨(.box 3 41 (.t 1)), (some 3), none, [], []⟩, ⟨(.mv (.c (.bool false))), (some 4), none, [], []⟩] (σ.kills [2, 3]) K := rfl
theorem e_spWithin_1 (C : FuncId → List AV → AV → Prop) (σ : St) (K : St → Prop) : runReg C r_spWithin_1 σ K = runHead C [] [⟨(.callv (.c (.clo 136 [] [])) [(.t 7), (.t 8)]), (some 9), none, [], []⟩, ⟨(.mv (.t 9)), (some 4), none, [], []⟩] [⟨(.load 3 true (.t 2)), (some 5), none, [7, 9], []⟩, ⟨(.load 3 true (.t 3)), (some 6), none, [7, 9], []⟩, ⟨(.callv (.c (.clo 137 [] [])) [(.t 5), (.t 6)]), (some 7), none, [9], []⟩, ⟨(.load 3 true (.t 2)), (some 8), none, [7, 9], []⟩] (σ.kills [7, 9]) K := rfl
theorem fn_spWithin {args : List AV} {r : AV} (ha : args.length.ble Try.f116.ntmps = true) (h : run (AFn Try.prog) ir_spWithin (endQ res_spWithin r) (initSt args)) : AFn Try.prog 116 args r :=
  AFn.of_code (hint := fun _ => []) (c := Try.f116.body.getD .skip) (by kernel_rfl) (by kernel_rfl) Try.func116 (by kernel_rfl) (by kernel_rfl) (by kernel_rfl) (of_decide_eq_true (by kernel_rfl)) (Nat.le_of_ble_eq_true ha) (run_ok h)

/-! ### percolate/span.Touch -/
def r_spTouch_0 : Reg := ⟨[], [⟨(.box 3 41 (.t 0)), (some 2), none, [3], []⟩, ⟨(.box 3 41 (.t 1)), (some 3), none, [], []⟩, ⟨(.mv (.c (.bool false))), (some 4), none, [], []⟩], [2, 3], [], false⟩
def r_spTouch_1 : Reg := ⟨[], [⟨(.load 3 true (.t 2)), (some 5), none, [7, 8], []⟩, ⟨(.load 3 true (.t 3)), (some 6), none, [7, 8], []⟩, ⟨(.callv (.c (.clo 137 [] [])) [(.t 5), (.t 6)]), (some 7), none, [8], []⟩, ⟨(.callv (.c (.clo 154 [] [])) [(.t 7)]), (some 8), none, [], []⟩, ⟨(.un .not (.t 8)), (some 9), none, [], []⟩, ⟨(.mv (.t 9)), (some 4), none, [], []⟩], [7, 8], [], false⟩
def ir_spTouch : IR := (.seq (.reg r_spTouch_0)
  (.seq (.reg r_spTouch_1)
  .ret))
def res_spTouch : List RDesc := [(.tmp 4)]
theorem e_spTouch_0 (C : FuncId → List AV → AV → Prop) (σ : St) (K : St → Prop) : runReg C r_spTouch_0 σ K = runOps C [⟨(.box 3 41 (.t 0)), (some 2), none, [3], []⟩, ⟨(.box 3 41 (.t 1)), (some 3), none, [], []⟩, ⟨(.mv (.c (.bool false))), (some 4), none, [], []⟩] (σ.kills [2, 3]) K := rfl
theorem e_spTouch_1 (C : FuncId → List AV → AV → Prop) (σ : St) (K : St → Prop) : runReg C r_spTouch_1 σ K = runOps C [⟨(.load 3 true (.t 2)), (some 5), none, [7, 8], []⟩, ⟨(.load 3 true (.t 3)), (some 6), none, [7, 8], []⟩, ⟨(.callv (.c (.clo 137 [] [])) [(.t 5), (.t 6)]), (some 7), none, [8], []⟩, ⟨(.callv (.c (.clo 154 [] [])) [(.t 7)]), (some 8), none, [], []⟩, ⟨(.un .not (.t 8)), (some 9), none, [], []⟩, ⟨(.mv (.t 9)), (some 4), none, [], []⟩] (σ.kills [7, 8]) K := rfl
theorem fn_spTouch {args : List AV} {r : AV} (ha : args.length.ble Try.f130.ntmps = true) (h : run (AFn Try.prog) ir_spTouch (endQ res_spTouch r) (initSt args)) : AFn Try.prog 130 args r :=
  AFn.of_code (hint := fun _ => []) (c := Try.f130.body.getD .skip) (by kernel_rfl) (by kernel_rfl) Try.func130 (by kernel_rfl) (by kernel_rfl) (by kernel_rfl) (of_decide_eq_true (by kernel_rfl)) (Nat.le_of_ble_eq_true ha) (run_ok h)

/-! ### percolate/span.Has -/
def r_spHas_0 : Reg := ⟨[], [⟨(.box 3 41 (.t 0)), (some 2), none, [], []⟩, ⟨(.mv (.c (.bool false))), (some 4), none, [], []⟩], [2], [], false⟩
def r_spHas_1 : Reg := ⟨[], [⟨(.mv (.t 1)), (some 5), none, [], []⟩, ⟨(.faddr 0 (.t 2)), (some 6), none, [], []⟩, ⟨(.load 1 false (.t 6)), (some 7), none, [], []⟩, ⟨(.bin .geq (.t 5) (.t 7)), (some 8), none, [], []⟩, ⟨(.mv (.t 8)), (some 9), none, [], []⟩, ⟨(.faddr 2 (.t 2)), (some 10), (some (9, true)), [], []⟩, ⟨(.load 1 false (.t 10)), (some 11), (some (9, true)), [], []⟩, ⟨(.mv (.t 11)), (some 12), (some (9, true)), [], []⟩, ⟨(.mv (.t 1)), (some 13), (some (12, false)), [], []⟩, ⟨(.faddr 1 (.t 2)), (some 14), (some (12, false)), [], []⟩, ⟨(.load 1 false (.t 14)), (some 15), (some (12, false)), [], []⟩, ⟨(.bin .lss (.t 13) (.t 15)), (some 16), (some (12, false)), [], []⟩, ⟨(.pick (.t 12) (.c (.bool true)) (.t 16)), (some 17), (some (9, true)), [], []⟩, ⟨(.pick (.t 9) (.t 17) (.c (.bool false))), (some 18), none, [], []⟩, ⟨(.mv (.t 18)), (some 4), none, [], []⟩], [], [], false⟩
def ir_spHas : IR := (.seq (.reg r_spHas_0)
  (.seq (.reg r_spHas_1)
  .ret))
def res_spHas : List RDesc := [(.tmp 4)]
theorem e_spHas_0 (C : FuncId → List AV → AV → Prop) (σ : St) (K : St → Prop) : runReg C r_spHas_0 σ K = runOps C [⟨(.box 3 41 (.t 0)), (some 2), none, [], []⟩, ⟨(.mv (.c (.bool false))), (some 4), none, [], []⟩] (σ.kills [2]) K := rfl
theorem e_spHas_1 (C : FuncId → List AV → AV → Prop) (σ : St) (K : St → Prop) : runReg C r_spHas_1 σ K = runOps C [⟨(.mv (.t 1)), (some 5), none, [], []⟩, ⟨(.faddr 0 (.t 2)), (some 6), none, [], []⟩, ⟨(.load 1 false (.t 6)), (some 7), none, [], []⟩, ⟨(.bin .geq (.t 5) (.t 7)), (some 8), none, [], []⟩, ⟨(.mv (.t 8)), (some 9), none, [], []⟩, ⟨(.faddr 2 (.t 2)), (some 10), (some (9, true)), [], []⟩, ⟨(.load 1 false (.t 10)), (some 11), (some (9, true)), [], []⟩, ⟨(.mv (.t 11)), (some 12), (some (9, true)), [], []⟩, ⟨(.mv (.t 1)), (some 13), (some (12, false)), [], []⟩, ⟨(.faddr 1 (.t 2)), (some 14), (some (12, false)), [], []⟩, ⟨(.load 1 false (.t 14)), (some 15), (some (12, false)), [], []⟩, ⟨(.bin .lss (.t 13) (.t 15)), (some 16), (some (12, false)), [], []⟩, ⟨(.pick (.t 12) (.c (.bool true)) (.t 16)), (some 17), (some (9, true)), [], []⟩, ⟨(.pick (.t 9) (.t 17) (.c (.bool false))), (some 18), none, [], []⟩, ⟨(.mv (.t 18)), (some 4), none, [], []⟩] (σ.kills []) K := rfl
theorem fn_spHas {args : List AV} {r : AV} (ha : args.length.ble Try.f139.ntmps = true) (h : run (AFn Try.prog) ir_spHas (endQ res_spHas r) (initSt args)) : AFn Try.prog 139 args r :=
  AFn.of_code (hint := fun _ => []) (c := Try.f139.body.getD .skip) (by kernel_rfl) (by kernel_rfl) Try.func139 (by kernel_rfl) (by kernel_rfl) (by kernel_rfl) (of_decide_eq_true (by kernel_rfl)) (Nat.le_of_ble_eq_true ha) (run_ok h)

/-! ### percolate/span.Point -/
def r_spPoint_0 : Reg := ⟨[], [⟨(.alloc 3 41 (.agg [(.str ⟨#[]⟩), (.str ⟨#[]⟩), (.bool false)])), (some 2), none, [], []⟩], [2], [], false⟩
def r_spPoint_1 : Reg := ⟨[], [⟨(.mv (.t 0)), (some 3), none, [5], []⟩, ⟨(.mv (.t 0)), (some 4), none, [5], []⟩, ⟨(.callv (.c (.clo 98 [] [])) [(.t 4)]), (some 5), none, [], []⟩, ⟨(.bld [(.str ⟨#[]⟩), (.str ⟨#[]⟩), (.bool false)] [⟨0, 1, (.t 3)⟩, ⟨1, 1, (.t 5)⟩]), (some 6), none, [], []⟩, ⟨(.store 3 (.t 2) (.t 6)), none, none, [], []⟩], [5], [], false⟩
def ir_spPoint : IR := (.seq (.reg r_spPoint_0)
  (.seq (.reg r_spPoint_1)
  .ret))
def res_spPoint : List RDesc := [(.cell 2 3 true)]
theorem e_spPoint_0 (C : FuncId → List AV → AV → Prop) (σ : St) (K : St → Prop) : runReg C r_spPoint_0 σ K = runOps C [⟨(.alloc 3 41 (.agg [(.str ⟨#[]⟩), (.str ⟨#[]⟩), (.bool false)])), (some 2), none, [], []⟩] (σ.kills [2]) K := rfl
theorem e_spPoint_1 (C : FuncId → List AV → AV → Prop) (σ : St) (K : St → Prop) : runReg C r_spPoint_1 σ K = runOps C [⟨(.mv (.t 0)), (some 3), none, [5], []⟩, ⟨(.mv (.t 0)), (some 4), none, [5], []⟩, ⟨(.callv (.c (.clo 98 [] [])) [(.t 4)]), (some 5), none, [], []⟩, ⟨(.bld [(.str ⟨#[]⟩), (.str ⟨#[]⟩), (.bool false)] [⟨0, 1, (.t 3)⟩, ⟨1, 1, (.t 5)⟩]), (some 6), none, [], []⟩, ⟨(.store 3 (.t 2) (.t 6)), none, none, [], []⟩] (σ.kills [5]) K := rfl
theorem fn_spPoint {args : List AV} {r : AV} (ha : args.length.ble Try.f129.ntmps = true) (h : run (AFn Try.prog) ir_spPoint (endQ res_spPoint r) (initSt args)) : AFn Try.prog 129 args r :=
  AFn.of_code (hint := fun _ => []) (c := Try.f129.body.getD .skip) (by kernel_rfl) (by kernel_rfl) Try.func129 (by kernel_rfl) (by kernel_rfl) (by kernel_rfl) (of_decide_eq_true (by kernel_rfl)) (Nat.le_of_ble_eq_true ha) (run_ok h)

/-! ### percolate/key.Next -/
def r_keyNext_0 : Reg := ⟨[], [⟨(.mv (.c (.str ⟨#[]⟩))), (some 2), none, [], []⟩], [], [], false⟩
def r_keyNext_1 : Reg := ⟨[], [⟨(.mv (.t 0)), (some 3), none, [], []⟩, ⟨(.bin .add (.t 3) (.c (.str ⟨#[0]⟩))), (some 4), none, [], []⟩, ⟨(.mv (.t 4)), (some 2), none, [], []⟩], [], [], false⟩
def ir_keyNext : IR := (.seq (.reg r_keyNext_0)
  (.seq (.reg r_keyNext_1)
  .ret))
def res_keyNext : List RDesc := [(.tmp 2)]
theorem e_keyNext_0 (C : FuncId → List AV → AV → Prop) (σ : St) (K : St → Prop) : runReg C r_keyNext_0 σ K = runOps C [⟨(.mv (.c (.str ⟨#[]⟩))), (some 2), none, [], []⟩] (σ.kills []) K := rfl
theorem e_keyNext_1 (C : FuncId → List AV → AV → Prop) (σ : St) (K : St → Prop) : runReg C r_keyNext_1 σ K = runOps C [⟨(.mv (.t 0)), (some 3), none, [], []⟩, ⟨(.bin .add (.t 3) (.c (.str ⟨#[0]⟩))), (some 4), none, [], []⟩, ⟨(.mv (.t 4)), (some 2), none, [], []⟩] (σ.kills []) K := rfl
theorem fn_keyNext {args : List AV} {r : AV} (ha : args.length.ble Try.f98.ntmps = true) (h : run (AFn Try.prog) ir_keyNext (endQ res_keyNext r) (initSt args)) : AFn Try.prog 98 args r :=
  AFn.of_code (hint := fun _ => []) (c := Try.f98.body.getD .skip) (by kernel_rfl) (by kernel_rfl) Try.func98 (by kernel_rfl) (by kernel_rfl) (by kernel_rfl) (of_decide_eq_true (by kernel_rfl)) (Nat.le_of_ble_eq_true ha) (run_ok h)

attribute [local go_sem ↓] ir_spSame
attribute [local go_sem] res_spSame e_spSame_0 e_spSame_1
attribute [local go_sem ↓] ir_spWithin
attribute [local go_sem] res_spWithin e_spWithin_0 e_spWithin_1
attribute [local go_sem ↓] ir_spTouch
attribute [local go_sem] res_spTouch e_spTouch_0 e_spTouch_1
attribute [local go_sem ↓] ir_spHas
attribute [local go_sem] res_spHas e_spHas_0 e_spHas_1
attribute [local go_sem ↓] ir_spPoint
attribute [local go_sem] res_spPoint e_spPoint_0 e_spPoint_1
attribute [local go_sem ↓] ir_keyNext
attribute [local go_sem] res_keyNext e_keyNext_0 e_keyNext_1

theorem Spn.ext' {a b : Spn} (h1 : a.lo = b.lo) (h2 : a.hi = b.hi) (h3 : a.op = b.op) : a = b := by cases a; cases b; simp_all
theorem beq_bytes (a b : ByteArray) : (a.toList == b.toList) = decide (a = b) := by
  rw [Bool.eq_iff_iff]
  simp only [beq_iff_eq, decide_eq_true_eq]
  refine ⟨fun h => ?_, fun h => by rw [h]⟩
  rw [ByteArray.toList_eq, ByteArray.toList_eq] at h
  cases a; cases b
  congr 1
  exact Array.ext' h
theorem spn_beq (a b : Spn) : (a.lo.toList == b.lo.toList && (a.hi.toList == b.hi.toList && (a.op == b.op && true))) = decide (a = b) := by
  rw [beq_bytes, beq_bytes, Bool.eq_iff_iff]
  simp only [Bool.and_eq_true, decide_eq_true_eq, beq_iff_eq, and_true]
  exact ⟨fun h => Spn.ext' h.1 h.2.1 h.2.2, fun h => by rw [h]; exact ⟨rfl, rfl, rfl⟩⟩
theorem spanSame (s t : Spn) : AFn Try.prog 136 [s.a, t.a] (.bool (decide (s.norm = t.norm))) := by
  refine fn_spSame rfl ?_
  simp (maxSteps := 4000000) only [go_sem, ↓reduceIte, reduceCtorEq, Nat.reduceEqDiff, Nat.reduceBEq, Nat.reduceAdd, Nat.reduceSub, Nat.reduceMul, Nat.reduceLT, Nat.reduceLeDiff, Nat.reduceBNe, Int.reduceBEq, Int.reduceBNe, Int.reduceLT, Int.reduceLE, Spn.a]
  (first | refine calling (spanNorm s) ?_ | refine callingH (spanNorm s) ?_)
  simp (maxSteps := 4000000) only [go_sem, ↓reduceIte, reduceCtorEq, Nat.reduceEqDiff, Nat.reduceBEq, Nat.reduceAdd, Nat.reduceSub, Nat.reduceMul, Nat.reduceLT, Nat.reduceLeDiff, Nat.reduceBNe, Int.reduceBEq, Int.reduceBNe, Int.reduceLT, Int.reduceLE, Spn.a]
  (first | refine calling (spanNorm t) ?_ | refine callingH (spanNorm t) ?_)
  simp (maxSteps := 4000000) only [go_sem, ↓reduceIte, reduceCtorEq, Nat.reduceEqDiff, Nat.reduceBEq, Nat.reduceAdd, Nat.reduceSub, Nat.reduceMul, Nat.reduceLT, Nat.reduceLeDiff, Nat.reduceBNe, Int.reduceBEq, Int.reduceBNe, Int.reduceLT, Int.reduceLE, Spn.a]
  rw [← spn_beq, Bool.and_true]
theorem spanWithin (s t : Spn) : AFn Try.prog 116 [s.a, t.a] (.bool (s.within t)) := by
  refine fn_spWithin rfl ?_
  simp (maxSteps := 4000000) only [go_sem, ↓reduceIte, reduceCtorEq, Nat.reduceEqDiff, Nat.reduceBEq, Nat.reduceAdd, Nat.reduceSub, Nat.reduceMul, Nat.reduceLT, Nat.reduceLeDiff, Nat.reduceBNe, Int.reduceBEq, Int.reduceBNe, Int.reduceLT, Int.reduceLE, Spn.a]
  (first | refine calling (spanMeet s t) ?_ | refine callingH (spanMeet s t) ?_)
  simp (maxSteps := 4000000) only [go_sem, ↓reduceIte, reduceCtorEq, Nat.reduceEqDiff, Nat.reduceBEq, Nat.reduceAdd, Nat.reduceSub, Nat.reduceMul, Nat.reduceLT, Nat.reduceLeDiff, Nat.reduceBNe, Int.reduceBEq, Int.reduceBNe, Int.reduceLT, Int.reduceLE, Spn.a]
  (first | refine calling (spanSame (s.meet t) s) ?_ | refine callingH (spanSame (s.meet t) s) ?_)
  simp (maxSteps := 4000000) only [go_sem, ↓reduceIte, reduceCtorEq, Nat.reduceEqDiff, Nat.reduceBEq, Nat.reduceAdd, Nat.reduceSub, Nat.reduceMul, Nat.reduceLT, Nat.reduceLeDiff, Nat.reduceBNe, Int.reduceBEq, Int.reduceBNe, Int.reduceLT, Int.reduceLE, Spn.a, Spn.within]
theorem spanTouch (s t : Spn) : AFn Try.prog 130 [s.a, t.a] (.bool (s.touch t)) := by
  refine fn_spTouch rfl ?_
  simp (maxSteps := 4000000) only [go_sem, ↓reduceIte, reduceCtorEq, Nat.reduceEqDiff, Nat.reduceBEq, Nat.reduceAdd, Nat.reduceSub, Nat.reduceMul, Nat.reduceLT, Nat.reduceLeDiff, Nat.reduceBNe, Int.reduceBEq, Int.reduceBNe, Int.reduceLT, Int.reduceLE, Spn.a]
  (first | refine calling (spanMeet s t) ?_ | refine callingH (spanMeet s t) ?_)
  simp (maxSteps := 4000000) only [go_sem, ↓reduceIte, reduceCtorEq, Nat.reduceEqDiff, Nat.reduceBEq, Nat.reduceAdd, Nat.reduceSub, Nat.reduceMul, Nat.reduceLT, Nat.reduceLeDiff, Nat.reduceBNe, Int.reduceBEq, Int.reduceBNe, Int.reduceLT, Int.reduceLE, Spn.a]
  (first | refine calling (spanEmpty (s.meet t)) ?_ | refine callingH (spanEmpty (s.meet t)) ?_)
  simp (maxSteps := 4000000) only [go_sem, ↓reduceIte, reduceCtorEq, Nat.reduceEqDiff, Nat.reduceBEq, Nat.reduceAdd, Nat.reduceSub, Nat.reduceMul, Nat.reduceLT, Nat.reduceLeDiff, Nat.reduceBNe, Int.reduceBEq, Int.reduceBNe, Int.reduceLT, Int.reduceLE, Spn.a, Spn.touch]
theorem spanHas (s : Spn) (k : ByteArray) : AFn Try.prog 139 [s.a, .str k] (.bool (s.has k)) := by
  refine fn_spHas rfl ?_
  simp (maxSteps := 4000000) only [go_sem, ↓reduceIte, reduceCtorEq, Nat.reduceEqDiff, Nat.reduceBEq, Nat.reduceAdd, Nat.reduceSub, Nat.reduceMul, Nat.reduceLT, Nat.reduceLeDiff, Nat.reduceBNe, Int.reduceBEq, Int.reduceBNe, Int.reduceLT, Int.reduceLE, Spn.a]
  refine ⟨fun h => ⟨fun h2 => ?_, fun h2 => ?_⟩, fun h => ?_⟩ <;> simp [Spn.has, lt, *]
theorem keyNext (k : ByteArray) (hk : k.size ≤ 9223372036854775806) : AFn Try.prog 98 [.str k] (.str (k ++ ⟨#[0]⟩)) := by
  refine fn_keyNext rfl ?_
  simp (maxSteps := 4000000) only [go_sem, ↓reduceIte, reduceCtorEq, Nat.reduceEqDiff, Nat.reduceBEq, Nat.reduceAdd, Nat.reduceSub, Nat.reduceMul, Nat.reduceLT, Nat.reduceLeDiff, Nat.reduceBNe, Int.reduceBEq, Int.reduceBNe, Int.reduceLT, Int.reduceLE, Spn.a]
  show k.size + 1 ≤ _
  omega
def pointS (k : ByteArray) : Spn := ⟨k, k ++ ⟨#[0]⟩, false⟩
theorem spanPoint (k : ByteArray) (hk : k.size ≤ 9223372036854775806) : AFn Try.prog 129 [.str k] (pointS k).a := by
  refine fn_spPoint rfl ?_
  simp (maxSteps := 4000000) only [go_sem, ↓reduceIte, reduceCtorEq, Nat.reduceEqDiff, Nat.reduceBEq, Nat.reduceAdd, Nat.reduceSub, Nat.reduceMul, Nat.reduceLT, Nat.reduceLeDiff, Nat.reduceBNe, Int.reduceBEq, Int.reduceBNe, Int.reduceLT, Int.reduceLE, Spn.a, pointS]
  (first | refine calling (keyNext k hk) ?_ | refine callingH (keyNext k hk) ?_)
  simp (maxSteps := 4000000) only [go_sem, ↓reduceIte, reduceCtorEq, Nat.reduceEqDiff, Nat.reduceBEq, Nat.reduceAdd, Nat.reduceSub, Nat.reduceMul, Nat.reduceLT, Nat.reduceLeDiff, Nat.reduceBNe, Int.reduceBEq, Int.reduceBNe, Int.reduceLT, Int.reduceLE, Spn.a, pointS]
end Go.Proofs.Ytdjkefndigijjaa
