/-
  Squeeze on the plain machine.
-/
import Derived.Test.YtdjkefndigijjaaSqC
namespace Go.Proofs.Ytdjkefndigijjaa
open Go.RowKit
set_option linter.unusedVariables false
set_option linter.unusedSimpArgs false
set_option maxRecDepth 100000
attribute [local go_sem ↓] runOp headOp
attribute [local go_sem] ev0 ev1 ev2 ev3 evA stHOk.eq_1 stHOk.eq_2 stHSt.eq_1 stHSt.eq_2 okV valV fzV okF valF okBld valBld mxOk.eq_1 mxOk.eq_2 mxVal.eq_1 mxVal.eq_2 cellFit.eq_1 cellFit.eq_2 cellFit.eq_3 cellEq.eq_1 cellEq.eq_2 cellEq.eq_3 upd_at AV.flatB AV.flatBs binIok binIV binSok binSV cellsOk.eq_1 cellsOk.eq_2 cellsVal.eq_1 cellsVal.eq_2 objCells.eq_1 objCells.eq_2 objZ.eq_1 objZ.eq_2 objProt.eq_1 objProt.eq_2 oneObj ptrOk.eq_1 ptrOk.eq_2 ptrOk.eq_3 ptrCells.eq_1 ptrCells.eq_2 ptrCells.eq_3 lenOk.eq_1 lenOk.eq_2 lenOk.eq_3 lenOk.eq_4 lenVal.eq_1 lenVal.eq_2 lenVal.eq_3 lenVal.eq_4 faOk.eq_1 faOk.eq_2 faOk.eq_3 faVal.eq_1 faVal.eq_2 faVal.eq_3 iaOk.eq_1 iaOk.eq_2 iaOk.eq_3 iaVal.eq_1 iaVal.eq_2 iaVal.eq_3 slcLen.eq_1 slcLen.eq_2 slcLen.eq_3 slcLen.eq_4 bdOk.eq_1 bdOk.eq_2 bdVal.eq_1 bdVal.eq_2 slcOk.eq_1 slcOk.eq_2 slcOk.eq_3 slcOk.eq_4 slcVal.eq_1 slcVal.eq_2 slcVal.eq_3 slcVal.eq_4 slcFz.eq_1 slcFz.eq_2 byOk.eq_1 byOk.eq_2 byOk.eq_3 byOk.eq_4 byOk.eq_5 byVal.eq_1 byVal.eq_2 byVal.eq_3 byFz.eq_1 byFz.eq_2 byFz.eq_3 byOks byVals byFzs allOne resSt.eq_1 resSt.eq_2 resName.eq_1 resName.eq_2 stOk.eq_1 stOk.eq_2 stArr.eq_1 stArr.eq_2 stSt.eq_1 stSt.eq_2 AV.patch nameOk_none gB.eq_1 gB.eq_2 gB.eq_3 gIs.eq_1 gIs.eq_2 gIs.eq_3 retV resV resVs evalV cellsV St.byval List.getD_cons_zero List.getD_cons_succ List.getD_nil List.map_cons List.map_nil List.length_cons List.length_nil List.take_succ_cons List.take_zero List.drop_succ_cons List.drop_zero List.headD_cons List.set_cons_zero List.append_nil List.nil_append List.cons_append List.contains_cons List.contains_nil List.elem_cons List.elem_nil List.all_cons List.all_nil List.getElem?_cons_zero List.getElem?_cons_succ List.filterMap_cons List.filterMap_nil Option.isSome_some Option.isSome_none Option.map_some Option.map_none Option.some.injEq AV.int.injEq AV.bool.injEq AV.str.injEq AV.tup.injEq AV.agg.injEq AV.sl.injEq List.cons.injEq Bool.false_eq_true Bool.true_eq_false Bool.not_true Bool.not_false Bool.and_true Bool.true_and Bool.or_false Bool.or_true Bool.false_or Bool.true_or Bool.or_self Bool.and_self Bool.not_eq_true' Bool.not_eq_false' Bool.not_not beq_self_eq_true true_and and_true false_and and_false and_self not_true_eq_false not_false_eq_true forall_const true_implies false_implies implies_true imp_self Nat.lt_add_one Nat.le_refl Nat.zero_le Nat.add_zero Nat.zero_add decide_true decide_false decide_eq_true_eq decide_eq_false_iff_not exists_eq_left exists_eq_left' ge_iff_le gt_iff_lt ite_branch ite_branch' nilOk.eq_1 nilOk.eq_2 nilMay.eq_1 nilMay.eq_2 AV.isSl.eq_1 objTy'.eq_1 objTy'.eq_2 apSt.eq_1 apArr.eq_1 apArr.eq_2 slOf.eq_1 fitsV List.mem_cons List.not_mem_nil Bool.false_and Bool.and_false

def sqGo : Nat → Nat → List Msg → List Msg → List Msg
  | 0, _, _, out => out
  | f + 1, i, rest, out => match rest[i]? with
    | none => out
    | some m => if dead rest i then sqGo f (i + 1) rest out else match nextOf rest i with
      | none => sqGo f (i + 1) rest (out ++ [m])
      | some j => if m.kind = 4 then sqGo f (i + 1) rest (out ++ [m]) else match rest[j]? with
        | none => out
        | some x => if (joinF m x).2 then sqGo f (i + 1) (rest.set j (joinF m x).1) out else sqGo f (i + 1) rest (out ++ [m])
def squeezeF (l : List Msg) : List Msg := sqGo l.length 0 l []

def ROk (l : List Msg) : Prop := l.length ≤ 1000000 ∧ ∀ m, m ∈ l → m.key.size ≤ 9223372036854775806 ∧ m.val.size ≤ 4611686018427387903
theorem ROk.ok {l : List Msg} (h : ROk l) : MOk l := ⟨h.1, fun m hm => (h.2 m hm).1⟩
def sqInv (n : Nat) (r : List Msg) (k : Nat) (σ : St) : Prop :=
  ∃ (i : Nat) (rest out : List Msg), rest.length = n ∧ i ≤ n ∧ k = n - i ∧ ROk rest ∧ out.length ≤ i ∧ σ.T 3 = .rs 12 0 n ∧ σ.T 13 = .rs 12 0 n ∧ σ.T 14 = .int .i64 n ∧ σ.T 15 = .int .i64 i ∧ σ.H 12 = some ⟨6, 55, rest.map Msg.a, 0⟩ ∧
    σ.T 4 = .rs 4 0 out.length ∧ σ.H 4 = some ⟨6, 55, out.map Msg.a, 0⟩ ∧ sqGo (n - i) i rest out = r

/-! ### percolate/squeeze.Squeeze -/
def r_sqSq_0 : Reg := ⟨[], [⟨(.mknil 6 55), (some 2), none, [], []⟩], [2], [], false⟩
def r_sqSq_1 : Reg := ⟨[], [⟨(.mv (.t 0)), (some 11), none, [12], []⟩, ⟨(.callv (.c (.clo 81 [] [])) [(.t 11)]), (some 12), none, [], []⟩, ⟨(.mv (.t 12)), (some 3), none, [], []⟩], [12], [], false⟩
def r_sqSq_2 : Reg := ⟨[], [⟨(.mknil 6 55), (some 4), none, [], []⟩], [4], [], false⟩
def r_sqSq_3 : Reg := ⟨[], [⟨(.mv (.t 3)), (some 13), none, [], []⟩, ⟨(.len false (.t 13)), (some 14), none, [], []⟩, ⟨(.mv (.c (.int .i64 0))), (some 15), none, [], []⟩], [], [], false⟩
def r_sqSq_4 : Reg := ⟨[], [⟨(.bin .lss (.t 15) (.t 14)), (some 16), none, [], []⟩], [], [], false⟩
def r_sqSq_5 : Reg := ⟨[], [⟨(.mv (.t 15)), (some 17), none, [6], []⟩, ⟨(.iaddr 6 (.t 13) (.t 15)), (some 18), none, [6], []⟩, ⟨(.load 6 true (.t 18)), (some 19), none, [6], []⟩, ⟨(.alloc 6 55 (.agg [(.int .i64 0), (.int .i64 0), (.str ⟨#[]⟩), (.str ⟨#[]⟩), (.bool false), (.str ⟨#[]⟩)])), (some 6), none, [], []⟩, ⟨(.mv (.t 17)), (some 5), none, [], []⟩, ⟨(.store 6 (.t 6) (.t 19)), none, none, [], []⟩], [6], [], false⟩
def r_sqSq_6 : Reg := ⟨[], [⟨(.mv (.t 3)), (some 20), none, [22], []⟩, ⟨(.mv (.t 5)), (some 21), none, [22], []⟩, ⟨(.callv (.c (.clo 64 [] [])) [(.t 20), (.t 21)]), (some 22), none, [], []⟩], [22], [], false⟩
def r_sqSq_7 : Reg := ⟨[], [⟨(.mv (.t 3)), (some 24), none, [26], []⟩, ⟨(.mv (.t 5)), (some 25), none, [26], []⟩, ⟨(.callv (.c (.clo 61 [] [])) [(.t 24), (.t 25)]), (some 26), none, [], []⟩, ⟨(.mv (.t 26)), (some 23), none, [], []⟩, ⟨(.ext 0 (.t 23)), (some 27), none, [], []⟩, ⟨(.ext 1 (.t 23)), (some 28), none, [], []⟩, ⟨(.mv (.t 27)), (some 7), none, [], []⟩, ⟨(.mv (.t 28)), (some 8), none, [], []⟩], [26], [], false⟩
def r_sqSq_8 : Reg := ⟨[], [⟨(.mv (.t 8)), (some 29), none, [], []⟩, ⟨(.mv (.t 29)), (some 30), none, [], []⟩, ⟨(.faddr 1 (.t 6)), (some 31), (some (30, true)), [], []⟩, ⟨(.load 1 false (.t 31)), (some 32), (some (30, true)), [], []⟩, ⟨(.bin .neq (.t 32) (.c (.int .i64 4))), (some 33), (some (30, true)), [], []⟩, ⟨(.pick (.t 30) (.t 33) (.c (.bool false))), (some 34), none, [], []⟩], [], [], false⟩
def r_sqSq_9 : Reg := ⟨[⟨(.load 6 true (.t 6)), (some 36), none, [41, 9], []⟩, ⟨(.mv (.t 3)), (some 37), none, [41, 9], []⟩, ⟨(.mv (.t 7)), (some 38), none, [41, 9], []⟩, ⟨(.iaddr 6 (.t 37) (.t 38)), (some 39), none, [41, 9], []⟩, ⟨(.load 6 true (.t 39)), (some 40), none, [41, 9], []⟩, ⟨(.callv (.c (.clo 82 [] [])) [(.t 36), (.t 40)]), (some 41), none, [9], []⟩, ⟨(.mv (.t 41)), (some 35), none, [9], []⟩, ⟨(.ext 0 (.t 35)), (some 42), none, [9], []⟩, ⟨(.ext 1 (.t 35)), (some 43), none, [9, 9], []⟩, ⟨(.alloc 6 55 (.agg [(.int .i64 0), (.int .i64 0), (.str ⟨#[]⟩), (.str ⟨#[]⟩), (.bool false), (.str ⟨#[]⟩)])), (some 9), none, [41], []⟩, ⟨(.store 6 (.t 9) (.t 42)), none, none, [], [9]⟩], [⟨(.mv (.t 43)), (some 10), none, [], []⟩], [41, 9], [], true⟩
def r_sqSq_10 : Reg := ⟨[], [⟨(.mv (.t 10)), (some 44), none, [], []⟩], [], [], false⟩
def r_sqSq_11 : Reg := ⟨[], [⟨(.mv (.t 3)), (some 45), none, [], []⟩, ⟨(.mv (.t 7)), (some 46), none, [], []⟩, ⟨(.load 6 true (.t 9)), (some 47), none, [], []⟩, ⟨(.iaddr 6 (.t 45) (.t 46)), (some 48), none, [], []⟩, ⟨(.store 6 (.t 48) (.t 47)), none, none, [], []⟩], [], [], false⟩
def r_sqSq_12 : Reg := ⟨[], [⟨(.mv (.t 4)), (some 49), none, [51], []⟩, ⟨(.load 6 true (.t 6)), (some 50), none, [51], []⟩, ⟨(.bsl 6 55 [(.t 50)]), (some 51), none, [], []⟩, ⟨(.append 6 55 72 (.t 49) (.t 51)), (some 52), none, [], []⟩, ⟨(.mv (.t 52)), (some 4), none, [], []⟩], [51], [], false⟩
def r_sqSq_13 : Reg := ⟨[], [⟨(.bin .add (.t 15) (.c (.int .i64 1))), (some 53), none, [], []⟩, ⟨(.mv (.t 53)), (some 15), none, [], []⟩], [], [], false⟩
def r_sqSq_l14 : IR := (.seq (.reg r_sqSq_4)
  (.seq (.cond (.t 16) .skip
  (.exit 0))
  (.seq (.block 1 (.seq (.reg r_sqSq_5)
  (.seq (.seq (.reg r_sqSq_6)
  (.cond (.t 22) (.exit 1)
  .skip))
  (.seq (.seq (.reg r_sqSq_7)
  (.seq (.reg r_sqSq_8)
  (.cond (.t 34) (.seq (.reg r_sqSq_9)
  (.seq (.reg r_sqSq_10)
  (.cond (.t 44) (.seq (.reg r_sqSq_11)
  (.exit 1))
  .skip)))
  .skip)))
  (.reg r_sqSq_12)))))
  (.reg r_sqSq_13))))
def r_sqSq_15 : Reg := ⟨[], [⟨(.mv (.t 4)), (some 54), none, [], []⟩, ⟨(.mv (.t 54)), (some 2), none, [], []⟩], [], [], false⟩
def ir_sqSq : IR := (.seq (.reg r_sqSq_0)
  (.seq (.reg r_sqSq_1)
  (.seq (.reg r_sqSq_2)
  (.seq (.seq (.reg r_sqSq_3)
  (.block 0 (.loop r_sqSq_l14)))
  (.seq (.reg r_sqSq_15)
  .ret)))))
def res_sqSq : List RDesc := [(.tmp 2)]
theorem e_sqSq_0 (C : FuncId → List AV → AV → Prop) (σ : St) (K : St → Prop) : runReg C r_sqSq_0 σ K = runOps C [⟨(.mknil 6 55), (some 2), none, [], []⟩] (σ.kills [2]) K := rfl
theorem e_sqSq_1 (C : FuncId → List AV → AV → Prop) (σ : St) (K : St → Prop) : runReg C r_sqSq_1 σ K = runOps C [⟨(.mv (.t 0)), (some 11), none, [12], []⟩, ⟨(.callv (.c (.clo 81 [] [])) [(.t 11)]), (some 12), none, [], []⟩, ⟨(.mv (.t 12)), (some 3), none, [], []⟩] (σ.kills [12]) K := rfl
theorem e_sqSq_2 (C : FuncId → List AV → AV → Prop) (σ : St) (K : St → Prop) : runReg C r_sqSq_2 σ K = runOps C [⟨(.mknil 6 55), (some 4), none, [], []⟩] (σ.kills [4]) K := rfl
theorem e_sqSq_3 (C : FuncId → List AV → AV → Prop) (σ : St) (K : St → Prop) : runReg C r_sqSq_3 σ K = runOps C [⟨(.mv (.t 3)), (some 13), none, [], []⟩, ⟨(.len false (.t 13)), (some 14), none, [], []⟩, ⟨(.mv (.c (.int .i64 0))), (some 15), none, [], []⟩] (σ.kills []) K := rfl
theorem e_sqSq_4 (C : FuncId → List AV → AV → Prop) (σ : St) (K : St → Prop) : runReg C r_sqSq_4 σ K = runOps C [⟨(.bin .lss (.t 15) (.t 14)), (some 16), none, [], []⟩] (σ.kills []) K := rfl
theorem e_sqSq_5 (C : FuncId → List AV → AV → Prop) (σ : St) (K : St → Prop) : runReg C r_sqSq_5 σ K = runOps C [⟨(.mv (.t 15)), (some 17), none, [6], []⟩, ⟨(.iaddr 6 (.t 13) (.t 15)), (some 18), none, [6], []⟩, ⟨(.load 6 true (.t 18)), (some 19), none, [6], []⟩, ⟨(.alloc 6 55 (.agg [(.int .i64 0), (.int .i64 0), (.str ⟨#[]⟩), (.str ⟨#[]⟩), (.bool false), (.str ⟨#[]⟩)])), (some 6), none, [], []⟩, ⟨(.mv (.t 17)), (some 5), none, [], []⟩, ⟨(.store 6 (.t 6) (.t 19)), none, none, [], []⟩] (σ.kills [6]) K := rfl
theorem e_sqSq_6 (C : FuncId → List AV → AV → Prop) (σ : St) (K : St → Prop) : runReg C r_sqSq_6 σ K = runOps C [⟨(.mv (.t 3)), (some 20), none, [22], []⟩, ⟨(.mv (.t 5)), (some 21), none, [22], []⟩, ⟨(.callv (.c (.clo 64 [] [])) [(.t 20), (.t 21)]), (some 22), none, [], []⟩] (σ.kills [22]) K := rfl
theorem e_sqSq_7 (C : FuncId → List AV → AV → Prop) (σ : St) (K : St → Prop) : runReg C r_sqSq_7 σ K = runOps C [⟨(.mv (.t 3)), (some 24), none, [26], []⟩, ⟨(.mv (.t 5)), (some 25), none, [26], []⟩, ⟨(.callv (.c (.clo 61 [] [])) [(.t 24), (.t 25)]), (some 26), none, [], []⟩, ⟨(.mv (.t 26)), (some 23), none, [], []⟩, ⟨(.ext 0 (.t 23)), (some 27), none, [], []⟩, ⟨(.ext 1 (.t 23)), (some 28), none, [], []⟩, ⟨(.mv (.t 27)), (some 7), none, [], []⟩, ⟨(.mv (.t 28)), (some 8), none, [], []⟩] (σ.kills [26]) K := rfl
theorem e_sqSq_8 (C : FuncId → List AV → AV → Prop) (σ : St) (K : St → Prop) : runReg C r_sqSq_8 σ K = runOps C [⟨(.mv (.t 8)), (some 29), none, [], []⟩, ⟨(.mv (.t 29)), (some 30), none, [], []⟩, ⟨(.faddr 1 (.t 6)), (some 31), (some (30, true)), [], []⟩, ⟨(.load 1 false (.t 31)), (some 32), (some (30, true)), [], []⟩, ⟨(.bin .neq (.t 32) (.c (.int .i64 4))), (some 33), (some (30, true)), [], []⟩, ⟨(.pick (.t 30) (.t 33) (.c (.bool false))), (some 34), none, [], []⟩] (σ.kills []) K := rfl
theorem e_sqSq_9 (C : FuncId → List AV → AV → Prop) (σ : St) (K : St → Prop) : runReg C r_sqSq_9 σ K = runHead C [] [⟨(.mv (.t 43)), (some 10), none, [], []⟩] [⟨(.load 6 true (.t 6)), (some 36), none, [41, 9], []⟩, ⟨(.mv (.t 3)), (some 37), none, [41, 9], []⟩, ⟨(.mv (.t 7)), (some 38), none, [41, 9], []⟩, ⟨(.iaddr 6 (.t 37) (.t 38)), (some 39), none, [41, 9], []⟩, ⟨(.load 6 true (.t 39)), (some 40), none, [41, 9], []⟩, ⟨(.callv (.c (.clo 82 [] [])) [(.t 36), (.t 40)]), (some 41), none, [9], []⟩, ⟨(.mv (.t 41)), (some 35), none, [9], []⟩, ⟨(.ext 0 (.t 35)), (some 42), none, [9], []⟩, ⟨(.ext 1 (.t 35)), (some 43), none, [9, 9], []⟩, ⟨(.alloc 6 55 (.agg [(.int .i64 0), (.int .i64 0), (.str ⟨#[]⟩), (.str ⟨#[]⟩), (.bool false), (.str ⟨#[]⟩)])), (some 9), none, [41], []⟩, ⟨(.store 6 (.t 9) (.t 42)), none, none, [], [9]⟩] (σ.kills [41, 9]) K := rfl
theorem e_sqSq_10 (C : FuncId → List AV → AV → Prop) (σ : St) (K : St → Prop) : runReg C r_sqSq_10 σ K = runOps C [⟨(.mv (.t 10)), (some 44), none, [], []⟩] (σ.kills []) K := rfl
theorem e_sqSq_11 (C : FuncId → List AV → AV → Prop) (σ : St) (K : St → Prop) : runReg C r_sqSq_11 σ K = runOps C [⟨(.mv (.t 3)), (some 45), none, [], []⟩, ⟨(.mv (.t 7)), (some 46), none, [], []⟩, ⟨(.load 6 true (.t 9)), (some 47), none, [], []⟩, ⟨(.iaddr 6 (.t 45) (.t 46)), (some 48), none, [], []⟩, ⟨(.store 6 (.t 48) (.t 47)), none, none, [], []⟩] (σ.kills []) K := rfl
theorem e_sqSq_12 (C : FuncId → List AV → AV → Prop) (σ : St) (K : St → Prop) : runReg C r_sqSq_12 σ K = runOps C [⟨(.mv (.t 4)), (some 49), none, [51], []⟩, ⟨(.load 6 true (.t 6)), (some 50), none, [51], []⟩, ⟨(.bsl 6 55 [(.t 50)]), (some 51), none, [], []⟩, ⟨(.append 6 55 72 (.t 49) (.t 51)), (some 52), none, [], []⟩, ⟨(.mv (.t 52)), (some 4), none, [], []⟩] (σ.kills [51]) K := rfl
theorem e_sqSq_13 (C : FuncId → List AV → AV → Prop) (σ : St) (K : St → Prop) : runReg C r_sqSq_13 σ K = runOps C [⟨(.bin .add (.t 15) (.c (.int .i64 1))), (some 53), none, [], []⟩, ⟨(.mv (.t 53)), (some 15), none, [], []⟩] (σ.kills []) K := rfl
theorem e_sqSq_15 (C : FuncId → List AV → AV → Prop) (σ : St) (K : St → Prop) : runReg C r_sqSq_15 σ K = runOps C [⟨(.mv (.t 4)), (some 54), none, [], []⟩, ⟨(.mv (.t 54)), (some 2), none, [], []⟩] (σ.kills []) K := rfl
theorem fn_sqSq {args : List AV} {r : AV} (ha : args.length.ble Try.f29.ntmps = true) (h : run (AFn Try.prog) ir_sqSq (endQ res_sqSq r) (initSt args)) : AFn Try.prog 29 args r :=
  AFn.of_code (hint := fun _ => []) (c := Try.f29.body.getD .skip) (by kernel_rfl) (by kernel_rfl) Try.func29 (by kernel_rfl) (by kernel_rfl) (by kernel_rfl) (of_decide_eq_true (by kernel_rfl)) (Nat.le_of_ble_eq_true ha) (run_ok h)

attribute [local go_sem ↓] ir_sqSq
attribute [local go_sem] res_sqSq e_sqSq_0 e_sqSq_1 e_sqSq_2 e_sqSq_3 e_sqSq_4 e_sqSq_5 e_sqSq_6 e_sqSq_7 e_sqSq_8 e_sqSq_9 e_sqSq_10 e_sqSq_11 e_sqSq_12 e_sqSq_13 e_sqSq_15

theorem msg_cells (l : List Msg) : ∀ d, d ∈ l.map Msg.a → d.cells.length = 6 ∧ d.cells.all AV.one = true := by
  intro d hd
  obtain ⟨x, _, rfl⟩ := List.mem_map.1 hd
  exact ⟨rfl, rfl⟩
theorem on_size (m : Msg) (k : ByteArray) : (m.on k).val.size ≤ m.val.size := by
  unfold Msg.on Eff.none
  split
  · split
    · exact Nat.le_refl _
    · split <;> exact Nat.zero_le _
  · exact Nat.zero_le _
theorem tail16_size (s : ByteArray) : (tail16 s).size ≤ 16 := by
  unfold tail16
  rw [ByteArray.size_extract]
  omega
theorem thenC_size (a b : Eff) {n : Nat} (hn : 16 ≤ n) (ha : a.val.size ≤ n) (hb : b.val.size ≤ n) : (a.thenC b).val.size ≤ n := by
  unfold Eff.thenC
  split
  · exact ha
  · split
    · exact hb
    · exact Nat.le_trans (tail16_size _) hn
theorem joinF_ok {a b : Msg} (h : (joinF a b).2 = true) (ha : a.val.size ≤ 4611686018427387903) (hb : b.val.size ≤ 4611686018427387903) : (joinF a b).1.key = b.key ∧ (joinF a b).1.val.size ≤ 4611686018427387903 := by
  unfold joinF at h ⊢
  split
  · exact ⟨rfl, hb⟩
  · rename_i h1
    rw [if_neg h1] at h
    split
    · rename_i h2; rw [if_pos h2] at h; cases h
    · exact ⟨rfl, thenC_size _ _ (by omega) (Nat.le_trans (on_size _ _) ha) (Nat.le_trans (on_size _ _) hb)⟩
theorem squeeze_ok (l : List Msg) (hl : ROk l) : AFn Try.prog 29 [.sl (l.map Msg.a)] (.own 6 55 ((squeezeF l).map Msg.a)) := by
  refine fn_sqSq rfl ?_
  simp (maxSteps := 4000000) only [go_sem, ↓reduceIte, reduceCtorEq, Nat.reduceEqDiff, Nat.reduceBEq, Nat.reduceAdd, Nat.reduceSub, Nat.reduceMul, Nat.reduceLT, Nat.reduceLeDiff, Nat.reduceBNe, Int.reduceBEq, Int.reduceBNe, Int.reduceLT, Int.reduceLE, Spn.a, Msg.a, Eff.a]
  (first | refine calling (cloneAny (l.map Msg.a) (by rw [List.length_map]; exact hl.1) (msg_cells l)) ?_ | refine callingH (cloneAny (l.map Msg.a) (by rw [List.length_map]; exact hl.1) (msg_cells l)) ?_)
  simp (maxSteps := 4000000) only [go_sem, ↓reduceIte, reduceCtorEq, Nat.reduceEqDiff, Nat.reduceBEq, Nat.reduceAdd, Nat.reduceSub, Nat.reduceMul, Nat.reduceLT, Nat.reduceLeDiff, Nat.reduceBNe, Int.reduceBEq, Int.reduceBNe, Int.reduceLT, Int.reduceLE, Spn.a, Msg.a, Eff.a, List.length_map]
  refine run_loop (sqInv l.length (squeezeF l)) (k := l.length) ⟨0, l, [], rfl, by omega, rfl, hl, by simp, ?_, ?_, ?_, ?_, ?_, ?_, ?_, ?_⟩ ?_
  · simp (maxSteps := 4000000) only [go_sem, ↓reduceIte, reduceCtorEq, Nat.reduceEqDiff, Nat.reduceBEq, Nat.reduceAdd, Nat.reduceSub, Nat.reduceMul, Nat.reduceLT, Nat.reduceLeDiff, Nat.reduceBNe, Int.reduceBEq, Int.reduceBNe, Int.reduceLT, Int.reduceLE, Spn.a, Msg.a, Eff.a, List.length_map]
  · simp (maxSteps := 4000000) only [go_sem, ↓reduceIte, reduceCtorEq, Nat.reduceEqDiff, Nat.reduceBEq, Nat.reduceAdd, Nat.reduceSub, Nat.reduceMul, Nat.reduceLT, Nat.reduceLeDiff, Nat.reduceBNe, Int.reduceBEq, Int.reduceBNe, Int.reduceLT, Int.reduceLE, Spn.a, Msg.a, Eff.a, List.length_map]
  · simp (maxSteps := 4000000) only [go_sem, ↓reduceIte, reduceCtorEq, Nat.reduceEqDiff, Nat.reduceBEq, Nat.reduceAdd, Nat.reduceSub, Nat.reduceMul, Nat.reduceLT, Nat.reduceLeDiff, Nat.reduceBNe, Int.reduceBEq, Int.reduceBNe, Int.reduceLT, Int.reduceLE, Spn.a, Msg.a, Eff.a, List.length_map]
  · simp (maxSteps := 4000000) only [go_sem, ↓reduceIte, reduceCtorEq, Nat.reduceEqDiff, Nat.reduceBEq, Nat.reduceAdd, Nat.reduceSub, Nat.reduceMul, Nat.reduceLT, Nat.reduceLeDiff, Nat.reduceBNe, Int.reduceBEq, Int.reduceBNe, Int.reduceLT, Int.reduceLE, Spn.a, Msg.a, Eff.a, List.length_map]
    rfl
  · simp (maxSteps := 4000000) only [go_sem, ↓reduceIte, reduceCtorEq, Nat.reduceEqDiff, Nat.reduceBEq, Nat.reduceAdd, Nat.reduceSub, Nat.reduceMul, Nat.reduceLT, Nat.reduceLeDiff, Nat.reduceBNe, Int.reduceBEq, Int.reduceBNe, Int.reduceLT, Int.reduceLE, Spn.a, Msg.a, Eff.a, List.length_map]
  · simp (maxSteps := 4000000) only [go_sem, ↓reduceIte, reduceCtorEq, Nat.reduceEqDiff, Nat.reduceBEq, Nat.reduceAdd, Nat.reduceSub, Nat.reduceMul, Nat.reduceLT, Nat.reduceLeDiff, Nat.reduceBNe, Int.reduceBEq, Int.reduceBNe, Int.reduceLT, Int.reduceLE, Spn.a, Msg.a, Eff.a, List.length_map]
  · simp (maxSteps := 4000000) only [go_sem, ↓reduceIte, reduceCtorEq, Nat.reduceEqDiff, Nat.reduceBEq, Nat.reduceAdd, Nat.reduceSub, Nat.reduceMul, Nat.reduceLT, Nat.reduceLeDiff, Nat.reduceBNe, Int.reduceBEq, Int.reduceBNe, Int.reduceLT, Int.reduceLE, Spn.a, Msg.a, Eff.a, List.length_map]
  · unfold squeezeF; rfl
  rintro k σ ⟨i, rest, out, hn, hi, rfl, hok, ho, t3, t13, t14, t15, o12, t4, o4, hr⟩
  simp only [r_sqSq_l14]
  by_cases hlt : i < l.length
  · have hlt' : (i : Int) < (l.length : Int) := by omega
    obtain ⟨m, hm⟩ : ∃ x, rest[i]? = some x := ⟨_, List.getElem?_eq_getElem (by omega)⟩
    have hg : ∀ (j : Nat) (x : Msg), rest[j]? = some x → (rest.map Msg.a).getD j .und = .agg [.int .i64 x.stamp, .int .i64 x.kind, .str x.key, .str x.hi, .bool x.op, .str x.val] := fun j x hx => by rw [List.getD_eq_getElem?_getD, List.getElem?_map, hx]; rfl
    have hgi := hg i m hm
    have ht : (rest.map Msg.a).take l.length = rest.map Msg.a := List.take_of_length_le (by rw [List.length_map, hn]; exact Nat.le_refl _)
    have hw : IntKind.i64.wrap ((i : Int) + 1) = ((i + 1 : Nat) : Int) := by rw [IntWalk.i64_in _ (by have := hl.1; omega)]; rfl
    rw [show l.length - i = (l.length - (i + 1)) + 1 by omega, sqGo, hm] at hr
    simp only at hr
    simp (maxSteps := 4000000) only [go_sem, ↓reduceIte, reduceCtorEq, Nat.reduceEqDiff, Nat.reduceBEq, Nat.reduceAdd, Nat.reduceSub, Nat.reduceMul, Nat.reduceLT, Nat.reduceLeDiff, Nat.reduceBNe, Int.reduceBEq, Int.reduceBNe, Int.reduceLT, Int.reduceLE, Spn.a, Msg.a, Eff.a, t3, t13, t14, t15, o12, t4, o4, hlt', List.length_map, Int.toNat_natCast, hgi, ht]
    refine ⟨by omega, by omega, ?_⟩
    (first | refine calling (dead_in rest i hok.ok (by omega)) ?_ | refine callingH (dead_in rest i hok.ok (by omega)) ?_)
    have hto : (out.map Msg.a).take out.length = out.map Msg.a := List.take_of_length_le (by rw [List.length_map]; exact Nat.le_refl _)
    have ho1 : out.length * 72 + 72 ≤ 140737488355328 := by have := hl.1; omega
    cases hd : dead rest i with
    | true =>
      rw [hd, if_pos rfl] at hr
      simp (maxSteps := 4000000) only [go_sem, ↓reduceIte, reduceCtorEq, Nat.reduceEqDiff, Nat.reduceBEq, Nat.reduceAdd, Nat.reduceSub, Nat.reduceMul, Nat.reduceLT, Nat.reduceLeDiff, Nat.reduceBNe, Int.reduceBEq, Int.reduceBNe, Int.reduceLT, Int.reduceLE, Spn.a, Msg.a, Eff.a, t3, t13, t14, t15, o12, t4, o4, hw]
      refine ⟨l.length - (i + 1), by omega, i + 1, rest, out, hn, by omega, rfl, hok, by omega, ?_, ?_, ?_, ?_, ?_, ?_, ?_, hr⟩ <;>
        (simp (maxSteps := 4000000) only [go_sem, ↓reduceIte, reduceCtorEq, Nat.reduceEqDiff, Nat.reduceBEq, Nat.reduceAdd, Nat.reduceSub, Nat.reduceMul, Nat.reduceLT, Nat.reduceLeDiff, Nat.reduceBNe, Int.reduceBEq, Int.reduceBNe, Int.reduceLT, Int.reduceLE, Spn.a, Msg.a, Eff.a, t3, t13, t14, t15, o12, t4, o4, hw])
    | false =>
      rw [hd, if_neg (by simp)] at hr
      simp (maxSteps := 4000000) only [go_sem, ↓reduceIte, reduceCtorEq, Nat.reduceEqDiff, Nat.reduceBEq, Nat.reduceAdd, Nat.reduceSub, Nat.reduceMul, Nat.reduceLT, Nat.reduceLeDiff, Nat.reduceBNe, Int.reduceBEq, Int.reduceBNe, Int.reduceLT, Int.reduceLE, Spn.a, Msg.a, Eff.a, t3, t13, t14, t15, o12, t4, o4, hw, ht]
      (first | refine calling (next_in rest i hok.ok (by omega)) ?_ | refine callingH (next_in rest i hok.ok (by omega)) ?_)
      cases hx : nextOf rest i with
      | none =>
        rw [hx] at hr
        simp only at hr
        simp (maxSteps := 4000000) only [go_sem, ↓reduceIte, reduceCtorEq, Nat.reduceEqDiff, Nat.reduceBEq, Nat.reduceAdd, Nat.reduceSub, Nat.reduceMul, Nat.reduceLT, Nat.reduceLeDiff, Nat.reduceBNe, Int.reduceBEq, Int.reduceBNe, Int.reduceLT, Int.reduceLE, Spn.a, Msg.a, Eff.a, ansOf, t3, t13, t14, t15, o12, t4, o4, hw, List.length_map]
        refine ⟨⟨⟨by omega, by omega⟩, fun d hd' => by rcases hd' with rfl | hd'; exact ⟨rfl, rfl⟩; cases hd'⟩, ?_⟩
        refine ⟨l.length - (i + 1), by omega, i + 1, rest, out ++ [m], hn, by omega, rfl, hok, by rw [List.length_append]; simp; omega, ?_, ?_, ?_, ?_, ?_, ?_, ?_, hr⟩ <;>
          (simp (maxSteps := 4000000) only [go_sem, ↓reduceIte, reduceCtorEq, Nat.reduceEqDiff, Nat.reduceBEq, Nat.reduceAdd, Nat.reduceSub, Nat.reduceMul, Nat.reduceLT, Nat.reduceLeDiff, Nat.reduceBNe, Int.reduceBEq, Int.reduceBNe, Int.reduceLT, Int.reduceLE, Spn.a, Msg.a, Eff.a, ansOf, t3, t13, t14, t15, o12, t4, o4, hw, hto, List.length_append, List.map_append])
      | some j =>
        obtain ⟨hij, x, hxj⟩ := nextOf_lt hx
        have hgj := hg j x hxj
        have hjl := (List.getElem?_eq_some_iff.1 hxj).1
        rw [hx] at hr
        simp only [hxj] at hr
        cases h4 : (m.kind != 4) with
        | false =>
          have h4' : m.kind = 4 := by simpa using h4
          rw [if_pos h4'] at hr
          simp (maxSteps := 4000000) only [go_sem, ↓reduceIte, reduceCtorEq, Nat.reduceEqDiff, Nat.reduceBEq, Nat.reduceAdd, Nat.reduceSub, Nat.reduceMul, Nat.reduceLT, Nat.reduceLeDiff, Nat.reduceBNe, Int.reduceBEq, Int.reduceBNe, Int.reduceLT, Int.reduceLE, Spn.a, Msg.a, Eff.a, ansOf, t3, t13, t14, t15, o12, t4, o4, hw, List.length_map, h4]
          refine ⟨⟨⟨by omega, by omega⟩, fun d hd' => by rcases hd' with rfl | hd'; exact ⟨rfl, rfl⟩; cases hd'⟩, ?_⟩
          refine ⟨l.length - (i + 1), by omega, i + 1, rest, out ++ [m], hn, by omega, rfl, hok, by rw [List.length_append]; simp; omega, ?_, ?_, ?_, ?_, ?_, ?_, ?_, hr⟩ <;>
            (simp (maxSteps := 4000000) only [go_sem, ↓reduceIte, reduceCtorEq, Nat.reduceEqDiff, Nat.reduceBEq, Nat.reduceAdd, Nat.reduceSub, Nat.reduceMul, Nat.reduceLT, Nat.reduceLeDiff, Nat.reduceBNe, Int.reduceBEq, Int.reduceBNe, Int.reduceLT, Int.reduceLE, Spn.a, Msg.a, Eff.a, ansOf, t3, t13, t14, t15, o12, t4, o4, hw, hto, List.length_append, List.map_append])
        | true =>
          have h4' : m.kind ≠ 4 := by simpa using h4
          rw [if_neg h4'] at hr
          have hj3 : (j : Int) < (l.length : Int) := by omega
          simp (maxSteps := 4000000) only [go_sem, ↓reduceIte, reduceCtorEq, Nat.reduceEqDiff, Nat.reduceBEq, Nat.reduceAdd, Nat.reduceSub, Nat.reduceMul, Nat.reduceLT, Nat.reduceLeDiff, Nat.reduceBNe, Int.reduceBEq, Int.reduceBNe, Int.reduceLT, Int.reduceLE, Spn.a, Msg.a, Eff.a, ansOf, t3, t13, t14, t15, o12, t4, o4, hw, List.length_map, h4, hgj, Int.toNat_natCast, hj3]
          refine ⟨by omega, by omega, ?_⟩
          (first | refine calling (msgJoin m x (hok.2 m (List.mem_of_getElem? hm)).1 (hok.2 x (List.mem_of_getElem? hxj)).1 (by have h1 := (hok.2 m (List.mem_of_getElem? hm)).2; have h2 := (hok.2 x (List.mem_of_getElem? hxj)).2; omega)) ?_ | refine callingH (msgJoin m x (hok.2 m (List.mem_of_getElem? hm)).1 (hok.2 x (List.mem_of_getElem? hxj)).1 (by have h1 := (hok.2 m (List.mem_of_getElem? hm)).2; have h2 := (hok.2 x (List.mem_of_getElem? hxj)).2; omega)) ?_)
          cases hq : (joinF m x).2 with
          | false =>
            rw [hq, if_neg (by simp)] at hr
            simp (maxSteps := 4000000) only [go_sem, ↓reduceIte, reduceCtorEq, Nat.reduceEqDiff, Nat.reduceBEq, Nat.reduceAdd, Nat.reduceSub, Nat.reduceMul, Nat.reduceLT, Nat.reduceLeDiff, Nat.reduceBNe, Int.reduceBEq, Int.reduceBNe, Int.reduceLT, Int.reduceLE, Spn.a, Msg.a, Eff.a, ansOf, t3, t13, t14, t15, o12, t4, o4, hw, List.length_map, h4, hgj, Int.toNat_natCast, hj3]
            refine ⟨⟨⟨by omega, by omega⟩, fun d hd' => by rcases hd' with rfl | hd'; exact ⟨rfl, rfl⟩; cases hd'⟩, ?_⟩
            refine ⟨l.length - (i + 1), by omega, i + 1, rest, out ++ [m], hn, by omega, rfl, hok, by rw [List.length_append]; simp; omega, ?_, ?_, ?_, ?_, ?_, ?_, ?_, hr⟩ <;>
              (simp (maxSteps := 4000000) only [go_sem, ↓reduceIte, reduceCtorEq, Nat.reduceEqDiff, Nat.reduceBEq, Nat.reduceAdd, Nat.reduceSub, Nat.reduceMul, Nat.reduceLT, Nat.reduceLeDiff, Nat.reduceBNe, Int.reduceBEq, Int.reduceBNe, Int.reduceLT, Int.reduceLE, Spn.a, Msg.a, Eff.a, ansOf, t3, t13, t14, t15, o12, t4, o4, hw, hto, List.length_append, List.map_append])
          | true =>
            rw [hq, if_pos rfl] at hr
            simp (maxSteps := 4000000) only [go_sem, ↓reduceIte, reduceCtorEq, Nat.reduceEqDiff, Nat.reduceBEq, Nat.reduceAdd, Nat.reduceSub, Nat.reduceMul, Nat.reduceLT, Nat.reduceLeDiff, Nat.reduceBNe, Int.reduceBEq, Int.reduceBNe, Int.reduceLT, Int.reduceLE, Spn.a, Msg.a, Eff.a, ansOf, t3, t13, t14, t15, o12, t4, o4, hw, List.length_map, h4, hgj, Int.toNat_natCast, hj3]
            refine ⟨by omega, by omega, ?_⟩
            have hok2 : ROk (rest.set j (joinF m x).1) := by
              refine ⟨by rw [List.length_set]; exact hok.1, fun y hy => ?_⟩
              rcases List.mem_or_eq_of_mem_set hy with h | h
              · exact hok.2 y h
              · subst h
                obtain ⟨e1, e2⟩ := joinF_ok hq (hok.2 m (List.mem_of_getElem? hm)).2 (hok.2 x (List.mem_of_getElem? hxj)).2
                rw [e1]
                exact ⟨(hok.2 x (List.mem_of_getElem? hxj)).1, e2⟩
            refine ⟨l.length - (i + 1), by omega, i + 1, rest.set j (joinF m x).1, out, by rw [List.length_set]; exact hn, by omega, rfl, hok2, by omega, ?_, ?_, ?_, ?_, ?_, ?_, ?_, hr⟩ <;>
              (simp (maxSteps := 4000000) only [go_sem, ↓reduceIte, reduceCtorEq, Nat.reduceEqDiff, Nat.reduceBEq, Nat.reduceAdd, Nat.reduceSub, Nat.reduceMul, Nat.reduceLT, Nat.reduceLeDiff, Nat.reduceBNe, Int.reduceBEq, Int.reduceBNe, Int.reduceLT, Int.reduceLE, Spn.a, Msg.a, Eff.a, ansOf, t3, t13, t14, t15, o12, t4, o4, hw, hgj, List.map_set])
  · have hlt' : ¬ (i : Int) < (l.length : Int) := by omega
    rw [show l.length - i = 0 by omega, sqGo] at hr
    simp (maxSteps := 4000000) only [go_sem, ↓reduceIte, reduceCtorEq, Nat.reduceEqDiff, Nat.reduceBEq, Nat.reduceAdd, Nat.reduceSub, Nat.reduceMul, Nat.reduceLT, Nat.reduceLeDiff, Nat.reduceBNe, Int.reduceBEq, Int.reduceBNe, Int.reduceLT, Int.reduceLE, Spn.a, Msg.a, Eff.a, t3, t13, t14, t15, o12, t4, o4, hlt', List.length_map]
    rw [hr]
end Go.Proofs.Ytdjkefndigijjaa
