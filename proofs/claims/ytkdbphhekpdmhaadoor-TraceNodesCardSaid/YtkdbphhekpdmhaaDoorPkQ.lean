/-
  Layer 7 on the plain machine: an operation as a line: the code, walked.
-/
import Derived.Test.YtkdbphhekpdmhaaDoorPkK2
import Derived.Test.YtkdbphhekpdmhaaDoorPkP0
namespace Go.Proofs.YtkdbphhekpdmhaaDoor
open Go.RowKit
set_option linter.unusedVariables false
set_option linter.unusedSimpArgs false
set_option maxRecDepth 100000
attribute [local go_sem ↓] runOp headOp
attribute [local go_sem] ev0 ev1 ev2 ev3 ev4 evA stHOk.eq_1 stHOk.eq_2 stHSt.eq_1 stHSt.eq_2 okV valV fzV okF valF okBld valBld mxOk.eq_1 mxOk.eq_2 mxVal.eq_1 mxVal.eq_2 cellFit.eq_1 cellFit.eq_2 cellFit.eq_3 cellEq.eq_1 cellEq.eq_2 cellEq.eq_3 upd_at AV.flatB AV.flatBs binIok binIV binSok binSV cellsOk.eq_1 cellsOk.eq_2 cellsVal.eq_1 cellsVal.eq_2 objCells.eq_1 objCells.eq_2 objZ.eq_1 objZ.eq_2 objProt.eq_1 objProt.eq_2 oneObj ptrOk.eq_1 ptrOk.eq_2 ptrOk.eq_3 ptrCells.eq_1 ptrCells.eq_2 ptrCells.eq_3 lenOk.eq_1 lenOk.eq_2 lenOk.eq_3 lenOk.eq_4 lenVal.eq_1 lenVal.eq_2 lenVal.eq_3 lenVal.eq_4 faOk.eq_1 faOk.eq_2 faOk.eq_3 faVal.eq_1 faVal.eq_2 faVal.eq_3 iaOk.eq_1 iaOk.eq_2 iaOk.eq_3 iaVal.eq_1 iaVal.eq_2 iaVal.eq_3 slcLen.eq_1 slcLen.eq_2 slcLen.eq_3 slcLen.eq_4 bdOk.eq_1 bdOk.eq_2 bdVal.eq_1 bdVal.eq_2 slcOk.eq_1 slcOk.eq_2 slcOk.eq_3 slcOk.eq_4 slcVal.eq_1 slcVal.eq_2 slcVal.eq_3 slcVal.eq_4 slcFz.eq_1 slcFz.eq_2 byOk.eq_1 byOk.eq_2 byOk.eq_3 byOk.eq_4 byOk.eq_5 byOk.eq_6 byOk.eq_7 byVal.eq_1 byVal.eq_2 byVal.eq_3 byFz.eq_1 byFz.eq_2 byFz.eq_3 byOks byVals byFzs allOne resSt.eq_1 resSt.eq_2 resName.eq_1 resName.eq_2 stOk.eq_1 stOk.eq_2 stArr.eq_1 stArr.eq_2 stSt.eq_1 stSt.eq_2 AV.patch nameOk_none gB.eq_1 gB.eq_2 gB.eq_3 gIs.eq_1 gIs.eq_2 gIs.eq_3 retV resV resVs evalV cellsV St.byval List.getD_cons_zero List.getD_cons_succ List.getD_nil List.map_cons List.map_nil List.length_cons List.length_nil List.take_succ_cons List.take_zero List.drop_succ_cons List.drop_zero List.headD_cons List.set_cons_zero List.append_nil List.nil_append List.cons_append List.contains_cons List.contains_nil List.elem_cons List.elem_nil List.all_cons List.all_nil List.getElem?_cons_zero List.getElem?_cons_succ List.filterMap_cons List.filterMap_nil Option.isSome_some Option.isSome_none Option.map_some Option.map_none Option.some.injEq AV.int.injEq AV.bool.injEq AV.str.injEq AV.tup.injEq AV.agg.injEq AV.sl.injEq List.cons.injEq Bool.false_eq_true Bool.true_eq_false Bool.not_true Bool.not_false Bool.and_true Bool.true_and Bool.or_false Bool.or_true Bool.false_or Bool.true_or Bool.or_self Bool.and_self Bool.not_eq_true' Bool.not_eq_false' Bool.not_not beq_self_eq_true true_and and_true false_and and_false and_self not_true_eq_false not_false_eq_true forall_const true_implies false_implies implies_true imp_self Nat.lt_add_one Nat.le_refl Nat.zero_le Nat.add_zero Nat.zero_add decide_true decide_false decide_eq_true_eq decide_eq_false_iff_not exists_eq_left exists_eq_left' ge_iff_le gt_iff_lt ite_branch ite_branch' nilOk.eq_1 nilOk.eq_2 nilMay.eq_1 nilMay.eq_2 AV.isSl.eq_1 objTy'.eq_1 objTy'.eq_2 apSt.eq_1 apArr.eq_1 apArr.eq_2 slOf.eq_1 fitsV List.mem_cons List.not_mem_nil Bool.false_and Bool.and_false primOk.eq_1 primOk.eq_2 primOk.eq_3 primOk.eq_4 primOk.eq_5 primVal.eq_1 primVal.eq_2 primVal.eq_3 primVal.eq_4 primVal.eq_5 mOk.eq_1 mOk.eq_2 mVal.eq_1 mVal.eq_2 mFz.eq_1 mFz.eq_2 mOks mVals mFzs mCalOk.eq_1 mCalOk.eq_2 mFn.eq_1 mFn.eq_2 mArgs.eq_1 mArgs.eq_2 ckOk.eq_1 ckOk.eq_2 cloOk.eq_1 ptrAt.eq_1 sh.eq_1 sh.eq_2 sh.eq_3 sh.eq_4 sh.eq_5 retM shH_small
def kindW (k : Int) : ByteArray := if k == 1 then ⟨#[112, 117, 116]⟩ else if k == 2 then ⟨#[97, 100, 100]⟩ else if k == 3 then ⟨#[100, 101, 108]⟩ else if k == 4 then ⟨#[119, 105, 112, 101]⟩ else if k == 5 then ⟨#[103, 101, 116]⟩ else ⟨#[115, 99, 97, 110]⟩
/-- the words of an operation that may be -/
def lineW (o : Opr) : List ByteArray :=
  [kindW o.kind, quoteF o.key] ++ (if o.valued then [quoteF o.val] else if o.ranged then (if o.op then [⟨#[42]⟩] else [quoteF o.hi]) else []) ++ (if o.kind == 6 then [decS o.lim] else [])
def lineO (o : Opr) : ByteArray := joinB (lineW o) ⟨#[32]⟩
/-! ### percolate/op.names -/
def r_oNames_0 : Reg := ⟨[], [⟨(.mknil 1 9), (some 0), none, [], []⟩], [0], [], false⟩
def r_oNames_1 : Reg := ⟨[], [⟨(.bsl 1 9 [(.c (.str ⟨#[98, 97, 100]⟩)), (.c (.str ⟨#[112, 117, 116]⟩)), (.c (.str ⟨#[97, 100, 100]⟩)), (.c (.str ⟨#[100, 101, 108]⟩)), (.c (.str ⟨#[119, 105, 112, 101]⟩)), (.c (.str ⟨#[103, 101, 116]⟩)), (.c (.str ⟨#[115, 99, 97, 110]⟩))]), (some 1), none, [], []⟩, ⟨(.mv (.t 1)), (some 0), none, [], []⟩], [1], [], false⟩
def ir_oNames : IR := (.seq (.reg r_oNames_0)
  (.seq (.reg r_oNames_1)
  .ret))
def res_oNames : List RDesc := [(.tmp 0)]
theorem e_oNames_0 (C : FuncId → List AV → AV → Prop) (σ : St) (K : St → Prop) : runReg C r_oNames_0 σ K = runOps C [⟨(.mknil 1 9), (some 0), none, [], []⟩] (σ.kills [0]) K := rfl
theorem e_oNames_1 (C : FuncId → List AV → AV → Prop) (σ : St) (K : St → Prop) : runReg C r_oNames_1 σ K = runOps C [⟨(.bsl 1 9 [(.c (.str ⟨#[98, 97, 100]⟩)), (.c (.str ⟨#[112, 117, 116]⟩)), (.c (.str ⟨#[97, 100, 100]⟩)), (.c (.str ⟨#[100, 101, 108]⟩)), (.c (.str ⟨#[119, 105, 112, 101]⟩)), (.c (.str ⟨#[103, 101, 116]⟩)), (.c (.str ⟨#[115, 99, 97, 110]⟩))]), (some 1), none, [], []⟩, ⟨(.mv (.t 1)), (some 0), none, [], []⟩] (σ.kills [1]) K := rfl
theorem fn_oNames {args : List AV} {r : AV} (ha : args.length.ble Tryd.f106.ntmps = true) (h : run (AFn Tryd.prog) ir_oNames (endQ res_oNames r) (initSt args)) : AFn Tryd.prog 106 args r :=
  AFn.of_code (hint := fun _ => []) (c := Tryd.f106.body.getD .skip) (by kernel_rfl) (by kernel_rfl) Tryd.func106 (by kernel_rfl) (by kernel_rfl) (by kernel_rfl) (of_decide_eq_true (by kernel_rfl)) (Nat.le_of_ble_eq_true ha) (Nat.le_of_ble_eq_true (by kernel_rfl)) (run_ok h)

/-! ### percolate/op.Line -/
def r_oLine_0 : Reg := ⟨[], [⟨(.box 6 48 (.t 0)), (some 1), none, [], []⟩, ⟨(.mv (.c (.str ⟨#[]⟩))), (some 2), none, [], []⟩], [1], [], false⟩
def r_oLine_1 : Reg := ⟨[], [⟨(.load 6 true (.t 1)), (some 4), none, [5], []⟩, ⟨(.callv (.c (.clo 105 [] [])) [(.t 4)]), (some 5), none, [], []⟩, ⟨(.bin .neq (.t 5) (.c (.int .i64 0))), (some 6), none, [], []⟩], [5], [], false⟩
def r_oLine_2 : Reg := ⟨[], [⟨(.mv (.c (.str ⟨#[98, 97, 100]⟩))), (some 2), none, [], []⟩], [], [], false⟩
def r_oLine_3 : Reg := ⟨[⟨(.callv (.c (.clo 106 [] [])) []), (some 7), none, [14, 15], []⟩, ⟨(.faddr 0 (.t 1)), (some 8), none, [7, 14, 15], []⟩, ⟨(.load 1 false (.t 8)), (some 9), none, [7, 14, 15], []⟩, ⟨(.iaddr 1 (.t 7) (.t 9)), (some 10), none, [14, 15], []⟩, ⟨(.load 1 false (.t 10)), (some 11), none, [14, 15], []⟩, ⟨(.faddr 1 (.t 1)), (some 12), none, [7, 14, 15], []⟩, ⟨(.load 1 false (.t 12)), (some 13), none, [7, 14, 15], []⟩, ⟨(.callv (.c (.clo 61 [] [])) [(.t 13)]), (some 14), none, [15], []⟩], [⟨(.bsl 1 9 [(.t 11), (.t 14)]), (some 15), none, [], []⟩, ⟨(.mv (.t 15)), (some 3), none, [], []⟩], [7, 14, 15], [], true⟩
def r_oLine_4 : Reg := ⟨[], [⟨(.load 6 true (.t 1)), (some 17), none, [18], []⟩, ⟨(.callv (.c (.clo 107 [] [])) [(.t 17)]), (some 18), none, [], []⟩, ⟨(.mv (.t 18)), (some 16), none, [], []⟩], [18], [], false⟩
def r_oLine_5 : Reg := ⟨[], [⟨(.mv (.t 3)), (some 19), none, [22, 23], []⟩, ⟨(.faddr 4 (.t 1)), (some 20), none, [22, 23], []⟩, ⟨(.load 1 false (.t 20)), (some 21), none, [22, 23], []⟩, ⟨(.callv (.c (.clo 61 [] [])) [(.t 21)]), (some 22), none, [23], []⟩, ⟨(.bsl 1 9 [(.t 22)]), (some 23), none, [], []⟩, ⟨(.append 1 9 16 (.t 19) (.t 23)), (some 24), none, [], []⟩, ⟨(.mv (.t 24)), (some 3), none, [], []⟩], [22, 23], [], false⟩
def r_oLine_6 : Reg := ⟨[], [⟨(.load 6 true (.t 1)), (some 26), none, [27], []⟩, ⟨(.callv (.c (.clo 108 [] [])) [(.t 26)]), (some 27), none, [], []⟩, ⟨(.mv (.t 27)), (some 28), none, [], []⟩, ⟨(.faddr 3 (.t 1)), (some 29), (some (28, true)), [], []⟩, ⟨(.load 1 false (.t 29)), (some 30), (some (28, true)), [], []⟩, ⟨(.pick (.t 28) (.t 30) (.c (.bool false))), (some 31), none, [], []⟩, ⟨(.mv (.t 31)), (some 25), none, [], []⟩], [27], [], false⟩
def r_oLine_7 : Reg := ⟨[], [⟨(.mv (.t 3)), (some 32), none, [33], []⟩, ⟨(.bsl 1 9 [(.c (.str ⟨#[42]⟩))]), (some 33), none, [], []⟩, ⟨(.append 1 9 16 (.t 32) (.t 33)), (some 34), none, [], []⟩, ⟨(.mv (.t 34)), (some 3), none, [], []⟩], [33], [], false⟩
def r_oLine_8 : Reg := ⟨[], [⟨(.load 6 true (.t 1)), (some 36), none, [37], []⟩, ⟨(.callv (.c (.clo 108 [] [])) [(.t 36)]), (some 37), none, [], []⟩, ⟨(.mv (.t 37)), (some 35), none, [], []⟩], [37], [], false⟩
def r_oLine_9 : Reg := ⟨[], [⟨(.mv (.t 3)), (some 38), none, [41, 42], []⟩, ⟨(.faddr 2 (.t 1)), (some 39), none, [41, 42], []⟩, ⟨(.load 1 false (.t 39)), (some 40), none, [41, 42], []⟩, ⟨(.callv (.c (.clo 61 [] [])) [(.t 40)]), (some 41), none, [42], []⟩, ⟨(.bsl 1 9 [(.t 41)]), (some 42), none, [], []⟩, ⟨(.append 1 9 16 (.t 38) (.t 42)), (some 43), none, [], []⟩, ⟨(.mv (.t 43)), (some 3), none, [], []⟩], [41, 42], [], false⟩
def r_oLine_10 : Reg := ⟨[], [⟨(.faddr 0 (.t 1)), (some 44), none, [], []⟩, ⟨(.load 1 false (.t 44)), (some 45), none, [], []⟩, ⟨(.bin .eql (.t 45) (.c (.int .i64 6))), (some 46), none, [], []⟩], [], [], false⟩
def r_oLine_11 : Reg := ⟨[], [⟨(.mv (.t 3)), (some 47), none, [50, 51], []⟩, ⟨(.faddr 5 (.t 1)), (some 48), none, [50, 51], []⟩, ⟨(.load 1 false (.t 48)), (some 49), none, [50, 51], []⟩, ⟨(.callv (.c (.clo 56 [] [])) [(.t 49)]), (some 50), none, [51], []⟩, ⟨(.bsl 1 9 [(.t 50)]), (some 51), none, [], []⟩, ⟨(.append 1 9 16 (.t 47) (.t 51)), (some 52), none, [], []⟩, ⟨(.mv (.t 52)), (some 3), none, [], []⟩], [50, 51], [], false⟩
def r_oLine_12 : Reg := ⟨[], [⟨(.mv (.t 3)), (some 53), none, [54], []⟩, ⟨(.callv (.c (.clo 57 [] [])) [(.t 53), (.c (.str ⟨#[32]⟩))]), (some 54), none, [], []⟩, ⟨(.mv (.t 54)), (some 2), none, [], []⟩], [54], [], false⟩
def ir_oLine : IR := (.seq (.reg r_oLine_0)
  (.seq (.seq (.reg r_oLine_1)
  (.cond (.t 6) (.seq (.reg r_oLine_2)
  .ret)
  .skip))
  (.seq (.reg r_oLine_3)
  (.seq (.block 0 (.seq (.reg r_oLine_4)
  (.cond (.t 16) (.reg r_oLine_5)
  (.seq (.reg r_oLine_6)
  (.cond (.t 25) (.reg r_oLine_7)
  (.seq (.reg r_oLine_8)
  (.cond (.t 35) (.reg r_oLine_9)
  .skip)))))))
  (.seq (.seq (.reg r_oLine_10)
  (.cond (.t 46) (.reg r_oLine_11)
  .skip))
  (.seq (.reg r_oLine_12)
  .ret))))))
def res_oLine : List RDesc := [(.tmp 2)]
theorem e_oLine_0 (C : FuncId → List AV → AV → Prop) (σ : St) (K : St → Prop) : runReg C r_oLine_0 σ K = runOps C [⟨(.box 6 48 (.t 0)), (some 1), none, [], []⟩, ⟨(.mv (.c (.str ⟨#[]⟩))), (some 2), none, [], []⟩] (σ.kills [1]) K := rfl
theorem e_oLine_1 (C : FuncId → List AV → AV → Prop) (σ : St) (K : St → Prop) : runReg C r_oLine_1 σ K = runOps C [⟨(.load 6 true (.t 1)), (some 4), none, [5], []⟩, ⟨(.callv (.c (.clo 105 [] [])) [(.t 4)]), (some 5), none, [], []⟩, ⟨(.bin .neq (.t 5) (.c (.int .i64 0))), (some 6), none, [], []⟩] (σ.kills [5]) K := rfl
theorem e_oLine_2 (C : FuncId → List AV → AV → Prop) (σ : St) (K : St → Prop) : runReg C r_oLine_2 σ K = runOps C [⟨(.mv (.c (.str ⟨#[98, 97, 100]⟩))), (some 2), none, [], []⟩] (σ.kills []) K := rfl
theorem e_oLine_3 (C : FuncId → List AV → AV → Prop) (σ : St) (K : St → Prop) : runReg C r_oLine_3 σ K = runHead C [] [⟨(.bsl 1 9 [(.t 11), (.t 14)]), (some 15), none, [], []⟩, ⟨(.mv (.t 15)), (some 3), none, [], []⟩] [⟨(.callv (.c (.clo 106 [] [])) []), (some 7), none, [14, 15], []⟩, ⟨(.faddr 0 (.t 1)), (some 8), none, [7, 14, 15], []⟩, ⟨(.load 1 false (.t 8)), (some 9), none, [7, 14, 15], []⟩, ⟨(.iaddr 1 (.t 7) (.t 9)), (some 10), none, [14, 15], []⟩, ⟨(.load 1 false (.t 10)), (some 11), none, [14, 15], []⟩, ⟨(.faddr 1 (.t 1)), (some 12), none, [7, 14, 15], []⟩, ⟨(.load 1 false (.t 12)), (some 13), none, [7, 14, 15], []⟩, ⟨(.callv (.c (.clo 61 [] [])) [(.t 13)]), (some 14), none, [15], []⟩] (σ.kills [7, 14, 15]) K := rfl
theorem e_oLine_4 (C : FuncId → List AV → AV → Prop) (σ : St) (K : St → Prop) : runReg C r_oLine_4 σ K = runOps C [⟨(.load 6 true (.t 1)), (some 17), none, [18], []⟩, ⟨(.callv (.c (.clo 107 [] [])) [(.t 17)]), (some 18), none, [], []⟩, ⟨(.mv (.t 18)), (some 16), none, [], []⟩] (σ.kills [18]) K := rfl
theorem e_oLine_5 (C : FuncId → List AV → AV → Prop) (σ : St) (K : St → Prop) : runReg C r_oLine_5 σ K = runOps C [⟨(.mv (.t 3)), (some 19), none, [22, 23], []⟩, ⟨(.faddr 4 (.t 1)), (some 20), none, [22, 23], []⟩, ⟨(.load 1 false (.t 20)), (some 21), none, [22, 23], []⟩, ⟨(.callv (.c (.clo 61 [] [])) [(.t 21)]), (some 22), none, [23], []⟩, ⟨(.bsl 1 9 [(.t 22)]), (some 23), none, [], []⟩, ⟨(.append 1 9 16 (.t 19) (.t 23)), (some 24), none, [], []⟩, ⟨(.mv (.t 24)), (some 3), none, [], []⟩] (σ.kills [22, 23]) K := rfl
theorem e_oLine_6 (C : FuncId → List AV → AV → Prop) (σ : St) (K : St → Prop) : runReg C r_oLine_6 σ K = runOps C [⟨(.load 6 true (.t 1)), (some 26), none, [27], []⟩, ⟨(.callv (.c (.clo 108 [] [])) [(.t 26)]), (some 27), none, [], []⟩, ⟨(.mv (.t 27)), (some 28), none, [], []⟩, ⟨(.faddr 3 (.t 1)), (some 29), (some (28, true)), [], []⟩, ⟨(.load 1 false (.t 29)), (some 30), (some (28, true)), [], []⟩, ⟨(.pick (.t 28) (.t 30) (.c (.bool false))), (some 31), none, [], []⟩, ⟨(.mv (.t 31)), (some 25), none, [], []⟩] (σ.kills [27]) K := rfl
theorem e_oLine_7 (C : FuncId → List AV → AV → Prop) (σ : St) (K : St → Prop) : runReg C r_oLine_7 σ K = runOps C [⟨(.mv (.t 3)), (some 32), none, [33], []⟩, ⟨(.bsl 1 9 [(.c (.str ⟨#[42]⟩))]), (some 33), none, [], []⟩, ⟨(.append 1 9 16 (.t 32) (.t 33)), (some 34), none, [], []⟩, ⟨(.mv (.t 34)), (some 3), none, [], []⟩] (σ.kills [33]) K := rfl
theorem e_oLine_8 (C : FuncId → List AV → AV → Prop) (σ : St) (K : St → Prop) : runReg C r_oLine_8 σ K = runOps C [⟨(.load 6 true (.t 1)), (some 36), none, [37], []⟩, ⟨(.callv (.c (.clo 108 [] [])) [(.t 36)]), (some 37), none, [], []⟩, ⟨(.mv (.t 37)), (some 35), none, [], []⟩] (σ.kills [37]) K := rfl
theorem e_oLine_9 (C : FuncId → List AV → AV → Prop) (σ : St) (K : St → Prop) : runReg C r_oLine_9 σ K = runOps C [⟨(.mv (.t 3)), (some 38), none, [41, 42], []⟩, ⟨(.faddr 2 (.t 1)), (some 39), none, [41, 42], []⟩, ⟨(.load 1 false (.t 39)), (some 40), none, [41, 42], []⟩, ⟨(.callv (.c (.clo 61 [] [])) [(.t 40)]), (some 41), none, [42], []⟩, ⟨(.bsl 1 9 [(.t 41)]), (some 42), none, [], []⟩, ⟨(.append 1 9 16 (.t 38) (.t 42)), (some 43), none, [], []⟩, ⟨(.mv (.t 43)), (some 3), none, [], []⟩] (σ.kills [41, 42]) K := rfl
theorem e_oLine_10 (C : FuncId → List AV → AV → Prop) (σ : St) (K : St → Prop) : runReg C r_oLine_10 σ K = runOps C [⟨(.faddr 0 (.t 1)), (some 44), none, [], []⟩, ⟨(.load 1 false (.t 44)), (some 45), none, [], []⟩, ⟨(.bin .eql (.t 45) (.c (.int .i64 6))), (some 46), none, [], []⟩] (σ.kills []) K := rfl
theorem e_oLine_11 (C : FuncId → List AV → AV → Prop) (σ : St) (K : St → Prop) : runReg C r_oLine_11 σ K = runOps C [⟨(.mv (.t 3)), (some 47), none, [50, 51], []⟩, ⟨(.faddr 5 (.t 1)), (some 48), none, [50, 51], []⟩, ⟨(.load 1 false (.t 48)), (some 49), none, [50, 51], []⟩, ⟨(.callv (.c (.clo 56 [] [])) [(.t 49)]), (some 50), none, [51], []⟩, ⟨(.bsl 1 9 [(.t 50)]), (some 51), none, [], []⟩, ⟨(.append 1 9 16 (.t 47) (.t 51)), (some 52), none, [], []⟩, ⟨(.mv (.t 52)), (some 3), none, [], []⟩] (σ.kills [50, 51]) K := rfl
theorem e_oLine_12 (C : FuncId → List AV → AV → Prop) (σ : St) (K : St → Prop) : runReg C r_oLine_12 σ K = runOps C [⟨(.mv (.t 3)), (some 53), none, [54], []⟩, ⟨(.callv (.c (.clo 57 [] [])) [(.t 53), (.c (.str ⟨#[32]⟩))]), (some 54), none, [], []⟩, ⟨(.mv (.t 54)), (some 2), none, [], []⟩] (σ.kills [54]) K := rfl
theorem fn_oLine {args : List AV} {r : AV} (ha : args.length.ble Tryd.f66.ntmps = true) (h : run (AFn Tryd.prog) ir_oLine (endQ res_oLine r) (initSt args)) : AFn Tryd.prog 66 args r :=
  AFn.of_code (hint := fun _ => []) (c := Tryd.f66.body.getD .skip) (by kernel_rfl) (by kernel_rfl) Tryd.func66 (by kernel_rfl) (by kernel_rfl) (by kernel_rfl) (of_decide_eq_true (by kernel_rfl)) (Nat.le_of_ble_eq_true ha) (Nat.le_of_ble_eq_true (by kernel_rfl)) (run_ok h)

attribute [local go_sem ↓] ir_oNames
attribute [local go_sem] res_oNames e_oNames_0 e_oNames_1
attribute [local go_sem ↓] ir_oLine
attribute [local go_sem] res_oLine e_oLine_0 e_oLine_1 e_oLine_2 e_oLine_3 e_oLine_4 e_oLine_5 e_oLine_6 e_oLine_7 e_oLine_8 e_oLine_9 e_oLine_10 e_oLine_11 e_oLine_12

theorem oNames_ok : AFn Tryd.prog 106 [] (.own 1 9 [.str ⟨#[98, 97, 100]⟩, .str ⟨#[112, 117, 116]⟩, .str ⟨#[97, 100, 100]⟩, .str ⟨#[100, 101, 108]⟩, .str ⟨#[119, 105, 112, 101]⟩, .str ⟨#[103, 101, 116]⟩, .str ⟨#[115, 99, 97, 110]⟩]) := by
  refine fn_oNames rfl ?_
  simp (maxSteps := 4000000) only [go_sem, ↓reduceIte, reduceCtorEq, Nat.reduceEqDiff, Nat.reduceBEq, Nat.reduceAdd, Nat.reduceSub, Nat.reduceMul, Nat.reduceLT, Nat.reduceLeDiff, Nat.reduceBNe, Int.reduceBEq, Int.reduceBNe, Int.reduceLT, Int.reduceLE, Opr.a, Spn.a, nul]
theorem oLine_no (o : Opr) (h : o.key.size ≤ 9000000000) (hr : o.right = false) : AFn Tryd.prog 66 [o.a] (.str ⟨#[98, 97, 100]⟩) := by
  refine fn_oLine rfl ?_
  have hR := oRight_ok o h
  rw [hr] at hR
  simp (maxSteps := 4000000) only [go_sem, ↓reduceIte, reduceCtorEq, Nat.reduceEqDiff, Nat.reduceBEq, Nat.reduceAdd, Nat.reduceSub, Nat.reduceMul, Nat.reduceLT, Nat.reduceLeDiff, Nat.reduceBNe, Int.reduceBEq, Int.reduceBNe, Int.reduceLT, Int.reduceLE, Opr.a, Spn.a, nul]
  (first | refine calling hR ?_ | refine callingH hR ?_)
  simp (maxSteps := 4000000) only [go_sem, ↓reduceIte, reduceCtorEq, Nat.reduceEqDiff, Nat.reduceBEq, Nat.reduceAdd, Nat.reduceSub, Nat.reduceMul, Nat.reduceLT, Nat.reduceLeDiff, Nat.reduceBNe, Int.reduceBEq, Int.reduceBNe, Int.reduceLT, Int.reduceLE, Opr.a, Spn.a, nul]
set_option maxHeartbeats 4000000 in
theorem oLine_ok (o : Opr) (hr : o.right = true) : AFn Tryd.prog 66 [o.a] (.str (lineO o)) := by
  refine fn_oLine rfl ?_
  obtain ⟨hk1, hk6, hkey, hhi, hval, p1, p2, p3, p4⟩ := right_parts hr
  obtain ⟨kind, key, hi, op, val, lim⟩ := o
  simp only at hk1 hk6 hkey hhi hval p1 p2 p3 p4
  have q1 := quoteF_size key
  have q2 := quoteF_size hi
  have q3 := quoteF_size val
  have s3 : ∀ a b c : UInt8, (⟨#[a, b, c]⟩ : ByteArray).size = 3 := fun _ _ _ => rfl
  have s4 : ∀ a b c d : UInt8, (⟨#[a, b, c, d]⟩ : ByteArray).size = 4 := fun _ _ _ _ => rfl
  have s1 : ∀ a : UInt8, (⟨#[a]⟩ : ByteArray).size = 1 := fun _ => rfl
  have sd : lim ≤ 64 → 1 ≤ lim → (decS lim).size ≤ 1000 := fun h1 h2 => by
    have := Lib.itoa_length_le lim (by omega) (by omega)
    rw [decS_size]; omega
  have hk : kind = 1 ∨ kind = 2 ∨ kind = 3 ∨ kind = 4 ∨ kind = 5 ∨ kind = 6 := by omega
  rcases hk with rfl | rfl | rfl | rfl | rfl | rfl
  · -- kind 1
    have hv : AFn Tryd.prog 107 [.agg [.int .i64 1, .str key, .str hi, .bool op, .str val, .int .i64 lim]] (.bool true) := valued_ok ⟨1, key, hi, op, val, lim⟩
    have hg : AFn Tryd.prog 108 [.agg [.int .i64 1, .str key, .str hi, .bool op, .str val, .int .i64 lim]] (.bool false) := ranged_ok ⟨1, key, hi, op, val, lim⟩
    have hR : AFn Tryd.prog 105 [.agg [.int .i64 1, .str key, .str hi, .bool op, .str val, .int .i64 lim]] (.int .i64 0) := by
      have := oRight_ok ⟨1, key, hi, op, val, lim⟩ (by show key.size ≤ _; omega)
      rw [hr] at this; exact this
    have tn : Int.toNat 1 = 1 := rfl
    have hj := join_ok [(⟨#[112, 117, 116]⟩ : ByteArray), quoteF key, quoteF val] ⟨#[32]⟩ (by simp) (joined_small _ (by simp) (by simp [s1, s3, s4]; omega))
    rw [show lineO ⟨1, key, hi, op, val, lim⟩ = joinB [(⟨#[112, 117, 116]⟩ : ByteArray), quoteF key, quoteF val] ⟨#[32]⟩ from rfl]
    (repeat (first | simp (maxSteps := 4000000) only [go_sem, ↓reduceIte, reduceCtorEq, Nat.reduceEqDiff, Nat.reduceBEq, Nat.reduceAdd, Nat.reduceSub, Nat.reduceMul, Nat.reduceLT, Nat.reduceLeDiff, Nat.reduceBNe, Int.reduceBEq, Int.reduceBNe, Int.reduceLT, Int.reduceLE, Opr.a, Spn.a, nul, tn] | refine calling (hR) ?_ | refine callingH (hR) ?_ | refine calling (hv) ?_ | refine callingH (hv) ?_ | refine calling (hg) ?_ | refine callingH (hg) ?_ | refine calling (oNames_ok) ?_ | refine callingH (oNames_ok) ?_ | refine calling (quote_ok key (by omega)) ?_ | refine callingH (quote_ok key (by omega)) ?_ | refine calling (quote_ok val (by omega)) ?_ | refine callingH (quote_ok val (by omega)) ?_ | refine calling (quote_ok hi (by omega)) ?_ | refine callingH (quote_ok hi (by omega)) ?_ | refine calling (hj) ?_ | refine callingH (hj) ?_ | refine And.intro (by omega) ?_ | refine And.intro (fun d hd => by (repeat (rcases hd with rfl | hd; · exact ⟨rfl, rfl⟩)); cases hd) ?_))
  · -- kind 2
    have hv : AFn Tryd.prog 107 [.agg [.int .i64 2, .str key, .str hi, .bool op, .str val, .int .i64 lim]] (.bool true) := valued_ok ⟨2, key, hi, op, val, lim⟩
    have hg : AFn Tryd.prog 108 [.agg [.int .i64 2, .str key, .str hi, .bool op, .str val, .int .i64 lim]] (.bool false) := ranged_ok ⟨2, key, hi, op, val, lim⟩
    have hR : AFn Tryd.prog 105 [.agg [.int .i64 2, .str key, .str hi, .bool op, .str val, .int .i64 lim]] (.int .i64 0) := by
      have := oRight_ok ⟨2, key, hi, op, val, lim⟩ (by show key.size ≤ _; omega)
      rw [hr] at this; exact this
    have tn : Int.toNat 2 = 2 := rfl
    have hj := join_ok [(⟨#[97, 100, 100]⟩ : ByteArray), quoteF key, quoteF val] ⟨#[32]⟩ (by simp) (joined_small _ (by simp) (by simp [s1, s3, s4]; omega))
    rw [show lineO ⟨2, key, hi, op, val, lim⟩ = joinB [(⟨#[97, 100, 100]⟩ : ByteArray), quoteF key, quoteF val] ⟨#[32]⟩ from rfl]
    (repeat (first | simp (maxSteps := 4000000) only [go_sem, ↓reduceIte, reduceCtorEq, Nat.reduceEqDiff, Nat.reduceBEq, Nat.reduceAdd, Nat.reduceSub, Nat.reduceMul, Nat.reduceLT, Nat.reduceLeDiff, Nat.reduceBNe, Int.reduceBEq, Int.reduceBNe, Int.reduceLT, Int.reduceLE, Opr.a, Spn.a, nul, tn] | refine calling (hR) ?_ | refine callingH (hR) ?_ | refine calling (hv) ?_ | refine callingH (hv) ?_ | refine calling (hg) ?_ | refine callingH (hg) ?_ | refine calling (oNames_ok) ?_ | refine callingH (oNames_ok) ?_ | refine calling (quote_ok key (by omega)) ?_ | refine callingH (quote_ok key (by omega)) ?_ | refine calling (quote_ok val (by omega)) ?_ | refine callingH (quote_ok val (by omega)) ?_ | refine calling (quote_ok hi (by omega)) ?_ | refine callingH (quote_ok hi (by omega)) ?_ | refine calling (hj) ?_ | refine callingH (hj) ?_ | refine And.intro (by omega) ?_ | refine And.intro (fun d hd => by (repeat (rcases hd with rfl | hd; · exact ⟨rfl, rfl⟩)); cases hd) ?_))
  · -- kind 3
    have hv : AFn Tryd.prog 107 [.agg [.int .i64 3, .str key, .str hi, .bool op, .str val, .int .i64 lim]] (.bool false) := valued_ok ⟨3, key, hi, op, val, lim⟩
    have hg : AFn Tryd.prog 108 [.agg [.int .i64 3, .str key, .str hi, .bool op, .str val, .int .i64 lim]] (.bool false) := ranged_ok ⟨3, key, hi, op, val, lim⟩
    have hR : AFn Tryd.prog 105 [.agg [.int .i64 3, .str key, .str hi, .bool op, .str val, .int .i64 lim]] (.int .i64 0) := by
      have := oRight_ok ⟨3, key, hi, op, val, lim⟩ (by show key.size ≤ _; omega)
      rw [hr] at this; exact this
    have tn : Int.toNat 3 = 3 := rfl
    have hj := join_ok [(⟨#[100, 101, 108]⟩ : ByteArray), quoteF key] ⟨#[32]⟩ (by simp) (joined_small _ (by simp) (by simp [s1, s3, s4]; omega))
    rw [show lineO ⟨3, key, hi, op, val, lim⟩ = joinB [(⟨#[100, 101, 108]⟩ : ByteArray), quoteF key] ⟨#[32]⟩ from rfl]
    (repeat (first | simp (maxSteps := 4000000) only [go_sem, ↓reduceIte, reduceCtorEq, Nat.reduceEqDiff, Nat.reduceBEq, Nat.reduceAdd, Nat.reduceSub, Nat.reduceMul, Nat.reduceLT, Nat.reduceLeDiff, Nat.reduceBNe, Int.reduceBEq, Int.reduceBNe, Int.reduceLT, Int.reduceLE, Opr.a, Spn.a, nul, tn] | refine calling (hR) ?_ | refine callingH (hR) ?_ | refine calling (hv) ?_ | refine callingH (hv) ?_ | refine calling (hg) ?_ | refine callingH (hg) ?_ | refine calling (oNames_ok) ?_ | refine callingH (oNames_ok) ?_ | refine calling (quote_ok key (by omega)) ?_ | refine callingH (quote_ok key (by omega)) ?_ | refine calling (quote_ok val (by omega)) ?_ | refine callingH (quote_ok val (by omega)) ?_ | refine calling (quote_ok hi (by omega)) ?_ | refine callingH (quote_ok hi (by omega)) ?_ | refine calling (hj) ?_ | refine callingH (hj) ?_ | refine And.intro (by omega) ?_ | refine And.intro (fun d hd => by (repeat (rcases hd with rfl | hd; · exact ⟨rfl, rfl⟩)); cases hd) ?_))
  · -- kind 4
    have hv : AFn Tryd.prog 107 [.agg [.int .i64 4, .str key, .str hi, .bool op, .str val, .int .i64 lim]] (.bool false) := valued_ok ⟨4, key, hi, op, val, lim⟩
    have hg : AFn Tryd.prog 108 [.agg [.int .i64 4, .str key, .str hi, .bool op, .str val, .int .i64 lim]] (.bool true) := ranged_ok ⟨4, key, hi, op, val, lim⟩
    have hR : AFn Tryd.prog 105 [.agg [.int .i64 4, .str key, .str hi, .bool op, .str val, .int .i64 lim]] (.int .i64 0) := by
      have := oRight_ok ⟨4, key, hi, op, val, lim⟩ (by show key.size ≤ _; omega)
      rw [hr] at this; exact this
    have tn : Int.toNat 4 = 4 := rfl
    cases op with
    | true =>
      have hj := join_ok [(⟨#[119, 105, 112, 101]⟩ : ByteArray), quoteF key, (⟨#[42]⟩ : ByteArray)] ⟨#[32]⟩ (by simp) (joined_small _ (by simp) (by simp [s1, s3, s4]; omega))
      rw [show lineO ⟨4, key, hi, true, val, lim⟩ = joinB [(⟨#[119, 105, 112, 101]⟩ : ByteArray), quoteF key, (⟨#[42]⟩ : ByteArray)] ⟨#[32]⟩ from rfl]
      (repeat (first | simp (maxSteps := 4000000) only [go_sem, ↓reduceIte, reduceCtorEq, Nat.reduceEqDiff, Nat.reduceBEq, Nat.reduceAdd, Nat.reduceSub, Nat.reduceMul, Nat.reduceLT, Nat.reduceLeDiff, Nat.reduceBNe, Int.reduceBEq, Int.reduceBNe, Int.reduceLT, Int.reduceLE, Opr.a, Spn.a, nul, tn] | refine calling (hR) ?_ | refine callingH (hR) ?_ | refine calling (hv) ?_ | refine callingH (hv) ?_ | refine calling (hg) ?_ | refine callingH (hg) ?_ | refine calling (oNames_ok) ?_ | refine callingH (oNames_ok) ?_ | refine calling (quote_ok key (by omega)) ?_ | refine callingH (quote_ok key (by omega)) ?_ | refine calling (quote_ok val (by omega)) ?_ | refine callingH (quote_ok val (by omega)) ?_ | refine calling (quote_ok hi (by omega)) ?_ | refine callingH (quote_ok hi (by omega)) ?_ | refine calling (hj) ?_ | refine callingH (hj) ?_ | refine And.intro (by omega) ?_ | refine And.intro (fun d hd => by (repeat (rcases hd with rfl | hd; · exact ⟨rfl, rfl⟩)); cases hd) ?_))
    | false =>
      have hj := join_ok [(⟨#[119, 105, 112, 101]⟩ : ByteArray), quoteF key, quoteF hi] ⟨#[32]⟩ (by simp) (joined_small _ (by simp) (by simp [s1, s3, s4]; omega))
      rw [show lineO ⟨4, key, hi, false, val, lim⟩ = joinB [(⟨#[119, 105, 112, 101]⟩ : ByteArray), quoteF key, quoteF hi] ⟨#[32]⟩ from rfl]
      (repeat (first | simp (maxSteps := 4000000) only [go_sem, ↓reduceIte, reduceCtorEq, Nat.reduceEqDiff, Nat.reduceBEq, Nat.reduceAdd, Nat.reduceSub, Nat.reduceMul, Nat.reduceLT, Nat.reduceLeDiff, Nat.reduceBNe, Int.reduceBEq, Int.reduceBNe, Int.reduceLT, Int.reduceLE, Opr.a, Spn.a, nul, tn] | refine calling (hR) ?_ | refine callingH (hR) ?_ | refine calling (hv) ?_ | refine callingH (hv) ?_ | refine calling (hg) ?_ | refine callingH (hg) ?_ | refine calling (oNames_ok) ?_ | refine callingH (oNames_ok) ?_ | refine calling (quote_ok key (by omega)) ?_ | refine callingH (quote_ok key (by omega)) ?_ | refine calling (quote_ok val (by omega)) ?_ | refine callingH (quote_ok val (by omega)) ?_ | refine calling (quote_ok hi (by omega)) ?_ | refine callingH (quote_ok hi (by omega)) ?_ | refine calling (hj) ?_ | refine callingH (hj) ?_ | refine And.intro (by omega) ?_ | refine And.intro (fun d hd => by (repeat (rcases hd with rfl | hd; · exact ⟨rfl, rfl⟩)); cases hd) ?_))
  · -- kind 5
    have hv : AFn Tryd.prog 107 [.agg [.int .i64 5, .str key, .str hi, .bool op, .str val, .int .i64 lim]] (.bool false) := valued_ok ⟨5, key, hi, op, val, lim⟩
    have hg : AFn Tryd.prog 108 [.agg [.int .i64 5, .str key, .str hi, .bool op, .str val, .int .i64 lim]] (.bool false) := ranged_ok ⟨5, key, hi, op, val, lim⟩
    have hR : AFn Tryd.prog 105 [.agg [.int .i64 5, .str key, .str hi, .bool op, .str val, .int .i64 lim]] (.int .i64 0) := by
      have := oRight_ok ⟨5, key, hi, op, val, lim⟩ (by show key.size ≤ _; omega)
      rw [hr] at this; exact this
    have tn : Int.toNat 5 = 5 := rfl
    have hj := join_ok [(⟨#[103, 101, 116]⟩ : ByteArray), quoteF key] ⟨#[32]⟩ (by simp) (joined_small _ (by simp) (by simp [s1, s3, s4]; omega))
    rw [show lineO ⟨5, key, hi, op, val, lim⟩ = joinB [(⟨#[103, 101, 116]⟩ : ByteArray), quoteF key] ⟨#[32]⟩ from rfl]
    (repeat (first | simp (maxSteps := 4000000) only [go_sem, ↓reduceIte, reduceCtorEq, Nat.reduceEqDiff, Nat.reduceBEq, Nat.reduceAdd, Nat.reduceSub, Nat.reduceMul, Nat.reduceLT, Nat.reduceLeDiff, Nat.reduceBNe, Int.reduceBEq, Int.reduceBNe, Int.reduceLT, Int.reduceLE, Opr.a, Spn.a, nul, tn] | refine calling (hR) ?_ | refine callingH (hR) ?_ | refine calling (hv) ?_ | refine callingH (hv) ?_ | refine calling (hg) ?_ | refine callingH (hg) ?_ | refine calling (oNames_ok) ?_ | refine callingH (oNames_ok) ?_ | refine calling (quote_ok key (by omega)) ?_ | refine callingH (quote_ok key (by omega)) ?_ | refine calling (quote_ok val (by omega)) ?_ | refine callingH (quote_ok val (by omega)) ?_ | refine calling (quote_ok hi (by omega)) ?_ | refine callingH (quote_ok hi (by omega)) ?_ | refine calling (hj) ?_ | refine callingH (hj) ?_ | refine And.intro (by omega) ?_ | refine And.intro (fun d hd => by (repeat (rcases hd with rfl | hd; · exact ⟨rfl, rfl⟩)); cases hd) ?_))
  · -- kind 6
    have hv : AFn Tryd.prog 107 [.agg [.int .i64 6, .str key, .str hi, .bool op, .str val, .int .i64 lim]] (.bool false) := valued_ok ⟨6, key, hi, op, val, lim⟩
    have hg : AFn Tryd.prog 108 [.agg [.int .i64 6, .str key, .str hi, .bool op, .str val, .int .i64 lim]] (.bool true) := ranged_ok ⟨6, key, hi, op, val, lim⟩
    have hR : AFn Tryd.prog 105 [.agg [.int .i64 6, .str key, .str hi, .bool op, .str val, .int .i64 lim]] (.int .i64 0) := by
      have := oRight_ok ⟨6, key, hi, op, val, lim⟩ (by show key.size ≤ _; omega)
      rw [hr] at this; exact this
    have l12 : 1 ≤ lim ∧ lim ≤ 64 := by simpa using p4
    have tn : Int.toNat 6 = 6 := rfl
    cases op with
    | true =>
      have hj := join_ok [(⟨#[115, 99, 97, 110]⟩ : ByteArray), quoteF key, (⟨#[42]⟩ : ByteArray), decS lim] ⟨#[32]⟩ (by simp) (joined_small _ (by simp) (by simp [s1, s3, s4]; omega))
      rw [show lineO ⟨6, key, hi, true, val, lim⟩ = joinB [(⟨#[115, 99, 97, 110]⟩ : ByteArray), quoteF key, (⟨#[42]⟩ : ByteArray), decS lim] ⟨#[32]⟩ from rfl]
      (repeat (first | simp (maxSteps := 4000000) only [go_sem, ↓reduceIte, reduceCtorEq, Nat.reduceEqDiff, Nat.reduceBEq, Nat.reduceAdd, Nat.reduceSub, Nat.reduceMul, Nat.reduceLT, Nat.reduceLeDiff, Nat.reduceBNe, Int.reduceBEq, Int.reduceBNe, Int.reduceLT, Int.reduceLE, Opr.a, Spn.a, nul, tn] | refine calling (hR) ?_ | refine callingH (hR) ?_ | refine calling (hv) ?_ | refine callingH (hv) ?_ | refine calling (hg) ?_ | refine callingH (hg) ?_ | refine calling (oNames_ok) ?_ | refine callingH (oNames_ok) ?_ | refine calling (quote_ok key (by omega)) ?_ | refine callingH (quote_ok key (by omega)) ?_ | refine calling (quote_ok val (by omega)) ?_ | refine callingH (quote_ok val (by omega)) ?_ | refine calling (quote_ok hi (by omega)) ?_ | refine callingH (quote_ok hi (by omega)) ?_ | refine calling (dec_ok lim ⟨by omega, by omega⟩) ?_ | refine callingH (dec_ok lim ⟨by omega, by omega⟩) ?_ | refine calling (hj) ?_ | refine callingH (hj) ?_ | refine And.intro (by omega) ?_ | refine And.intro (fun d hd => by (repeat (rcases hd with rfl | hd; · exact ⟨rfl, rfl⟩)); cases hd) ?_))
    | false =>
      have hj := join_ok [(⟨#[115, 99, 97, 110]⟩ : ByteArray), quoteF key, quoteF hi, decS lim] ⟨#[32]⟩ (by simp) (joined_small _ (by simp) (by simp [s1, s3, s4]; omega))
      rw [show lineO ⟨6, key, hi, false, val, lim⟩ = joinB [(⟨#[115, 99, 97, 110]⟩ : ByteArray), quoteF key, quoteF hi, decS lim] ⟨#[32]⟩ from rfl]
      (repeat (first | simp (maxSteps := 4000000) only [go_sem, ↓reduceIte, reduceCtorEq, Nat.reduceEqDiff, Nat.reduceBEq, Nat.reduceAdd, Nat.reduceSub, Nat.reduceMul, Nat.reduceLT, Nat.reduceLeDiff, Nat.reduceBNe, Int.reduceBEq, Int.reduceBNe, Int.reduceLT, Int.reduceLE, Opr.a, Spn.a, nul, tn] | refine calling (hR) ?_ | refine callingH (hR) ?_ | refine calling (hv) ?_ | refine callingH (hv) ?_ | refine calling (hg) ?_ | refine callingH (hg) ?_ | refine calling (oNames_ok) ?_ | refine callingH (oNames_ok) ?_ | refine calling (quote_ok key (by omega)) ?_ | refine callingH (quote_ok key (by omega)) ?_ | refine calling (quote_ok val (by omega)) ?_ | refine callingH (quote_ok val (by omega)) ?_ | refine calling (quote_ok hi (by omega)) ?_ | refine callingH (quote_ok hi (by omega)) ?_ | refine calling (dec_ok lim ⟨by omega, by omega⟩) ?_ | refine callingH (dec_ok lim ⟨by omega, by omega⟩) ?_ | refine calling (hj) ?_ | refine callingH (hj) ?_ | refine And.intro (by omega) ?_ | refine And.intro (fun d hd => by (repeat (rcases hd with rfl | hd; · exact ⟨rfl, rfl⟩)); cases hd) ?_))
end Go.Proofs.YtkdbphhekpdmhaaDoor
