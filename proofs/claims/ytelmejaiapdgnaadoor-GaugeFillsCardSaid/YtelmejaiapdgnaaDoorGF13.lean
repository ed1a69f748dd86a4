/-
  Part 13 of a proof: GaF, GaA, GaH, GaI, GaJ.
-/
import Derived.Test.YtelmejaiapdgnaaDoorGF12
namespace Go.Proofs.YtelmejaiapdgnaaDoor
attribute [local go_sem] ev0 ev1 ev2 ev3 ev4 evA stHOk.eq_1 stHOk.eq_2 stHSt.eq_1 stHSt.eq_2 okV valV fzV okF valF okBld valBld mxOk.eq_1 mxOk.eq_2 mxVal.eq_1 mxVal.eq_2 cellFit.eq_1 cellFit.eq_2 cellFit.eq_3 cellEq.eq_1 cellEq.eq_2 cellEq.eq_3 upd_at AV.flatB AV.flatBs binIok binIV binSok binSV cellsOk.eq_1 cellsOk.eq_2 cellsVal.eq_1 cellsVal.eq_2 objCells.eq_1 objCells.eq_2 objZ.eq_1 objZ.eq_2 objProt.eq_1 objProt.eq_2 oneObj ptrOk.eq_1 ptrOk.eq_2 ptrOk.eq_3 ptrCells.eq_1 ptrCells.eq_2 ptrCells.eq_3 lenOk.eq_1 lenOk.eq_2 lenOk.eq_3 lenOk.eq_4 lenVal.eq_1 lenVal.eq_2 lenVal.eq_3 lenVal.eq_4 faOk.eq_1 faOk.eq_2 faOk.eq_3 faVal.eq_1 faVal.eq_2 faVal.eq_3 iaOk.eq_1 iaOk.eq_2 iaOk.eq_3 iaVal.eq_1 iaVal.eq_2 iaVal.eq_3 slcLen.eq_1 slcLen.eq_2 slcLen.eq_3 slcLen.eq_4 bdOk.eq_1 bdOk.eq_2 bdVal.eq_1 bdVal.eq_2 slcOk.eq_1 slcOk.eq_2 slcOk.eq_3 slcOk.eq_4 slcVal.eq_1 slcVal.eq_2 slcVal.eq_3 slcVal.eq_4 slcFz.eq_1 slcFz.eq_2 loK.eq_1 loK.eq_2 loK.eq_3 rsVal.eq_1 rsVal.eq_2 rsVal.eq_3 byOk.eq_1 byOk.eq_2 byOk.eq_3 byOk.eq_4 byOk.eq_5 byOk.eq_6 byOk.eq_7 byOk.eq_8 byVal.eq_1 byVal.eq_2 byVal.eq_3 byFz.eq_1 byFz.eq_2 byFz.eq_3 byOks byVals byFzs allOne resSt.eq_1 resSt.eq_2 resName.eq_1 resName.eq_2 stOk.eq_1 stOk.eq_2 stArr.eq_1 stArr.eq_2 stSt.eq_1 stSt.eq_2 AV.patch nameOk_none gB.eq_1 gB.eq_2 gB.eq_3 gIs.eq_1 gIs.eq_2 gIs.eq_3 retV resV resVs evalV cellsV St.byval List.getD_cons_zero List.getD_cons_succ List.getD_nil List.map_cons List.map_nil List.length_cons List.length_nil List.take_succ_cons List.take_zero List.drop_succ_cons List.drop_zero List.headD_cons List.set_cons_zero List.append_nil List.nil_append List.cons_append List.contains_cons List.contains_nil List.elem_cons List.elem_nil List.all_cons List.all_nil List.getElem?_cons_zero List.getElem?_cons_succ List.filterMap_cons List.filterMap_nil Option.isSome_some Option.isSome_none Option.map_some Option.map_none Option.some.injEq AV.int.injEq AV.bool.injEq AV.str.injEq AV.tup.injEq AV.agg.injEq AV.sl.injEq List.cons.injEq Bool.false_eq_true Bool.true_eq_false Bool.not_true Bool.not_false Bool.and_true Bool.true_and Bool.or_false Bool.or_true Bool.false_or Bool.true_or Bool.or_self Bool.and_self Bool.not_eq_true' Bool.not_eq_false' Bool.not_not beq_self_eq_true true_and and_true false_and and_false and_self not_true_eq_false not_false_eq_true forall_const true_implies false_implies implies_true imp_self Nat.lt_add_one Nat.le_refl Nat.zero_le Nat.add_zero Nat.zero_add decide_true decide_false decide_eq_true_eq decide_eq_false_iff_not exists_eq_left exists_eq_left' ge_iff_le gt_iff_lt ite_branch ite_branch' nilOk.eq_1 nilOk.eq_2 nilMay.eq_1 nilMay.eq_2 AV.isSl.eq_1 objTy'.eq_1 objTy'.eq_2 apSt.eq_1 apArr.eq_1 apArr.eq_2 apTwo.eq_1 apTwo.eq_2 apSt2.eq_1 apArr2.eq_1 apArr2.eq_2 slOf.eq_1 fitsV List.mem_cons List.not_mem_nil Bool.false_and Bool.and_false primOk.eq_1 primOk.eq_2 primOk.eq_3 primOk.eq_4 primOk.eq_5 primVal.eq_1 primVal.eq_2 primVal.eq_3 primVal.eq_4 primVal.eq_5 mOk.eq_1 mOk.eq_2 mVal.eq_1 mVal.eq_2 mFz.eq_1 mFz.eq_2 mOks mVals mFzs mCalOk.eq_1 mCalOk.eq_2 mFn.eq_1 mFn.eq_2 mArgs.eq_1 mArgs.eq_2 ckOk.eq_1 ckOk.eq_2 cloOk.eq_1 ptrAt.eq_1 sh.eq_1 sh.eq_2 sh.eq_3 sh.eq_4 sh.eq_5 sh.eq_6 retM shH_small evM entOk.eq_1 entOk.eq_2 ents.eq_1 ents.eq_2 kI.eq_1 mpOk.eq_1 mpR.eq_1 lkV.eq_1 lkV.eq_2 remp.eq_2 evP pvOk.eq_1 pvOk.eq_2 pvVal.eq_1 pvVal.eq_2 plOk.eq_1 plOk.eq_2 plOk.eq_3 plV.eq_1 plV.eq_2 plF.eq_1 plF.eq_2 plVal.eq_1 plVal.eq_2 plFz.eq_1 plFz.eq_2 lpOk.eq_1 lpOk.eq_2 lpVal.eq_1 lpVal.eq_2 lpFz.eq_1 lpFz.eq_2 stpOk.eq_1 stpOk.eq_2 stpSt.eq_1 stpSt.eq_2 stpArr.eq_1 keepS.eq_1 keepS.eq_2
section
/-
  A tree in numbers, by the code: walked.
-/
open Go.RowKit
set_option linter.unusedVariables false
set_option linter.unusedSimpArgs false
set_option maxRecDepth 100000
attribute [local go_sem ↓] runOp headOp
/-! ### percolate/gauge.high -/
def r_gHi_0 : Reg := ⟨[], [⟨(.mv (.c (.int .i64 0))), (some 2), none, [], []⟩], [], [], false⟩
def r_gHi_1 : Reg := ⟨[], [⟨(.mv (.c (.int .i64 0))), (some 3), none, [], []⟩], [], [], false⟩
def t_gHi_2 : List ROp := [⟨(.mv (.t 0)), (some 6), none, [], []⟩, ⟨(.len false (.t 6)), (some 7), none, [], []⟩, ⟨(.mv (.c (.int .i64 0))), (some 8), none, [], []⟩]
def r_gHi_2 : Reg := ⟨[], t_gHi_2, [], [], false⟩
def r_gHi_3 : Reg := ⟨[], [⟨(.bin .lss (.t 8) (.t 7)), (some 9), none, [], []⟩], [], [], false⟩
def t_gHi_4 : List ROp := [⟨(.iaddr 10 (.t 6) (.t 8)), (some 10), none, [5], []⟩, ⟨(.load 10 true (.t 10)), (some 11), none, [5], []⟩, ⟨(.alloc 10 34 (.agg [(.int .i64 0), (.int .i64 0), (.sl []), (.sl []), (.str ⟨#[]⟩), (.bool false), (.int .i64 0), (.int .i64 0), (.sl []), (.sl [])])), (some 5), none, [], []⟩, ⟨(.store 10 (.t 5) (.t 11)), none, none, [], []⟩]
def r_gHi_4 : Reg := ⟨[], t_gHi_4, [5], [], false⟩
def t_gHi_5 : List ROp := [⟨(.faddr 1 (.t 5)), (some 12), none, [], []⟩, ⟨(.load 1 false (.t 12)), (some 13), none, [], []⟩, ⟨(.bin .geq (.t 13) (.c (.int .i64 0))), (some 14), none, [], []⟩, ⟨(.mv (.t 14)), (some 15), none, [], []⟩, ⟨(.faddr 1 (.t 5)), (some 16), (some (15, true)), [], []⟩, ⟨(.load 1 false (.t 16)), (some 17), (some (15, true)), [], []⟩, ⟨(.bin .leq (.t 17) (.c (.int .i64 60))), (some 18), (some (15, true)), [], []⟩, ⟨(.pick (.t 15) (.t 18) (.c (.bool false))), (some 19), none, [], []⟩]
def r_gHi_5 : Reg := ⟨[], t_gHi_5, [], [], false⟩
def t_gHi_6 : List ROp := [⟨(.mv (.t 3)), (some 20), none, [], []⟩, ⟨(.faddr 1 (.t 5)), (some 21), none, [], []⟩, ⟨(.load 1 false (.t 21)), (some 22), none, [], []⟩, ⟨(.bin .add (.t 22) (.c (.int .i64 1))), (some 23), none, [], []⟩, ⟨(.mx true (.t 20) (.t 23)), (some 24), none, [], []⟩, ⟨(.mv (.t 24)), (some 3), none, [], []⟩]
def r_gHi_6 : Reg := ⟨[], t_gHi_6, [], [], false⟩
def r_gHi_7 : Reg := ⟨[], [⟨(.bin .add (.t 8) (.c (.int .i64 1))), (some 25), none, [], []⟩, ⟨(.mv (.t 25)), (some 8), none, [], []⟩], [], [], false⟩
def r_gHi_l8 : IR := (.seq (.reg r_gHi_3)
  (.seq (.cond (.t 9) .skip
  (.exit 0))
  (.seq (.block 1 (.seq (.reg r_gHi_4)
  (.seq (.reg r_gHi_5)
  (.cond (.t 19) (.reg r_gHi_6)
  .skip))))
  (.reg r_gHi_7))))
def r_gHi_9 : Reg := ⟨[], [⟨(.mv (.t 3)), (some 26), none, [], []⟩, ⟨(.mv (.t 26)), (some 2), none, [], []⟩], [], [], false⟩
def ir_gHi : IR := (.seq (.reg r_gHi_0)
  (.seq (.reg r_gHi_1)
  (.seq (.seq (.reg r_gHi_2)
  (.block 0 (.loop r_gHi_l8)))
  (.seq (.reg r_gHi_9)
  .ret))))
def res_gHi : List RDesc := [(.tmp 2)]
theorem e_gHi_0 (C : FuncId → List AV → AV → Prop) (σ : St) (K : St → Prop) : runReg C r_gHi_0 σ K = runOps C [⟨(.mv (.c (.int .i64 0))), (some 2), none, [], []⟩] (σ.kills []) K := rfl
theorem e_gHi_1 (C : FuncId → List AV → AV → Prop) (σ : St) (K : St → Prop) : runReg C r_gHi_1 σ K = runOps C [⟨(.mv (.c (.int .i64 0))), (some 3), none, [], []⟩] (σ.kills []) K := rfl
theorem e_gHi_2 (C : FuncId → List AV → AV → Prop) (σ : St) (K : St → Prop) : runReg C r_gHi_2 σ K = runOps C t_gHi_2 (σ.kills []) K := rfl
theorem e_gHi_3 (C : FuncId → List AV → AV → Prop) (σ : St) (K : St → Prop) : runReg C r_gHi_3 σ K = runOps C [⟨(.bin .lss (.t 8) (.t 7)), (some 9), none, [], []⟩] (σ.kills []) K := rfl
theorem e_gHi_4 (C : FuncId → List AV → AV → Prop) (σ : St) (K : St → Prop) : runReg C r_gHi_4 σ K = runOps C t_gHi_4 (σ.kills [5]) K := rfl
theorem e_gHi_5 (C : FuncId → List AV → AV → Prop) (σ : St) (K : St → Prop) : runReg C r_gHi_5 σ K = runOps C t_gHi_5 (σ.kills []) K := rfl
theorem e_gHi_6 (C : FuncId → List AV → AV → Prop) (σ : St) (K : St → Prop) : runReg C r_gHi_6 σ K = runOps C t_gHi_6 (σ.kills []) K := rfl
theorem e_gHi_7 (C : FuncId → List AV → AV → Prop) (σ : St) (K : St → Prop) : runReg C r_gHi_7 σ K = runOps C [⟨(.bin .add (.t 8) (.c (.int .i64 1))), (some 25), none, [], []⟩, ⟨(.mv (.t 25)), (some 8), none, [], []⟩] (σ.kills []) K := rfl
theorem e_gHi_9 (C : FuncId → List AV → AV → Prop) (σ : St) (K : St → Prop) : runReg C r_gHi_9 σ K = runOps C [⟨(.mv (.t 3)), (some 26), none, [], []⟩, ⟨(.mv (.t 26)), (some 2), none, [], []⟩] (σ.kills []) K := rfl
theorem fn_gHi {args : List AV} {r : AV} (ha : args.length.ble Tryd.f19.ntmps = true) (h : run (AFn Tryd.prog) ir_gHi (endQ res_gHi r) (initSt args)) : AFn Tryd.prog 19 args r :=
  AFn.of_code (pv := false) (hint := fun _ => []) (c := Tryd.f19.body.getD .skip) (by kernel_rfl) (by kernel_rfl) Tryd.func19 (by kernel_rfl) (by kernel_rfl) (by kernel_rfl) (of_decide_eq_true (by kernel_rfl)) (Nat.le_of_ble_eq_true ha) (Nat.le_of_ble_eq_true (by kernel_rfl)) (run_ok h)
/-! ### percolate/gauge.Of -/
def t_gOf_0 : List ROp := [⟨(.alloc 9 37 (.agg [(.int .i64 0), (.int .i64 0), (.int .i64 0), (.int .i64 0), (.int .i64 0), (.int .i64 0), (.int .i64 0), (.cst (.slice none 0 0)), (.cst (.slice none 0 0))])), (some 2), none, [], []⟩]
def r_gOf_0 : Reg := ⟨[], t_gOf_0, [2], [], false⟩
def t_gOf_1 : List ROp := [⟨(.mv (.t 0)), (some 6), none, [9, 3], []⟩, ⟨(.len false (.t 6)), (some 7), none, [9, 3], []⟩, ⟨(.mv (.t 0)), (some 8), none, [9, 3], []⟩, ⟨(.callv (.c (.clo 19 [] [])) [(.t 8)]), (some 9), none, [3], []⟩, ⟨(.bld [(.int .i64 0), (.int .i64 0), (.int .i64 0), (.int .i64 0), (.int .i64 0), (.int .i64 0), (.int .i64 0), (.cst (.slice none 0 0)), (.cst (.slice none 0 0))] [⟨0, 1, (.t 7)⟩, ⟨2, 1, (.t 9)⟩]), (some 10), none, [3], []⟩, ⟨(.alloc 9 37 (.agg [(.int .i64 0), (.int .i64 0), (.int .i64 0), (.int .i64 0), (.int .i64 0), (.int .i64 0), (.int .i64 0), (.cst (.slice none 0 0)), (.cst (.slice none 0 0))])), (some 3), none, [], []⟩, ⟨(.store 9 (.t 3) (.t 10)), none, none, [], []⟩]
def r_gOf_1 : Reg := ⟨[], t_gOf_1, [9, 3], [], false⟩
def h_gOf_2 : List ROp := [⟨(.faddr 2 (.t 3)), (some 11), none, [13, 16], []⟩, ⟨(.load 1 false (.t 11)), (some 12), none, [13, 16], []⟩, ⟨(.call 2 [(.c (.int .i64 8)), (.c (.int .i64 1)), (.c (.int .i64 3)), (.c (.int .i64 0)), (.t 12)]), (some 13), none, [16], []⟩, ⟨(.faddr 2 (.t 3)), (some 14), none, [13, 16], []⟩, ⟨(.load 1 false (.t 14)), (some 15), none, [13, 16], []⟩, ⟨(.call 2 [(.c (.int .i64 8)), (.c (.int .i64 1)), (.c (.int .i64 3)), (.c (.int .i64 0)), (.t 15)]), (some 16), none, [13, 3], []⟩, ⟨(.faddr 7 (.t 3)), (some 17), none, [16], []⟩]
def r_gOf_2 : Reg := ⟨h_gOf_2, [], [13, 16], [], true⟩
def r_gOf_3 : List XOp := [(.op [] ⟨(.faddr 8 (.t 3)), (some 18), none, [], []⟩), (.op [] ⟨(.storep 1 (.t 18) (.t 16)), none, none, [], []⟩)]
def t_gOf_4 : List ROp := [⟨(.mv (.t 0)), (some 19), none, [], []⟩, ⟨(.len false (.t 19)), (some 20), none, [], []⟩, ⟨(.mv (.c (.int .i64 0))), (some 21), none, [], []⟩]
def r_gOf_4 : Reg := ⟨[], t_gOf_4, [], [], false⟩
def r_gOf_5 : Reg := ⟨[], [⟨(.bin .lss (.t 21) (.t 20)), (some 22), none, [], []⟩], [], [], false⟩
def t_gOf_6 : List ROp := [⟨(.iaddr 10 (.t 19) (.t 21)), (some 23), none, [5], []⟩, ⟨(.loadp 10 true (.t 23)), (some 24), none, [5], []⟩, ⟨(.alloc 10 34 (.agg [(.int .i64 0), (.int .i64 0), (.cst (.slice none 0 0)), (.cst (.slice none 0 0)), (.str ⟨#[]⟩), (.bool false), (.int .i64 0), (.int .i64 0), (.cst (.slice none 0 0)), (.cst (.slice none 0 0))])), (some 5), none, [], []⟩, ⟨(.store 10 (.t 5) (.t 24)), none, none, [], []⟩]
def r_gOf_6 : Reg := ⟨[], t_gOf_6, [5], [], false⟩
def t_gOf_7 : List ROp := [⟨(.faddr 3 (.t 3)), (some 25), none, [], []⟩, ⟨(.load 1 false (.t 25)), (some 26), none, [], []⟩, ⟨(.faddr 9 (.t 5)), (some 27), none, [], []⟩, ⟨(.loadp 1 false (.t 27)), (some 28), none, [], []⟩, ⟨(.len false (.t 28)), (some 29), none, [], []⟩, ⟨(.bin .add (.t 26) (.t 29)), (some 30), none, [], []⟩, ⟨(.faddr 3 (.t 3)), (some 31), none, [], []⟩, ⟨(.store 1 (.t 31) (.t 30)), none, none, [], []⟩]
def r_gOf_7 : Reg := ⟨[], t_gOf_7, [], [], false⟩
def t_gOf_8 : List ROp := [⟨(.faddr 4 (.t 3)), (some 32), none, [], []⟩, ⟨(.load 1 false (.t 32)), (some 33), none, [], []⟩, ⟨(.faddr 8 (.t 5)), (some 34), none, [], []⟩, ⟨(.loadp 1 false (.t 34)), (some 35), none, [], []⟩, ⟨(.len false (.t 35)), (some 36), none, [], []⟩, ⟨(.bin .add (.t 33) (.t 36)), (some 37), none, [], []⟩, ⟨(.faddr 4 (.t 3)), (some 38), none, [], []⟩, ⟨(.store 1 (.t 38) (.t 37)), none, none, [], []⟩]
def r_gOf_8 : Reg := ⟨[], t_gOf_8, [], [], false⟩
def t_gOf_9 : List ROp := [⟨(.bin .add (.t 40) (.t 43)), (some 44), none, [], []⟩, ⟨(.faddr 5 (.t 3)), (some 45), none, [], []⟩, ⟨(.store 1 (.t 45) (.t 44)), none, none, [], [3]⟩]
def h_gOf_9 : List ROp := [⟨(.faddr 5 (.t 3)), (some 39), none, [43], []⟩, ⟨(.load 1 false (.t 39)), (some 40), none, [43], []⟩, ⟨(.faddr 8 (.t 5)), (some 41), none, [43], []⟩, ⟨(.loadp 1 false (.t 41)), (some 42), none, [43], []⟩, ⟨(.callv (.c (.clo 20 [] [])) [(.t 42)]), (some 43), none, [], []⟩]
def r_gOf_9 : Reg := ⟨h_gOf_9, t_gOf_9, [43], [], true⟩
def t_gOf_10 : List ROp := [⟨(.faddr 1 (.t 5)), (some 46), none, [], []⟩, ⟨(.load 1 false (.t 46)), (some 47), none, [], []⟩, ⟨(.bin .eql (.t 47) (.c (.int .i64 0))), (some 48), none, [], []⟩]
def r_gOf_10 : Reg := ⟨[], t_gOf_10, [], [], false⟩
def t_gOf_11 : List ROp := [⟨(.faddr 1 (.t 3)), (some 49), none, [], []⟩, ⟨(.load 1 false (.t 49)), (some 50), none, [], []⟩, ⟨(.bin .add (.t 50) (.c (.int .i64 1))), (some 51), none, [], []⟩, ⟨(.faddr 1 (.t 3)), (some 52), none, [], []⟩, ⟨(.store 1 (.t 52) (.t 51)), none, none, [], []⟩]
def r_gOf_11 : Reg := ⟨[], t_gOf_11, [], [], false⟩
def t_gOf_12 : List ROp := [⟨(.faddr 9 (.t 5)), (some 53), none, [], []⟩, ⟨(.loadp 1 false (.t 53)), (some 54), none, [], []⟩, ⟨(.len false (.t 54)), (some 55), none, [], []⟩, ⟨(.bin .eql (.t 55) (.c (.int .i64 0))), (some 56), none, [], []⟩]
def r_gOf_12 : Reg := ⟨[], t_gOf_12, [], [], false⟩
def t_gOf_13 : List ROp := [⟨(.faddr 6 (.t 3)), (some 57), none, [], []⟩, ⟨(.load 1 false (.t 57)), (some 58), none, [], []⟩, ⟨(.bin .add (.t 58) (.c (.int .i64 1))), (some 59), none, [], []⟩, ⟨(.faddr 6 (.t 3)), (some 60), none, [], []⟩, ⟨(.store 1 (.t 60) (.t 59)), none, none, [], []⟩]
def r_gOf_13 : Reg := ⟨[], t_gOf_13, [], [], false⟩
def t_gOf_14 : List ROp := [⟨(.faddr 1 (.t 5)), (some 61), none, [], []⟩, ⟨(.load 1 false (.t 61)), (some 62), none, [], []⟩, ⟨(.bin .geq (.t 62) (.c (.int .i64 0))), (some 63), none, [], []⟩, ⟨(.mv (.t 63)), (some 64), none, [], []⟩, ⟨(.faddr 1 (.t 5)), (some 65), (some (64, true)), [], []⟩, ⟨(.load 1 false (.t 65)), (some 66), (some (64, true)), [], []⟩, ⟨(.faddr 2 (.t 3)), (some 67), (some (64, true)), [], []⟩, ⟨(.load 1 false (.t 67)), (some 68), (some (64, true)), [], []⟩, ⟨(.bin .lss (.t 66) (.t 68)), (some 69), (some (64, true)), [], []⟩, ⟨(.pick (.t 64) (.t 69) (.c (.bool false))), (some 70), none, [], []⟩]
def r_gOf_14 : Reg := ⟨[], t_gOf_14, [], [], false⟩
def t_gOf_15 : List ROp := [⟨(.faddr 7 (.t 3)), (some 71), none, [], []⟩, ⟨(.loadp 1 false (.t 71)), (some 72), none, [], []⟩, ⟨(.faddr 1 (.t 5)), (some 73), none, [], []⟩, ⟨(.load 1 false (.t 73)), (some 74), none, [], []⟩, ⟨(.iaddr 1 (.t 72) (.t 74)), (some 75), none, [], []⟩, ⟨(.load 1 false (.t 75)), (some 76), none, [], []⟩, ⟨(.bin .add (.t 76) (.c (.int .i64 1))), (some 77), none, [], []⟩, ⟨(.iaddr 1 (.t 72) (.t 74)), (some 78), none, [], []⟩, ⟨(.store 1 (.t 78) (.t 77)), none, none, [], []⟩]
def r_gOf_15 : Reg := ⟨[], t_gOf_15, [], [], false⟩
def t_gOf_16 : List ROp := [⟨(.bin .add (.t 84) (.t 87)), (some 88), none, [], []⟩, ⟨(.iaddr 1 (.t 80) (.t 82)), (some 89), none, [], []⟩, ⟨(.store 1 (.t 89) (.t 88)), none, none, [], [80]⟩]
def h_gOf_16 : List ROp := [⟨(.faddr 8 (.t 3)), (some 79), none, [], []⟩, ⟨(.loadp 1 false (.t 79)), (some 80), none, [], []⟩, ⟨(.faddr 1 (.t 5)), (some 81), none, [], []⟩, ⟨(.load 1 false (.t 81)), (some 82), none, [], []⟩, ⟨(.iaddr 1 (.t 80) (.t 82)), (some 83), none, [], []⟩, ⟨(.load 1 false (.t 83)), (some 84), none, [], []⟩, ⟨(.faddr 8 (.t 5)), (some 85), none, [], []⟩, ⟨(.loadp 1 false (.t 85)), (some 86), none, [], []⟩, ⟨(.len false (.t 86)), (some 87), none, [], []⟩]
def r_gOf_16 : Reg := ⟨h_gOf_16, t_gOf_16, [], [], true⟩
def r_gOf_17 : Reg := ⟨[], [⟨(.bin .add (.t 21) (.c (.int .i64 1))), (some 90), none, [], []⟩, ⟨(.mv (.t 90)), (some 21), none, [], []⟩], [], [], false⟩
def r_gOf_l18 : IR := (.seq (.reg r_gOf_5)
  (.seq (.cond (.t 22) .skip
  (.exit 0))
  (.seq (.block 1 (.seq (.seq (.reg r_gOf_6)
  (.gini [⟨5, 2, 542, 1, 9⟩, ⟨5, 3, 543, 1, 3⟩, ⟨5, 8, 540, 6, 54⟩, ⟨5, 9, 541, 2, 46⟩]))
  (.seq (.reg r_gOf_7)
  (.seq (.reg r_gOf_8)
  (.seq (.reg r_gOf_9)
  (.seq (.seq (.reg r_gOf_10)
  (.cond (.t 48) (.seq (.reg r_gOf_11)
  (.seq (.reg r_gOf_12)
  (.cond (.t 56) (.reg r_gOf_13)
  .skip)))
  .skip))
  (.seq (.reg r_gOf_14)
  (.cond (.t 70) (.seq (.reg r_gOf_15)
  (.reg r_gOf_16))
  .skip))))))))
  (.reg r_gOf_17))))
def r_gOf_19 : Reg := ⟨[], [⟨(.loadp 9 true (.t 3)), (some 91), none, [], []⟩, ⟨(.store 9 (.t 2) (.t 91)), none, none, [], []⟩], [], [], false⟩
def ir_gOf (P : Program) : IR := (.seq (.seq (.reg r_gOf_0)
  (.gini [⟨2, 7, 523, 1, 3⟩, ⟨2, 8, 516, 1, 3⟩]))
  (.seq (.seq (.reg r_gOf_1)
  (.gini [⟨3, 7, 531, 1, 3⟩, ⟨3, 8, 524, 1, 3⟩]))
  (.seq (.regp P r_gOf_2 1 3 17 13 r_gOf_3)
  (.seq (.seq (.reg r_gOf_4)
  (.block 0 (.loop r_gOf_l18)))
  (.seq (.reg r_gOf_19)
  .ret)))))
def res_gOf : List RDesc := [(.cell 2 9 true)]
theorem e_gOf_0 (C : FuncId → List AV → AV → Prop) (σ : St) (K : St → Prop) : runReg C r_gOf_0 σ K = runOps C t_gOf_0 (σ.kills [2]) K := rfl
theorem e_gOf_1 (C : FuncId → List AV → AV → Prop) (σ : St) (K : St → Prop) : runReg C r_gOf_1 σ K = runOps C t_gOf_1 (σ.kills [9, 3]) K := rfl
theorem e_gOf_2 (P : Program) (C : FuncId → List AV → AV → Prop) (l : List XOp) (σ : St) (K : St → Prop) : runRegP P C r_gOf_2 1 3 17 13 l σ K = runHead C [] [] h_gOf_2 (σ.kills [13, 16]) fun σ => stpSrc 17 13 3 σ ∧ runXs P C (.op [] ⟨.storep 1 (.t 17) (.t 13), none, none, [], []⟩ :: l) σ K := rfl
theorem e_gOf_4 (C : FuncId → List AV → AV → Prop) (σ : St) (K : St → Prop) : runReg C r_gOf_4 σ K = runOps C t_gOf_4 (σ.kills []) K := rfl
theorem e_gOf_5 (C : FuncId → List AV → AV → Prop) (σ : St) (K : St → Prop) : runReg C r_gOf_5 σ K = runOps C [⟨(.bin .lss (.t 21) (.t 20)), (some 22), none, [], []⟩] (σ.kills []) K := rfl
theorem e_gOf_6 (C : FuncId → List AV → AV → Prop) (σ : St) (K : St → Prop) : runReg C r_gOf_6 σ K = runOps C t_gOf_6 (σ.kills [5]) K := rfl
theorem e_gOf_7 (C : FuncId → List AV → AV → Prop) (σ : St) (K : St → Prop) : runReg C r_gOf_7 σ K = runOps C t_gOf_7 (σ.kills []) K := rfl
theorem e_gOf_8 (C : FuncId → List AV → AV → Prop) (σ : St) (K : St → Prop) : runReg C r_gOf_8 σ K = runOps C t_gOf_8 (σ.kills []) K := rfl
theorem e_gOf_9 (C : FuncId → List AV → AV → Prop) (σ : St) (K : St → Prop) : runReg C r_gOf_9 σ K = runHead C [] t_gOf_9 h_gOf_9 (σ.kills [43]) K := rfl
theorem e_gOf_10 (C : FuncId → List AV → AV → Prop) (σ : St) (K : St → Prop) : runReg C r_gOf_10 σ K = runOps C t_gOf_10 (σ.kills []) K := rfl
theorem e_gOf_11 (C : FuncId → List AV → AV → Prop) (σ : St) (K : St → Prop) : runReg C r_gOf_11 σ K = runOps C t_gOf_11 (σ.kills []) K := rfl
theorem e_gOf_12 (C : FuncId → List AV → AV → Prop) (σ : St) (K : St → Prop) : runReg C r_gOf_12 σ K = runOps C t_gOf_12 (σ.kills []) K := rfl
theorem e_gOf_13 (C : FuncId → List AV → AV → Prop) (σ : St) (K : St → Prop) : runReg C r_gOf_13 σ K = runOps C t_gOf_13 (σ.kills []) K := rfl
theorem e_gOf_14 (C : FuncId → List AV → AV → Prop) (σ : St) (K : St → Prop) : runReg C r_gOf_14 σ K = runOps C t_gOf_14 (σ.kills []) K := rfl
theorem e_gOf_15 (C : FuncId → List AV → AV → Prop) (σ : St) (K : St → Prop) : runReg C r_gOf_15 σ K = runOps C t_gOf_15 (σ.kills []) K := rfl
theorem e_gOf_16 (C : FuncId → List AV → AV → Prop) (σ : St) (K : St → Prop) : runReg C r_gOf_16 σ K = runHead C [] t_gOf_16 h_gOf_16 (σ.kills []) K := rfl
theorem e_gOf_17 (C : FuncId → List AV → AV → Prop) (σ : St) (K : St → Prop) : runReg C r_gOf_17 σ K = runOps C [⟨(.bin .add (.t 21) (.c (.int .i64 1))), (some 90), none, [], []⟩, ⟨(.mv (.t 90)), (some 21), none, [], []⟩] (σ.kills []) K := rfl
theorem e_gOf_19 (C : FuncId → List AV → AV → Prop) (σ : St) (K : St → Prop) : runReg C r_gOf_19 σ K = runOps C [⟨(.loadp 9 true (.t 3)), (some 91), none, [], []⟩, ⟨(.store 9 (.t 2) (.t 91)), none, none, [], []⟩] (σ.kills []) K := rfl
theorem fn_gOf {args : List AV} {r : AV} (ha : args.length.ble Tryd.f10.ntmps = true) (h : run (AFn Tryd.prog) (ir_gOf Tryd.prog) (endQ res_gOf r) (initSt args)) : AFn Tryd.prog 10 args r :=
  AFn.of_code (pv := true) (hint := fun _ => []) (c := Tryd.f10.body.getD .skip) (by kernel_rfl) (by kernel_rfl) Tryd.func10 (by kernel_rfl) (by kernel_rfl) (by kernel_rfl) (of_decide_eq_true (by kernel_rfl)) (Nat.le_of_ble_eq_true ha) (Nat.le_of_ble_eq_true (by kernel_rfl)) (run_ok h)
attribute [local go_sem ↓] ir_gHi
attribute [local go_sem] res_gHi e_gHi_0 e_gHi_1 e_gHi_2 t_gHi_2 e_gHi_3 e_gHi_4 t_gHi_4 e_gHi_5 t_gHi_5 e_gHi_6 t_gHi_6 e_gHi_7 e_gHi_9
attribute [local go_sem ↓] ir_gOf
attribute [local go_sem] res_gOf e_gOf_0 t_gOf_0 e_gOf_1 t_gOf_1 e_gOf_2 h_gOf_2 e_gOf_4 t_gOf_4 e_gOf_5 e_gOf_6 t_gOf_6 e_gOf_7 t_gOf_7 e_gOf_8 t_gOf_8 e_gOf_9 t_gOf_9 h_gOf_9 e_gOf_10 t_gOf_10 e_gOf_11 t_gOf_11 e_gOf_12 t_gOf_12 e_gOf_13 t_gOf_13 e_gOf_14 t_gOf_14 e_gOf_15 t_gOf_15 e_gOf_16 t_gOf_16 h_gOf_16 e_gOf_17 e_gOf_19 r_gOf_3
/-- few enough things in a node -/
structure Nd.Gd (x : Nd) : Prop where
  rows : x.rows.length ≤ 1000
  msgs : x.msgs.length ≤ 1000
  kok : KOk x.msgs
theorem sumN_snoc {α : Type} (f : α → Nat) : ∀ (l : List α) (x : α), sumN f (l ++ [x]) = sumN f l + f x
  | [], x => by simp [sumN]
  | y :: l, x => by
    show f y + sumN f (l ++ [x]) = f y + sumN f l + f x
    rw [sumN_snoc f l x]; omega
theorem sumN_le {α : Type} {f : α → Nat} {b : Nat} : ∀ {l : List α}, (∀ x, x ∈ l → f x ≤ b) → sumN f l ≤ l.length * b
  | [], _ => by simp [sumN]
  | y :: l, h => by
    have h1 := h y (List.mem_cons_self ..)
    have h2 := sumN_le (l := l) (f := f) (b := b) fun x hx => h x (List.mem_cons_of_mem _ hx)
    show f y + sumN f l ≤ (l.length + 1) * b
    rw [Nat.add_mul]; omega
def hiS (h : Nat) (n : Nd) : Nat := if 0 ≤ n.level ∧ n.level ≤ 60 then max h (n.level.toNat + 1) else h
def hiG : Nat → List Nd → Nat
  | h, [] => h
  | h, n :: l => hiG (hiS h n) l
theorem hiS_le {h : Nat} (hh : h ≤ 61) (n : Nd) : hiS h n ≤ 61 := by unfold hiS; split <;> omega
theorem hiG_le : ∀ (l : List Nd) {h : Nat}, h ≤ 61 → hiG h l ≤ 61
  | [], _, hh => hh
  | n :: l, h, hh => hiG_le l (hiS_le hh n)
def ghI (l : List Nd) (R : Nat) (k : Nat) (σ : St) : Prop :=
  ∃ (i h : Nat), i ≤ l.length ∧ k = l.length - i ∧ h ≤ 61 ∧ hiG h (l.drop i) = R ∧ σ.T 3 = .int .i64 h ∧ σ.T 6 = .sl (l.map Nd.a) ∧ σ.T 7 = .int .i64 l.length ∧ σ.T 8 = .int .i64 i
set_option maxHeartbeats 4000000 in
theorem gHi_ok (l : List Nd) (hl : l.length ≤ 1000000) : AFn Tryd.prog 19 [.sl (l.map Nd.a)] (.int .i64 (hiG 0 l)) := by
  refine fn_gHi rfl ?_
  obtain ⟨R, hR⟩ : ∃ R, hiG 0 l = R := ⟨_, rfl⟩
  rw [hR]
  simp (maxSteps := 4000000) only [go_sem, ↓reduceIte, reduceCtorEq, Nat.reduceEqDiff, Nat.reduceBEq, Nat.reduceAdd, Nat.reduceSub, Nat.reduceMul, Nat.reduceLT, Nat.reduceLeDiff, Nat.reduceBNe, Int.reduceBEq, Int.reduceBNe, Int.reduceLT, Int.reduceLE, Msg.a, Par.a, evG, evP, Nat.reduceMod, Nat.reduceDiv, Nat.reduceSub, Nat.reduceLeDiff, Nat.reduceMul, Nat.reduceAdd, List.length_map]
  refine run_loop (ghI l R) (k := l.length) ⟨0, 0, Nat.zero_le _, rfl, Nat.zero_le _, hR, ?_, ?_, ?_, ?_⟩ ?_
  · (simp (maxSteps := 4000000) only [go_sem, ↓reduceIte, reduceCtorEq, Nat.reduceEqDiff, Nat.reduceBEq, Nat.reduceAdd, Nat.reduceSub, Nat.reduceMul, Nat.reduceLT, Nat.reduceLeDiff, Nat.reduceBNe, Int.reduceBEq, Int.reduceBNe, Int.reduceLT, Int.reduceLE, Msg.a, Par.a, evG, evP, Nat.reduceMod, Nat.reduceDiv, Nat.reduceSub, Nat.reduceLeDiff, Nat.reduceMul, Nat.reduceAdd]) <;> rfl
  · simp (maxSteps := 4000000) only [go_sem, ↓reduceIte, reduceCtorEq, Nat.reduceEqDiff, Nat.reduceBEq, Nat.reduceAdd, Nat.reduceSub, Nat.reduceMul, Nat.reduceLT, Nat.reduceLeDiff, Nat.reduceBNe, Int.reduceBEq, Int.reduceBNe, Int.reduceLT, Int.reduceLE, Msg.a, Par.a, evG, evP, Nat.reduceMod, Nat.reduceDiv, Nat.reduceSub, Nat.reduceLeDiff, Nat.reduceMul, Nat.reduceAdd]
  · simp (maxSteps := 4000000) only [go_sem, ↓reduceIte, reduceCtorEq, Nat.reduceEqDiff, Nat.reduceBEq, Nat.reduceAdd, Nat.reduceSub, Nat.reduceMul, Nat.reduceLT, Nat.reduceLeDiff, Nat.reduceBNe, Int.reduceBEq, Int.reduceBNe, Int.reduceLT, Int.reduceLE, Msg.a, Par.a, evG, evP, Nat.reduceMod, Nat.reduceDiv, Nat.reduceSub, Nat.reduceLeDiff, Nat.reduceMul, Nat.reduceAdd, List.length_map]
  · (simp (maxSteps := 4000000) only [go_sem, ↓reduceIte, reduceCtorEq, Nat.reduceEqDiff, Nat.reduceBEq, Nat.reduceAdd, Nat.reduceSub, Nat.reduceMul, Nat.reduceLT, Nat.reduceLeDiff, Nat.reduceBNe, Int.reduceBEq, Int.reduceBNe, Int.reduceLT, Int.reduceLE, Msg.a, Par.a, evG, evP, Nat.reduceMod, Nat.reduceDiv, Nat.reduceSub, Nat.reduceLeDiff, Nat.reduceMul, Nat.reduceAdd]) <;> rfl
  clear hR
  rintro k σ ⟨i, h, hi, rfl, hh, hR, t3, t6, t7, t8⟩
  simp only [r_gHi_l8]
  by_cases hlt : i < l.length
  case neg =>
    have hlt' : ¬ (i : Int) < (l.length : Int) := by omega
    have e : l.drop i = [] := List.drop_eq_nil_of_le (by omega)
    rw [e, hiG] at hR
    subst hR
    simp (maxSteps := 4000000) only [go_sem, ↓reduceIte, reduceCtorEq, Nat.reduceEqDiff, Nat.reduceBEq, Nat.reduceAdd, Nat.reduceSub, Nat.reduceMul, Nat.reduceLT, Nat.reduceLeDiff, Nat.reduceBNe, Int.reduceBEq, Int.reduceBNe, Int.reduceLT, Int.reduceLE, Msg.a, Par.a, evG, evP, Nat.reduceMod, Nat.reduceDiv, Nat.reduceSub, Nat.reduceLeDiff, Nat.reduceMul, Nat.reduceAdd, t3, t7, t8, hlt']
  have hlt' : (i : Int) < (l.length : Int) := by omega
  obtain ⟨x, hx⟩ := get_lt hlt
  have hge := at_map (f := Nd.a) hx
  simp only [Nd.a] at hge
  have hw := wrapS (j := i) (by omega)
  have dk : l.drop i = x :: l.drop (i + 1) := by rw [List.drop_eq_getElem_cons hlt, (List.getElem?_eq_some_iff.1 hx).2]
  rw [dk, hiG] at hR
  have fin : ∀ (σ' : St), σ'.T 3 = .int .i64 (hiS h x : Nat) → σ'.T 6 = .sl (l.map Nd.a) → σ'.T 7 = .int .i64 l.length → σ'.T 8 = .int .i64 ((i + 1 : Nat) : Int) → ∃ m, m < l.length - i ∧ ghI l R m σ' := fun σ' a1 a2 a3 a4 =>
    ⟨l.length - (i + 1), by omega, i + 1, hiS h x, by omega, rfl, hiS_le hh x, hR, a1, a2, a3, a4⟩
  by_cases h0 : 0 ≤ x.level
  · by_cases h6 : x.level ≤ 60
    · have e : ((hiS h x : Nat) : Int) = if x.level + 1 > (h : Int) then x.level + 1 else (h : Int) := by
        unfold hiS
        rw [if_pos ⟨h0, h6⟩]
        split <;> omega
      have w1 : IntKind.i64.wrap (x.level + 1) = x.level + 1 := IntWalk.i64_in _ (by omega)
      have h0' : x.level ≥ 0 := h0
      simp (maxSteps := 4000000) only [go_sem, ↓reduceIte, reduceCtorEq, Nat.reduceEqDiff, Nat.reduceBEq, Nat.reduceAdd, Nat.reduceSub, Nat.reduceMul, Nat.reduceLT, Nat.reduceLeDiff, Nat.reduceBNe, Int.reduceBEq, Int.reduceBNe, Int.reduceLT, Int.reduceLE, Msg.a, Par.a, evG, evP, Nat.reduceMod, Nat.reduceDiv, Nat.reduceSub, Nat.reduceLeDiff, Nat.reduceMul, Nat.reduceAdd, t3, t6, t7, t8, hlt', hlt, hge, h0, h0', h6, w1, hw, List.length_map, Int.toNat_natCast]
      (repeat refine And.intro (by omega) ?_)
      refine fin _ ?_ ?_ ?_ ?_
      · rw [e]; simp (maxSteps := 4000000) only [go_sem, ↓reduceIte, reduceCtorEq, Nat.reduceEqDiff, Nat.reduceBEq, Nat.reduceAdd, Nat.reduceSub, Nat.reduceMul, Nat.reduceLT, Nat.reduceLeDiff, Nat.reduceBNe, Int.reduceBEq, Int.reduceBNe, Int.reduceLT, Int.reduceLE, Msg.a, Par.a, evG, evP, Nat.reduceMod, Nat.reduceDiv, Nat.reduceSub, Nat.reduceLeDiff, Nat.reduceMul, Nat.reduceAdd]
      · simp (maxSteps := 4000000) only [go_sem, ↓reduceIte, reduceCtorEq, Nat.reduceEqDiff, Nat.reduceBEq, Nat.reduceAdd, Nat.reduceSub, Nat.reduceMul, Nat.reduceLT, Nat.reduceLeDiff, Nat.reduceBNe, Int.reduceBEq, Int.reduceBNe, Int.reduceLT, Int.reduceLE, Msg.a, Par.a, evG, evP, Nat.reduceMod, Nat.reduceDiv, Nat.reduceSub, Nat.reduceLeDiff, Nat.reduceMul, Nat.reduceAdd, t6]
      · simp (maxSteps := 4000000) only [go_sem, ↓reduceIte, reduceCtorEq, Nat.reduceEqDiff, Nat.reduceBEq, Nat.reduceAdd, Nat.reduceSub, Nat.reduceMul, Nat.reduceLT, Nat.reduceLeDiff, Nat.reduceBNe, Int.reduceBEq, Int.reduceBNe, Int.reduceLT, Int.reduceLE, Msg.a, Par.a, evG, evP, Nat.reduceMod, Nat.reduceDiv, Nat.reduceSub, Nat.reduceLeDiff, Nat.reduceMul, Nat.reduceAdd, t7]
      · simp (maxSteps := 4000000) only [go_sem, ↓reduceIte, reduceCtorEq, Nat.reduceEqDiff, Nat.reduceBEq, Nat.reduceAdd, Nat.reduceSub, Nat.reduceMul, Nat.reduceLT, Nat.reduceLeDiff, Nat.reduceBNe, Int.reduceBEq, Int.reduceBNe, Int.reduceLT, Int.reduceLE, Msg.a, Par.a, evG, evP, Nat.reduceMod, Nat.reduceDiv, Nat.reduceSub, Nat.reduceLeDiff, Nat.reduceMul, Nat.reduceAdd, hw]
    · have e : hiS h x = h := by unfold hiS; rw [if_neg (by omega)]
      rw [e] at fin
      have h0' : x.level ≥ 0 := h0
      simp (maxSteps := 4000000) only [go_sem, ↓reduceIte, reduceCtorEq, Nat.reduceEqDiff, Nat.reduceBEq, Nat.reduceAdd, Nat.reduceSub, Nat.reduceMul, Nat.reduceLT, Nat.reduceLeDiff, Nat.reduceBNe, Int.reduceBEq, Int.reduceBNe, Int.reduceLT, Int.reduceLE, Msg.a, Par.a, evG, evP, Nat.reduceMod, Nat.reduceDiv, Nat.reduceSub, Nat.reduceLeDiff, Nat.reduceMul, Nat.reduceAdd, t3, t6, t7, t8, hlt', hlt, hge, h0, h0', h6, hw, List.length_map, Int.toNat_natCast]
      (repeat refine And.intro (by omega) ?_)
      refine fin _ ?_ ?_ ?_ ?_
      · simp (maxSteps := 4000000) only [go_sem, ↓reduceIte, reduceCtorEq, Nat.reduceEqDiff, Nat.reduceBEq, Nat.reduceAdd, Nat.reduceSub, Nat.reduceMul, Nat.reduceLT, Nat.reduceLeDiff, Nat.reduceBNe, Int.reduceBEq, Int.reduceBNe, Int.reduceLT, Int.reduceLE, Msg.a, Par.a, evG, evP, Nat.reduceMod, Nat.reduceDiv, Nat.reduceSub, Nat.reduceLeDiff, Nat.reduceMul, Nat.reduceAdd, t3]
      · simp (maxSteps := 4000000) only [go_sem, ↓reduceIte, reduceCtorEq, Nat.reduceEqDiff, Nat.reduceBEq, Nat.reduceAdd, Nat.reduceSub, Nat.reduceMul, Nat.reduceLT, Nat.reduceLeDiff, Nat.reduceBNe, Int.reduceBEq, Int.reduceBNe, Int.reduceLT, Int.reduceLE, Msg.a, Par.a, evG, evP, Nat.reduceMod, Nat.reduceDiv, Nat.reduceSub, Nat.reduceLeDiff, Nat.reduceMul, Nat.reduceAdd, t6]
      · simp (maxSteps := 4000000) only [go_sem, ↓reduceIte, reduceCtorEq, Nat.reduceEqDiff, Nat.reduceBEq, Nat.reduceAdd, Nat.reduceSub, Nat.reduceMul, Nat.reduceLT, Nat.reduceLeDiff, Nat.reduceBNe, Int.reduceBEq, Int.reduceBNe, Int.reduceLT, Int.reduceLE, Msg.a, Par.a, evG, evP, Nat.reduceMod, Nat.reduceDiv, Nat.reduceSub, Nat.reduceLeDiff, Nat.reduceMul, Nat.reduceAdd, t7]
      · simp (maxSteps := 4000000) only [go_sem, ↓reduceIte, reduceCtorEq, Nat.reduceEqDiff, Nat.reduceBEq, Nat.reduceAdd, Nat.reduceSub, Nat.reduceMul, Nat.reduceLT, Nat.reduceLeDiff, Nat.reduceBNe, Int.reduceBEq, Int.reduceBNe, Int.reduceLT, Int.reduceLE, Msg.a, Par.a, evG, evP, Nat.reduceMod, Nat.reduceDiv, Nat.reduceSub, Nat.reduceLeDiff, Nat.reduceMul, Nat.reduceAdd, hw]
  · have e : hiS h x = h := by unfold hiS; rw [if_neg (by omega)]
    rw [e] at fin
    have h0' : ¬ x.level ≥ 0 := h0
    simp (maxSteps := 4000000) only [go_sem, ↓reduceIte, reduceCtorEq, Nat.reduceEqDiff, Nat.reduceBEq, Nat.reduceAdd, Nat.reduceSub, Nat.reduceMul, Nat.reduceLT, Nat.reduceLeDiff, Nat.reduceBNe, Int.reduceBEq, Int.reduceBNe, Int.reduceLT, Int.reduceLE, Msg.a, Par.a, evG, evP, Nat.reduceMod, Nat.reduceDiv, Nat.reduceSub, Nat.reduceLeDiff, Nat.reduceMul, Nat.reduceAdd, t3, t6, t7, t8, hlt', hlt, hge, h0, h0', hw, List.length_map, Int.toNat_natCast]
    (repeat refine And.intro (by omega) ?_)
    refine fin _ ?_ ?_ ?_ ?_
    · simp (maxSteps := 4000000) only [go_sem, ↓reduceIte, reduceCtorEq, Nat.reduceEqDiff, Nat.reduceBEq, Nat.reduceAdd, Nat.reduceSub, Nat.reduceMul, Nat.reduceLT, Nat.reduceLeDiff, Nat.reduceBNe, Int.reduceBEq, Int.reduceBNe, Int.reduceLT, Int.reduceLE, Msg.a, Par.a, evG, evP, Nat.reduceMod, Nat.reduceDiv, Nat.reduceSub, Nat.reduceLeDiff, Nat.reduceMul, Nat.reduceAdd, t3]
    · simp (maxSteps := 4000000) only [go_sem, ↓reduceIte, reduceCtorEq, Nat.reduceEqDiff, Nat.reduceBEq, Nat.reduceAdd, Nat.reduceSub, Nat.reduceMul, Nat.reduceLT, Nat.reduceLeDiff, Nat.reduceBNe, Int.reduceBEq, Int.reduceBNe, Int.reduceLT, Int.reduceLE, Msg.a, Par.a, evG, evP, Nat.reduceMod, Nat.reduceDiv, Nat.reduceSub, Nat.reduceLeDiff, Nat.reduceMul, Nat.reduceAdd, t6]
    · simp (maxSteps := 4000000) only [go_sem, ↓reduceIte, reduceCtorEq, Nat.reduceEqDiff, Nat.reduceBEq, Nat.reduceAdd, Nat.reduceSub, Nat.reduceMul, Nat.reduceLT, Nat.reduceLeDiff, Nat.reduceBNe, Int.reduceBEq, Int.reduceBNe, Int.reduceLT, Int.reduceLE, Msg.a, Par.a, evG, evP, Nat.reduceMod, Nat.reduceDiv, Nat.reduceSub, Nat.reduceLeDiff, Nat.reduceMul, Nat.reduceAdd, t7]
    · simp (maxSteps := 4000000) only [go_sem, ↓reduceIte, reduceCtorEq, Nat.reduceEqDiff, Nat.reduceBEq, Nat.reduceAdd, Nat.reduceSub, Nat.reduceMul, Nat.reduceLT, Nat.reduceLeDiff, Nat.reduceBNe, Int.reduceBEq, Int.reduceBNe, Int.reduceLT, Int.reduceLE, Msg.a, Par.a, evG, evP, Nat.reduceMod, Nat.reduceDiv, Nat.reduceSub, Nat.reduceLeDiff, Nat.reduceMul, Nat.reduceAdd, hw]
def cntL (p : List Nd) (h : Nat) : Nat := p.countP fun n => n.level == (h : Int)
def msgL (p : List Nd) (h : Nat) : Nat := sumN (fun n => if n.level == (h : Int) then n.msgs.length else 0) p
def ofG (H : Nat) (N : Nat) (p : List Nd) : Gau := ⟨N, (p.countP fun n => n.level == 0 : Nat), H, (sumN (fun n => n.rows.length) p : Nat), (sumN (fun n => n.msgs.length) p : Nat), (sumN (fun n => sizes n.msgs) p : Nat), (p.countP fun n => n.level == 0 && n.rows.length == 0 : Nat),
  (List.range H).map fun h => (cntL p h : Int), (List.range H).map fun h => (msgL p h : Int)⟩
theorem cntL_snoc (p : List Nd) (x : Nd) (h : Nat) : cntL (p ++ [x]) h = cntL p h + if x.level == (h : Int) then 1 else 0 := by
  unfold cntL
  rw [List.countP_append, List.countP_singleton]
theorem msgL_snoc (p : List Nd) (x : Nd) (h : Nat) : msgL (p ++ [x]) h = msgL p h + if x.level == (h : Int) then x.msgs.length else 0 := by
  unfold msgL
  rw [sumN_snoc]
def rngI (H : Nat) (f : Nat → Nat) : List Int := (List.range H).map fun h => (f h : Int)
theorem rngI_len (H : Nat) (f : Nat → Nat) : (rngI H f).length = H := by unfold rngI; simp
theorem rngI_get {H k : Nat} (f : Nat → Nat) (hk : k < H) : (rngI H f)[k]? = some (f k : Int) := by
  unfold rngI
  rw [List.getElem?_map, List.getElem?_range hk]; rfl
theorem rngI_at {H k : Nat} (f : Nat → Nat) (hk : k < H) : ((rngI H f).map (AV.int .i64)).getD k .und = .int .i64 (f k : Int) := at_map (f := AV.int .i64) (rngI_get f hk)
theorem rngI_set {H k : Nat} {f g : Nat → Nat} (h : ∀ j, j ≠ k → g j = f j) : ((rngI H f).map (AV.int .i64)).set k (.int .i64 (g k : Int)) = (rngI H g).map (AV.int .i64) := by
  apply List.ext_getElem?
  intro j
  rw [List.getElem?_set]
  by_cases hj : k = j
  · subst hj
    rw [if_pos rfl]
    by_cases hk : k < H
    · rw [if_pos (by rw [List.length_map, rngI_len]; exact hk), List.getElem?_map, rngI_get g hk]; rfl
    · rw [if_neg (by rw [List.length_map, rngI_len]; exact hk), List.getElem?_eq_none (by rw [List.length_map, rngI_len]; omega)]
  · rw [if_neg hj]
    by_cases hk : j < H
    · rw [List.getElem?_map, List.getElem?_map, rngI_get f hk, rngI_get g hk, h j (fun e => hj e.symm)]
    · rw [List.getElem?_eq_none (by rw [List.length_map, rngI_len]; omega), List.getElem?_eq_none (by rw [List.length_map, rngI_len]; omega)]
theorem rngI_congr {H : Nat} {f g : Nat → Nat} (h : ∀ j, j < H → g j = f j) : rngI H g = rngI H f := by
  unfold rngI
  refine List.map_congr_left fun j hj => ?_
  rw [h j (List.mem_range.1 hj)]
def lvs (p : List Nd) : Nat := p.countP fun n => n.level == 0
def emp (p : List Nd) : Nat := p.countP fun n => n.level == 0 && n.rows.length == 0
def rwsN (p : List Nd) : Nat := sumN (fun n => n.rows.length) p
def msgN (p : List Nd) : Nat := sumN (fun n => n.msgs.length) p
def bytN (p : List Nd) : Nat := sumN (fun n => sizes n.msgs) p
theorem ofG_eq (H N : Nat) (p : List Nd) : (ofG H N p).a = .agg [.int .i64 N, .int .i64 (lvs p : Nat), .int .i64 H, .int .i64 (rwsN p : Nat), .int .i64 (msgN p : Nat), .int .i64 (bytN p : Nat), .int .i64 (emp p : Nat), .sl ((rngI H (cntL p)).map (AV.int .i64)), .sl ((rngI H (msgL p)).map (AV.int .i64))] := rfl
def cellG (N H : Nat) (p : List Nd) (u7 u8 : Value) : AV := .agg [.int .i64 N, .int .i64 (lvs p : Nat), .int .i64 H, .int .i64 (rwsN p : Nat), .int .i64 (msgN p : Nat), .int .i64 (bytN p : Nat), .int .i64 (emp p : Nat), .cst u7, .cst u8]
def cell0 : AV := .agg [.int .i64 0, .int .i64 0, .int .i64 0, .int .i64 0, .int .i64 0, .int .i64 0, .int .i64 0, .cst (.slice none 0 0), .cst (.slice none 0 0)]
def goI (l : List Nd) (H : Nat) (k : Nat) (σ : St) : Prop :=
  ∃ (i : Nat) (u7 u8 : Value), i ≤ l.length ∧ k = l.length - i ∧ σ.T 2 = .ptr 2 0 0 ∧ σ.T 3 = .ptr 3 0 0 ∧ σ.T 19 = .sl (l.map Nd.a) ∧ σ.T 20 = .int .i64 l.length ∧ σ.T 21 = .int .i64 i ∧ σ.H 2 = some ⟨9, 37, [cell0], 0⟩ ∧ σ.H 3 = some ⟨9, 37, [cellG l.length H (l.take i) u7 u8], 0⟩ ∧
    σ.T 1307 = .vrs 13 0 H u7 ∧ σ.T 1308 = .vrs 16 0 H u8 ∧ σ.H 13 = some ⟨1, 3, (rngI H (cntL (l.take i))).map (AV.int .i64), 0⟩ ∧ σ.H 16 = some ⟨1, 3, (rngI H (msgL (l.take i))).map (AV.int .i64), 0⟩
set_option maxHeartbeats 16000000 in
theorem gOf_ok (l : List Nd) (hl : l.length ≤ 60) (hg : ∀ x, x ∈ l → x.Gd) : AFn Tryd.prog 10 [.sl (l.map Nd.a)] (ofG (hiG 0 l) l.length l).a := by
  refine fn_gOf rfl ?_
  have ch := gHi_ok l (by omega)
  have hH := hiG_le l (Nat.zero_le 61)
  generalize hiG 0 l = H at *
  have z1 : List.replicate H (AV.int .i64 0) = (rngI H (cntL [])).map (AV.int .i64) := by
    unfold rngI; rw [List.map_map]
    refine (List.eq_replicate_iff.2 ⟨by simp, fun v hv => ?_⟩).symm
    obtain ⟨j, _, rfl⟩ := List.mem_map.1 hv; rfl
  have z2 : List.replicate H (AV.int .i64 0) = (rngI H (msgL [])).map (AV.int .i64) := by
    unfold rngI; rw [List.map_map]
    refine (List.eq_replicate_iff.2 ⟨by simp, fun v hv => ?_⟩).symm
    obtain ⟨j, _, rfl⟩ := List.mem_map.1 hv; rfl
  have hn : Int.toNat (H : Int) = H := Int.toNat_natCast H
  (repeat (first | simp (maxSteps := 4000000) only [go_sem, ↓reduceIte, reduceCtorEq, Nat.reduceEqDiff, Nat.reduceBEq, Nat.reduceAdd, Nat.reduceSub, Nat.reduceMul, Nat.reduceLT, Nat.reduceLeDiff, Nat.reduceBNe, Int.reduceBEq, Int.reduceBNe, Int.reduceLT, Int.reduceLE, Msg.a, Par.a, evG, evP, Nat.reduceMod, Nat.reduceDiv, Nat.reduceSub, Nat.reduceLeDiff, Nat.reduceMul, Nat.reduceAdd, List.length_map, hn, List.length_replicate] | refine calling (ch) ?_ | refine callingH (ch) ?_ | refine And.intro (by omega) ?_ | refine And.intro (fun d hd => by (repeat (rcases hd with rfl | hd; · exact ⟨rfl, rfl⟩)); cases hd) ?_))
  intro u7 hu7 u8 hu8
  refine run_loop (goI l H) (k := l.length) ⟨0, u7, u8, Nat.zero_le _, rfl, ?_, ?_, ?_, ?_, ?_, ?_, ?_, ?_, ?_, ?_, ?_⟩ ?_
  · simp (maxSteps := 4000000) only [go_sem, ↓reduceIte, reduceCtorEq, Nat.reduceEqDiff, Nat.reduceBEq, Nat.reduceAdd, Nat.reduceSub, Nat.reduceMul, Nat.reduceLT, Nat.reduceLeDiff, Nat.reduceBNe, Int.reduceBEq, Int.reduceBNe, Int.reduceLT, Int.reduceLE, Msg.a, Par.a, evG, evP, Nat.reduceMod, Nat.reduceDiv, Nat.reduceSub, Nat.reduceLeDiff, Nat.reduceMul, Nat.reduceAdd]
  · simp (maxSteps := 4000000) only [go_sem, ↓reduceIte, reduceCtorEq, Nat.reduceEqDiff, Nat.reduceBEq, Nat.reduceAdd, Nat.reduceSub, Nat.reduceMul, Nat.reduceLT, Nat.reduceLeDiff, Nat.reduceBNe, Int.reduceBEq, Int.reduceBNe, Int.reduceLT, Int.reduceLE, Msg.a, Par.a, evG, evP, Nat.reduceMod, Nat.reduceDiv, Nat.reduceSub, Nat.reduceLeDiff, Nat.reduceMul, Nat.reduceAdd]
  · simp (maxSteps := 4000000) only [go_sem, ↓reduceIte, reduceCtorEq, Nat.reduceEqDiff, Nat.reduceBEq, Nat.reduceAdd, Nat.reduceSub, Nat.reduceMul, Nat.reduceLT, Nat.reduceLeDiff, Nat.reduceBNe, Int.reduceBEq, Int.reduceBNe, Int.reduceLT, Int.reduceLE, Msg.a, Par.a, evG, evP, Nat.reduceMod, Nat.reduceDiv, Nat.reduceSub, Nat.reduceLeDiff, Nat.reduceMul, Nat.reduceAdd]
  · simp (maxSteps := 4000000) only [go_sem, ↓reduceIte, reduceCtorEq, Nat.reduceEqDiff, Nat.reduceBEq, Nat.reduceAdd, Nat.reduceSub, Nat.reduceMul, Nat.reduceLT, Nat.reduceLeDiff, Nat.reduceBNe, Int.reduceBEq, Int.reduceBNe, Int.reduceLT, Int.reduceLE, Msg.a, Par.a, evG, evP, Nat.reduceMod, Nat.reduceDiv, Nat.reduceSub, Nat.reduceLeDiff, Nat.reduceMul, Nat.reduceAdd, List.length_map]
  · (simp (maxSteps := 4000000) only [go_sem, ↓reduceIte, reduceCtorEq, Nat.reduceEqDiff, Nat.reduceBEq, Nat.reduceAdd, Nat.reduceSub, Nat.reduceMul, Nat.reduceLT, Nat.reduceLeDiff, Nat.reduceBNe, Int.reduceBEq, Int.reduceBNe, Int.reduceLT, Int.reduceLE, Msg.a, Par.a, evG, evP, Nat.reduceMod, Nat.reduceDiv, Nat.reduceSub, Nat.reduceLeDiff, Nat.reduceMul, Nat.reduceAdd]) <;> rfl
  · (simp (maxSteps := 4000000) only [go_sem, ↓reduceIte, reduceCtorEq, Nat.reduceEqDiff, Nat.reduceBEq, Nat.reduceAdd, Nat.reduceSub, Nat.reduceMul, Nat.reduceLT, Nat.reduceLeDiff, Nat.reduceBNe, Int.reduceBEq, Int.reduceBNe, Int.reduceLT, Int.reduceLE, Msg.a, Par.a, evG, evP, Nat.reduceMod, Nat.reduceDiv, Nat.reduceSub, Nat.reduceLeDiff, Nat.reduceMul, Nat.reduceAdd]) <;> rfl
  · (simp (maxSteps := 4000000) only [go_sem, ↓reduceIte, reduceCtorEq, Nat.reduceEqDiff, Nat.reduceBEq, Nat.reduceAdd, Nat.reduceSub, Nat.reduceMul, Nat.reduceLT, Nat.reduceLeDiff, Nat.reduceBNe, Int.reduceBEq, Int.reduceBNe, Int.reduceLT, Int.reduceLE, Msg.a, Par.a, evG, evP, Nat.reduceMod, Nat.reduceDiv, Nat.reduceSub, Nat.reduceLeDiff, Nat.reduceMul, Nat.reduceAdd]) <;> rfl
  · simp (maxSteps := 4000000) only [go_sem, ↓reduceIte, reduceCtorEq, Nat.reduceEqDiff, Nat.reduceBEq, Nat.reduceAdd, Nat.reduceSub, Nat.reduceMul, Nat.reduceLT, Nat.reduceLeDiff, Nat.reduceBNe, Int.reduceBEq, Int.reduceBNe, Int.reduceLT, Int.reduceLE, Msg.a, Par.a, evG, evP, Nat.reduceMod, Nat.reduceDiv, Nat.reduceSub, Nat.reduceLeDiff, Nat.reduceMul, Nat.reduceAdd, hn, List.length_replicate]
  · simp (maxSteps := 4000000) only [go_sem, ↓reduceIte, reduceCtorEq, Nat.reduceEqDiff, Nat.reduceBEq, Nat.reduceAdd, Nat.reduceSub, Nat.reduceMul, Nat.reduceLT, Nat.reduceLeDiff, Nat.reduceBNe, Int.reduceBEq, Int.reduceBNe, Int.reduceLT, Int.reduceLE, Msg.a, Par.a, evG, evP, Nat.reduceMod, Nat.reduceDiv, Nat.reduceSub, Nat.reduceLeDiff, Nat.reduceMul, Nat.reduceAdd, hn, List.length_replicate]
  · rw [List.take_zero, ← z1]
    (simp (maxSteps := 4000000) only [go_sem, ↓reduceIte, reduceCtorEq, Nat.reduceEqDiff, Nat.reduceBEq, Nat.reduceAdd, Nat.reduceSub, Nat.reduceMul, Nat.reduceLT, Nat.reduceLeDiff, Nat.reduceBNe, Int.reduceBEq, Int.reduceBNe, Int.reduceLT, Int.reduceLE, Msg.a, Par.a, evG, evP, Nat.reduceMod, Nat.reduceDiv, Nat.reduceSub, Nat.reduceLeDiff, Nat.reduceMul, Nat.reduceAdd, hn]) <;> rfl
  · rw [List.take_zero, ← z2]
    (simp (maxSteps := 4000000) only [go_sem, ↓reduceIte, reduceCtorEq, Nat.reduceEqDiff, Nat.reduceBEq, Nat.reduceAdd, Nat.reduceSub, Nat.reduceMul, Nat.reduceLT, Nat.reduceLeDiff, Nat.reduceBNe, Int.reduceBEq, Int.reduceBNe, Int.reduceLT, Int.reduceLE, Msg.a, Par.a, evG, evP, Nat.reduceMod, Nat.reduceDiv, Nat.reduceSub, Nat.reduceLeDiff, Nat.reduceMul, Nat.reduceAdd, hn]) <;> rfl
  clear u7 hu7 u8 hu8 z1 z2 ch
  rintro k σ ⟨i, u7, u8, hi, rfl, t2, t3, t19, t20, t21, h2, h3, g7, g8, h13, h16⟩
  unfold cell0 at h2
  unfold cellG at h3
  simp only [r_gOf_l18]
  by_cases hlt : i < l.length
  case neg =>
    have hlt' : ¬ (i : Int) < (l.length : Int) := by omega
    have e : l.take i = l := List.take_of_length_le (by omega)
    rw [e] at h3 h13 h16
    have tk1 : List.take H ((rngI H (cntL l)).map (AV.int .i64)) = (rngI H (cntL l)).map (AV.int .i64) := List.take_of_length_le (by rw [List.length_map, rngI_len]; exact Nat.le_refl _)
    have tk2 : List.take H ((rngI H (msgL l)).map (AV.int .i64)) = (rngI H (msgL l)).map (AV.int .i64) := List.take_of_length_le (by rw [List.length_map, rngI_len]; exact Nat.le_refl _)
    rw [ofG_eq]
    simp (maxSteps := 4000000) only [go_sem, ↓reduceIte, reduceCtorEq, Nat.reduceEqDiff, Nat.reduceBEq, Nat.reduceAdd, Nat.reduceSub, Nat.reduceMul, Nat.reduceLT, Nat.reduceLeDiff, Nat.reduceBNe, Int.reduceBEq, Int.reduceBNe, Int.reduceLT, Int.reduceLE, Msg.a, Par.a, evG, evP, Nat.reduceMod, Nat.reduceDiv, Nat.reduceSub, Nat.reduceLeDiff, Nat.reduceMul, Nat.reduceAdd, t2, t3, t20, t21, h2, h3, g7, g8, h13, h16, hlt', tk1, tk2, List.drop_zero]
  have hlt' : (i : Int) < (l.length : Int) := by omega
  obtain ⟨x, hx⟩ := get_lt hlt
  obtain ⟨gr, gm, gk⟩ := hg x (List.mem_of_getElem? hx)
  have hge := at_map (f := Nd.a) hx
  simp only [Nd.a] at hge
  have cb := bufSize x.msgs gk
  have tk : l.take (i + 1) = l.take i ++ [x] := by rw [List.take_add_one, hx]; rfl
  have hpl : (l.take i).length ≤ 60 := by rw [List.length_take]; omega
  have hgp : ∀ y, y ∈ l.take i → y.Gd := fun y hy => hg y (List.mem_of_mem_take hy)
  have b3 : rwsN (l.take i) ≤ 60 * 1000 := Nat.le_trans (sumN_le fun y hy => (hgp y hy).rows) (Nat.mul_le_mul_right _ hpl)
  have b4 : msgN (l.take i) ≤ 60 * 1000 := Nat.le_trans (sumN_le fun y hy => (hgp y hy).msgs) (Nat.mul_le_mul_right _ hpl)
  have sz : ∀ y : Nd, y.Gd → sizes y.msgs ≤ 2000036000000 := fun y hy => by
    have := sizes_take hy.kok y.msgs.length
    rwa [List.take_length] at this
  have b5 : bytN (l.take i) ≤ 60 * 2000036000000 := Nat.le_trans (sumN_le fun y hy => sz y (hgp y hy)) (Nat.mul_le_mul_right _ hpl)
  have b1 : lvs (l.take i) ≤ 60 := Nat.le_trans List.countP_le_length hpl
  have b6 : emp (l.take i) ≤ 60 := Nat.le_trans List.countP_le_length hpl
  have bx := sz x ⟨gr, gm, gk⟩
  have w0 := wrapS (j := i) (by omega)
  have wN : ∀ a b : Nat, a + b ≤ 1000000000000000 → IntKind.i64.wrap ((a : Int) + (b : Int)) = ((a + b : Nat) : Int) := fun a b h => by rw [IntWalk.i64_in _ (by omega)]; omega
  have w3 := wN (rwsN (l.take i)) x.rows.length (by omega)
  have w4 := wN (msgN (l.take i)) x.msgs.length (by omega)
  have w5 := wN (bytN (l.take i)) (sizes x.msgs) (by omega)
  have w1 := wrapS (j := lvs (l.take i)) (by omega)
  have w2 := wrapS (j := emp (l.take i)) (by omega)
  have n3 : rwsN (l.take i ++ [x]) = rwsN (l.take i) + x.rows.length := sumN_snoc _ _ _
  have n4 : msgN (l.take i ++ [x]) = msgN (l.take i) + x.msgs.length := sumN_snoc _ _ _
  have n5 : bytN (l.take i ++ [x]) = bytN (l.take i) + sizes x.msgs := sumN_snoc _ _ _
  have fin : ∀ (σ' : St), σ'.T 2 = .ptr 2 0 0 → σ'.T 3 = .ptr 3 0 0 → σ'.T 19 = .sl (l.map Nd.a) → σ'.T 20 = .int .i64 l.length → σ'.T 21 = .int .i64 ((i + 1 : Nat) : Int) → σ'.H 2 = some ⟨9, 37, [cell0], 0⟩ → σ'.H 3 = some ⟨9, 37, [cellG l.length H (l.take (i + 1)) u7 u8], 0⟩ →
    σ'.T 1307 = .vrs 13 0 H u7 → σ'.T 1308 = .vrs 16 0 H u8 → σ'.H 13 = some ⟨1, 3, (rngI H (cntL (l.take (i + 1)))).map (AV.int .i64), 0⟩ → σ'.H 16 = some ⟨1, 3, (rngI H (msgL (l.take (i + 1)))).map (AV.int .i64), 0⟩ → ∃ m, m < l.length - i ∧ goI l H m σ' := fun σ' a1 a2 a3 a4 a5 a6 a7 a8 a9 c1 c2 =>
    ⟨l.length - (i + 1), by omega, i + 1, u7, u8, by omega, rfl, a1, a2, a3, a4, a5, a6, a7, a8, a9, c1, c2⟩
  -- the place of its level
  have outR : ¬ (0 ≤ x.level ∧ x.level < (H : Int)) → rngI H (cntL (l.take i ++ [x])) = rngI H (cntL (l.take i)) ∧ rngI H (msgL (l.take i ++ [x])) = rngI H (msgL (l.take i)) := fun ho => by
    have hne : ∀ j, j < H → (x.level == (j : Int)) = false := fun j hj => by simp; omega
    exact ⟨rngI_congr fun j hj => by rw [cntL_snoc, hne j hj]; rfl, rngI_congr fun j hj => by rw [msgL_snoc, hne j hj]; rfl⟩
  have inR : ∀ q : Nat, x.level = (q : Int) → q < H → (((rngI H (cntL (l.take i))).map (AV.int .i64)).getD q .und = .int .i64 (cntL (l.take i) q : Int)) ∧ (((rngI H (msgL (l.take i))).map (AV.int .i64)).getD q .und = .int .i64 (msgL (l.take i) q : Int)) ∧
      ((rngI H (cntL (l.take i))).map (AV.int .i64)).set q (.int .i64 ((cntL (l.take i) q + 1 : Nat) : Int)) = (rngI H (cntL (l.take i ++ [x]))).map (AV.int .i64) ∧
      ((rngI H (msgL (l.take i))).map (AV.int .i64)).set q (.int .i64 ((msgL (l.take i) q + x.msgs.length : Nat) : Int)) = (rngI H (msgL (l.take i ++ [x]))).map (AV.int .i64) ∧ IntKind.i64.wrap ((cntL (l.take i) q : Int) + 1) = ((cntL (l.take i) q + 1 : Nat) : Int) ∧ IntKind.i64.wrap ((msgL (l.take i) q : Int) + (x.msgs.length : Int)) = ((msgL (l.take i) q + x.msgs.length : Nat) : Int) := fun q hq hqH => by
    have hne : ∀ j, j ≠ q → (x.level == (j : Int)) = false := fun j hj => by simp; omega
    have hee : (x.level == (q : Int)) = true := by simp [hq]
    have k1 : cntL (l.take i ++ [x]) q = cntL (l.take i) q + 1 := by rw [cntL_snoc, hee]; rfl
    have k2 : msgL (l.take i ++ [x]) q = msgL (l.take i) q + x.msgs.length := by rw [msgL_snoc, hee]; rfl
    have c1 : cntL (l.take i) q ≤ 60 := Nat.le_trans List.countP_le_length hpl
    have c2 : msgL (l.take i) q ≤ 60 * 1000 := Nat.le_trans (sumN_le fun y hy => by
      split
      · exact (hgp y hy).msgs
      · omega) (Nat.mul_le_mul_right _ hpl)
    refine ⟨rngI_at _ hqH, rngI_at _ hqH, ?_, ?_, wrapS (by omega), wN _ _ (by omega)⟩
    · rw [← k1]; exact rngI_set fun j hj => by rw [cntL_snoc, hne j hj]; rfl
    · rw [← k2]; exact rngI_set fun j hj => by rw [msgL_snoc, hne j hj]; rfl
  have lz : ((rngI H (cntL (l.take i))).map (AV.int .i64)).length = H := by rw [List.length_map, rngI_len]
  have lz2 : ((rngI H (msgL (l.take i))).map (AV.int .i64)).length = H := by rw [List.length_map, rngI_len]
  by_cases hz : x.level = 0
  case neg =>
    have q0 : (x.level == 0) = false := by simpa using hz
    have n1 : lvs (l.take i ++ [x]) = lvs (l.take i) := by unfold lvs; rw [List.countP_append, List.countP_singleton, q0]; rfl
    have n6 : emp (l.take i ++ [x]) = emp (l.take i) := by unfold emp; rw [List.countP_append, List.countP_singleton, q0]; rfl
    by_cases h0 : 0 ≤ x.level
    case neg =>
      have h0' : ¬ x.level ≥ 0 := h0
      obtain ⟨o1, o2⟩ := outR fun q => h0 q.1
      (repeat (first | simp (maxSteps := 4000000) only [go_sem, ↓reduceIte, reduceCtorEq, Nat.reduceEqDiff, Nat.reduceBEq, Nat.reduceAdd, Nat.reduceSub, Nat.reduceMul, Nat.reduceLT, Nat.reduceLeDiff, Nat.reduceBNe, Int.reduceBEq, Int.reduceBNe, Int.reduceLT, Int.reduceLE, Msg.a, Par.a, evG, evP, Nat.reduceMod, Nat.reduceDiv, Nat.reduceSub, Nat.reduceLeDiff, Nat.reduceMul, Nat.reduceAdd, t2, t3, t19, t20, t21, h2, h3, g7, g8, h13, h16, hlt', hlt, hge, w0, w3, w4, w5, q0, h0, h0', List.length_map, Int.toNat_natCast] | refine calling (cb) ?_ | refine callingH (cb) ?_ | refine And.intro (by omega) ?_ | refine And.intro (fun d hd => by (repeat (rcases hd with rfl | hd; · exact ⟨rfl, rfl⟩)); cases hd) ?_))
      (repeat refine And.intro (by omega) ?_)
      refine fin _ ?_ ?_ ?_ ?_ ?_ ?_ ?_ ?_ ?_ ?_ ?_
      · simp (maxSteps := 4000000) only [go_sem, ↓reduceIte, reduceCtorEq, Nat.reduceEqDiff, Nat.reduceBEq, Nat.reduceAdd, Nat.reduceSub, Nat.reduceMul, Nat.reduceLT, Nat.reduceLeDiff, Nat.reduceBNe, Int.reduceBEq, Int.reduceBNe, Int.reduceLT, Int.reduceLE, Msg.a, Par.a, evG, evP, Nat.reduceMod, Nat.reduceDiv, Nat.reduceSub, Nat.reduceLeDiff, Nat.reduceMul, Nat.reduceAdd, t2]
      · simp (maxSteps := 4000000) only [go_sem, ↓reduceIte, reduceCtorEq, Nat.reduceEqDiff, Nat.reduceBEq, Nat.reduceAdd, Nat.reduceSub, Nat.reduceMul, Nat.reduceLT, Nat.reduceLeDiff, Nat.reduceBNe, Int.reduceBEq, Int.reduceBNe, Int.reduceLT, Int.reduceLE, Msg.a, Par.a, evG, evP, Nat.reduceMod, Nat.reduceDiv, Nat.reduceSub, Nat.reduceLeDiff, Nat.reduceMul, Nat.reduceAdd, t3]
      · simp (maxSteps := 4000000) only [go_sem, ↓reduceIte, reduceCtorEq, Nat.reduceEqDiff, Nat.reduceBEq, Nat.reduceAdd, Nat.reduceSub, Nat.reduceMul, Nat.reduceLT, Nat.reduceLeDiff, Nat.reduceBNe, Int.reduceBEq, Int.reduceBNe, Int.reduceLT, Int.reduceLE, Msg.a, Par.a, evG, evP, Nat.reduceMod, Nat.reduceDiv, Nat.reduceSub, Nat.reduceLeDiff, Nat.reduceMul, Nat.reduceAdd, t19]
      · simp (maxSteps := 4000000) only [go_sem, ↓reduceIte, reduceCtorEq, Nat.reduceEqDiff, Nat.reduceBEq, Nat.reduceAdd, Nat.reduceSub, Nat.reduceMul, Nat.reduceLT, Nat.reduceLeDiff, Nat.reduceBNe, Int.reduceBEq, Int.reduceBNe, Int.reduceLT, Int.reduceLE, Msg.a, Par.a, evG, evP, Nat.reduceMod, Nat.reduceDiv, Nat.reduceSub, Nat.reduceLeDiff, Nat.reduceMul, Nat.reduceAdd, t20]
      · simp (maxSteps := 4000000) only [go_sem, ↓reduceIte, reduceCtorEq, Nat.reduceEqDiff, Nat.reduceBEq, Nat.reduceAdd, Nat.reduceSub, Nat.reduceMul, Nat.reduceLT, Nat.reduceLeDiff, Nat.reduceBNe, Int.reduceBEq, Int.reduceBNe, Int.reduceLT, Int.reduceLE, Msg.a, Par.a, evG, evP, Nat.reduceMod, Nat.reduceDiv, Nat.reduceSub, Nat.reduceLeDiff, Nat.reduceMul, Nat.reduceAdd]
      · (simp (maxSteps := 4000000) only [go_sem, ↓reduceIte, reduceCtorEq, Nat.reduceEqDiff, Nat.reduceBEq, Nat.reduceAdd, Nat.reduceSub, Nat.reduceMul, Nat.reduceLT, Nat.reduceLeDiff, Nat.reduceBNe, Int.reduceBEq, Int.reduceBNe, Int.reduceLT, Int.reduceLE, Msg.a, Par.a, evG, evP, Nat.reduceMod, Nat.reduceDiv, Nat.reduceSub, Nat.reduceLeDiff, Nat.reduceMul, Nat.reduceAdd, h2]) <;> rfl
      · rw [tk]; unfold cellG; rw [n1, n3, n4, n5, n6]; (simp (maxSteps := 4000000) only [go_sem, ↓reduceIte, reduceCtorEq, Nat.reduceEqDiff, Nat.reduceBEq, Nat.reduceAdd, Nat.reduceSub, Nat.reduceMul, Nat.reduceLT, Nat.reduceLeDiff, Nat.reduceBNe, Int.reduceBEq, Int.reduceBNe, Int.reduceLT, Int.reduceLE, Msg.a, Par.a, evG, evP, Nat.reduceMod, Nat.reduceDiv, Nat.reduceSub, Nat.reduceLeDiff, Nat.reduceMul, Nat.reduceAdd, h3])
      · simp (maxSteps := 4000000) only [go_sem, ↓reduceIte, reduceCtorEq, Nat.reduceEqDiff, Nat.reduceBEq, Nat.reduceAdd, Nat.reduceSub, Nat.reduceMul, Nat.reduceLT, Nat.reduceLeDiff, Nat.reduceBNe, Int.reduceBEq, Int.reduceBNe, Int.reduceLT, Int.reduceLE, Msg.a, Par.a, evG, evP, Nat.reduceMod, Nat.reduceDiv, Nat.reduceSub, Nat.reduceLeDiff, Nat.reduceMul, Nat.reduceAdd, g7]
      · simp (maxSteps := 4000000) only [go_sem, ↓reduceIte, reduceCtorEq, Nat.reduceEqDiff, Nat.reduceBEq, Nat.reduceAdd, Nat.reduceSub, Nat.reduceMul, Nat.reduceLT, Nat.reduceLeDiff, Nat.reduceBNe, Int.reduceBEq, Int.reduceBNe, Int.reduceLT, Int.reduceLE, Msg.a, Par.a, evG, evP, Nat.reduceMod, Nat.reduceDiv, Nat.reduceSub, Nat.reduceLeDiff, Nat.reduceMul, Nat.reduceAdd, g8]
      · rw [tk, o1]; (simp (maxSteps := 4000000) only [go_sem, ↓reduceIte, reduceCtorEq, Nat.reduceEqDiff, Nat.reduceBEq, Nat.reduceAdd, Nat.reduceSub, Nat.reduceMul, Nat.reduceLT, Nat.reduceLeDiff, Nat.reduceBNe, Int.reduceBEq, Int.reduceBNe, Int.reduceLT, Int.reduceLE, Msg.a, Par.a, evG, evP, Nat.reduceMod, Nat.reduceDiv, Nat.reduceSub, Nat.reduceLeDiff, Nat.reduceMul, Nat.reduceAdd, h13])
      · rw [tk, o2]; (simp (maxSteps := 4000000) only [go_sem, ↓reduceIte, reduceCtorEq, Nat.reduceEqDiff, Nat.reduceBEq, Nat.reduceAdd, Nat.reduceSub, Nat.reduceMul, Nat.reduceLT, Nat.reduceLeDiff, Nat.reduceBNe, Int.reduceBEq, Int.reduceBNe, Int.reduceLT, Int.reduceLE, Msg.a, Par.a, evG, evP, Nat.reduceMod, Nat.reduceDiv, Nat.reduceSub, Nat.reduceLeDiff, Nat.reduceMul, Nat.reduceAdd, h16])
    have h0' : x.level ≥ 0 := h0
    obtain ⟨q, hq⟩ : ∃ q : Nat, x.level = (q : Int) := ⟨x.level.toNat, by omega⟩
    rw [hq] at hge h0 h0' q0
    by_cases hqH : q < H
    · obtain ⟨e1, e2, e3, e4, e5, e6⟩ := inR q hq hqH
      have hqH' : (q : Int) < (H : Int) := by omega
      (repeat (first | simp (maxSteps := 4000000) only [go_sem, ↓reduceIte, reduceCtorEq, Nat.reduceEqDiff, Nat.reduceBEq, Nat.reduceAdd, Nat.reduceSub, Nat.reduceMul, Nat.reduceLT, Nat.reduceLeDiff, Nat.reduceBNe, Int.reduceBEq, Int.reduceBNe, Int.reduceLT, Int.reduceLE, Msg.a, Par.a, evG, evP, Nat.reduceMod, Nat.reduceDiv, Nat.reduceSub, Nat.reduceLeDiff, Nat.reduceMul, Nat.reduceAdd, t2, t3, t19, t20, t21, h2, h3, g7, g8, h13, h16, hlt', hlt, hge, w0, w1, w2, w3, w4, w5, q0, h0, h0', hqH', hqH, e1, e2, e5, e6, lz, lz2, List.length_map, Int.toNat_natCast] | refine calling (cb) ?_ | refine callingH (cb) ?_ | refine And.intro (by omega) ?_ | refine And.intro (fun d hd => by (repeat (rcases hd with rfl | hd; · exact ⟨rfl, rfl⟩)); cases hd) ?_))
      (repeat refine And.intro (by omega) ?_)
      refine fin _ ?_ ?_ ?_ ?_ ?_ ?_ ?_ ?_ ?_ ?_ ?_
      · simp (maxSteps := 4000000) only [go_sem, ↓reduceIte, reduceCtorEq, Nat.reduceEqDiff, Nat.reduceBEq, Nat.reduceAdd, Nat.reduceSub, Nat.reduceMul, Nat.reduceLT, Nat.reduceLeDiff, Nat.reduceBNe, Int.reduceBEq, Int.reduceBNe, Int.reduceLT, Int.reduceLE, Msg.a, Par.a, evG, evP, Nat.reduceMod, Nat.reduceDiv, Nat.reduceSub, Nat.reduceLeDiff, Nat.reduceMul, Nat.reduceAdd, t2]
      · simp (maxSteps := 4000000) only [go_sem, ↓reduceIte, reduceCtorEq, Nat.reduceEqDiff, Nat.reduceBEq, Nat.reduceAdd, Nat.reduceSub, Nat.reduceMul, Nat.reduceLT, Nat.reduceLeDiff, Nat.reduceBNe, Int.reduceBEq, Int.reduceBNe, Int.reduceLT, Int.reduceLE, Msg.a, Par.a, evG, evP, Nat.reduceMod, Nat.reduceDiv, Nat.reduceSub, Nat.reduceLeDiff, Nat.reduceMul, Nat.reduceAdd, t3]
      · simp (maxSteps := 4000000) only [go_sem, ↓reduceIte, reduceCtorEq, Nat.reduceEqDiff, Nat.reduceBEq, Nat.reduceAdd, Nat.reduceSub, Nat.reduceMul, Nat.reduceLT, Nat.reduceLeDiff, Nat.reduceBNe, Int.reduceBEq, Int.reduceBNe, Int.reduceLT, Int.reduceLE, Msg.a, Par.a, evG, evP, Nat.reduceMod, Nat.reduceDiv, Nat.reduceSub, Nat.reduceLeDiff, Nat.reduceMul, Nat.reduceAdd, t19]
      · simp (maxSteps := 4000000) only [go_sem, ↓reduceIte, reduceCtorEq, Nat.reduceEqDiff, Nat.reduceBEq, Nat.reduceAdd, Nat.reduceSub, Nat.reduceMul, Nat.reduceLT, Nat.reduceLeDiff, Nat.reduceBNe, Int.reduceBEq, Int.reduceBNe, Int.reduceLT, Int.reduceLE, Msg.a, Par.a, evG, evP, Nat.reduceMod, Nat.reduceDiv, Nat.reduceSub, Nat.reduceLeDiff, Nat.reduceMul, Nat.reduceAdd, t20]
      · simp (maxSteps := 4000000) only [go_sem, ↓reduceIte, reduceCtorEq, Nat.reduceEqDiff, Nat.reduceBEq, Nat.reduceAdd, Nat.reduceSub, Nat.reduceMul, Nat.reduceLT, Nat.reduceLeDiff, Nat.reduceBNe, Int.reduceBEq, Int.reduceBNe, Int.reduceLT, Int.reduceLE, Msg.a, Par.a, evG, evP, Nat.reduceMod, Nat.reduceDiv, Nat.reduceSub, Nat.reduceLeDiff, Nat.reduceMul, Nat.reduceAdd]
      · (simp (maxSteps := 4000000) only [go_sem, ↓reduceIte, reduceCtorEq, Nat.reduceEqDiff, Nat.reduceBEq, Nat.reduceAdd, Nat.reduceSub, Nat.reduceMul, Nat.reduceLT, Nat.reduceLeDiff, Nat.reduceBNe, Int.reduceBEq, Int.reduceBNe, Int.reduceLT, Int.reduceLE, Msg.a, Par.a, evG, evP, Nat.reduceMod, Nat.reduceDiv, Nat.reduceSub, Nat.reduceLeDiff, Nat.reduceMul, Nat.reduceAdd, h2]) <;> rfl
      · rw [tk]; unfold cellG; rw [n1, n3, n4, n5, n6]; (simp (maxSteps := 4000000) only [go_sem, ↓reduceIte, reduceCtorEq, Nat.reduceEqDiff, Nat.reduceBEq, Nat.reduceAdd, Nat.reduceSub, Nat.reduceMul, Nat.reduceLT, Nat.reduceLeDiff, Nat.reduceBNe, Int.reduceBEq, Int.reduceBNe, Int.reduceLT, Int.reduceLE, Msg.a, Par.a, evG, evP, Nat.reduceMod, Nat.reduceDiv, Nat.reduceSub, Nat.reduceLeDiff, Nat.reduceMul, Nat.reduceAdd, h3])
      · simp (maxSteps := 4000000) only [go_sem, ↓reduceIte, reduceCtorEq, Nat.reduceEqDiff, Nat.reduceBEq, Nat.reduceAdd, Nat.reduceSub, Nat.reduceMul, Nat.reduceLT, Nat.reduceLeDiff, Nat.reduceBNe, Int.reduceBEq, Int.reduceBNe, Int.reduceLT, Int.reduceLE, Msg.a, Par.a, evG, evP, Nat.reduceMod, Nat.reduceDiv, Nat.reduceSub, Nat.reduceLeDiff, Nat.reduceMul, Nat.reduceAdd, g7]
      · simp (maxSteps := 4000000) only [go_sem, ↓reduceIte, reduceCtorEq, Nat.reduceEqDiff, Nat.reduceBEq, Nat.reduceAdd, Nat.reduceSub, Nat.reduceMul, Nat.reduceLT, Nat.reduceLeDiff, Nat.reduceBNe, Int.reduceBEq, Int.reduceBNe, Int.reduceLT, Int.reduceLE, Msg.a, Par.a, evG, evP, Nat.reduceMod, Nat.reduceDiv, Nat.reduceSub, Nat.reduceLeDiff, Nat.reduceMul, Nat.reduceAdd, g8]
      · rw [tk]; (simp (maxSteps := 4000000) only [go_sem, ↓reduceIte, reduceCtorEq, Nat.reduceEqDiff, Nat.reduceBEq, Nat.reduceAdd, Nat.reduceSub, Nat.reduceMul, Nat.reduceLT, Nat.reduceLeDiff, Nat.reduceBNe, Int.reduceBEq, Int.reduceBNe, Int.reduceLT, Int.reduceLE, Msg.a, Par.a, evG, evP, Nat.reduceMod, Nat.reduceDiv, Nat.reduceSub, Nat.reduceLeDiff, Nat.reduceMul, Nat.reduceAdd, e3])
      · rw [tk]; (simp (maxSteps := 4000000) only [go_sem, ↓reduceIte, reduceCtorEq, Nat.reduceEqDiff, Nat.reduceBEq, Nat.reduceAdd, Nat.reduceSub, Nat.reduceMul, Nat.reduceLT, Nat.reduceLeDiff, Nat.reduceBNe, Int.reduceBEq, Int.reduceBNe, Int.reduceLT, Int.reduceLE, Msg.a, Par.a, evG, evP, Nat.reduceMod, Nat.reduceDiv, Nat.reduceSub, Nat.reduceLeDiff, Nat.reduceMul, Nat.reduceAdd, e4])
    · obtain ⟨o1, o2⟩ := outR (by omega)
      have hqH' : ¬ (q : Int) < (H : Int) := by omega
      (repeat (first | simp (maxSteps := 4000000) only [go_sem, ↓reduceIte, reduceCtorEq, Nat.reduceEqDiff, Nat.reduceBEq, Nat.reduceAdd, Nat.reduceSub, Nat.reduceMul, Nat.reduceLT, Nat.reduceLeDiff, Nat.reduceBNe, Int.reduceBEq, Int.reduceBNe, Int.reduceLT, Int.reduceLE, Msg.a, Par.a, evG, evP, Nat.reduceMod, Nat.reduceDiv, Nat.reduceSub, Nat.reduceLeDiff, Nat.reduceMul, Nat.reduceAdd, t2, t3, t19, t20, t21, h2, h3, g7, g8, h13, h16, hlt', hlt, hge, w0, w1, w2, w3, w4, w5, q0, h0, h0', hqH', List.length_map, Int.toNat_natCast] | refine calling (cb) ?_ | refine callingH (cb) ?_ | refine And.intro (by omega) ?_ | refine And.intro (fun d hd => by (repeat (rcases hd with rfl | hd; · exact ⟨rfl, rfl⟩)); cases hd) ?_))
      (repeat refine And.intro (by omega) ?_)
      refine fin _ ?_ ?_ ?_ ?_ ?_ ?_ ?_ ?_ ?_ ?_ ?_
      · simp (maxSteps := 4000000) only [go_sem, ↓reduceIte, reduceCtorEq, Nat.reduceEqDiff, Nat.reduceBEq, Nat.reduceAdd, Nat.reduceSub, Nat.reduceMul, Nat.reduceLT, Nat.reduceLeDiff, Nat.reduceBNe, Int.reduceBEq, Int.reduceBNe, Int.reduceLT, Int.reduceLE, Msg.a, Par.a, evG, evP, Nat.reduceMod, Nat.reduceDiv, Nat.reduceSub, Nat.reduceLeDiff, Nat.reduceMul, Nat.reduceAdd, t2]
      · simp (maxSteps := 4000000) only [go_sem, ↓reduceIte, reduceCtorEq, Nat.reduceEqDiff, Nat.reduceBEq, Nat.reduceAdd, Nat.reduceSub, Nat.reduceMul, Nat.reduceLT, Nat.reduceLeDiff, Nat.reduceBNe, Int.reduceBEq, Int.reduceBNe, Int.reduceLT, Int.reduceLE, Msg.a, Par.a, evG, evP, Nat.reduceMod, Nat.reduceDiv, Nat.reduceSub, Nat.reduceLeDiff, Nat.reduceMul, Nat.reduceAdd, t3]
      · simp (maxSteps := 4000000) only [go_sem, ↓reduceIte, reduceCtorEq, Nat.reduceEqDiff, Nat.reduceBEq, Nat.reduceAdd, Nat.reduceSub, Nat.reduceMul, Nat.reduceLT, Nat.reduceLeDiff, Nat.reduceBNe, Int.reduceBEq, Int.reduceBNe, Int.reduceLT, Int.reduceLE, Msg.a, Par.a, evG, evP, Nat.reduceMod, Nat.reduceDiv, Nat.reduceSub, Nat.reduceLeDiff, Nat.reduceMul, Nat.reduceAdd, t19]
      · simp (maxSteps := 4000000) only [go_sem, ↓reduceIte, reduceCtorEq, Nat.reduceEqDiff, Nat.reduceBEq, Nat.reduceAdd, Nat.reduceSub, Nat.reduceMul, Nat.reduceLT, Nat.reduceLeDiff, Nat.reduceBNe, Int.reduceBEq, Int.reduceBNe, Int.reduceLT, Int.reduceLE, Msg.a, Par.a, evG, evP, Nat.reduceMod, Nat.reduceDiv, Nat.reduceSub, Nat.reduceLeDiff, Nat.reduceMul, Nat.reduceAdd, t20]
      · simp (maxSteps := 4000000) only [go_sem, ↓reduceIte, reduceCtorEq, Nat.reduceEqDiff, Nat.reduceBEq, Nat.reduceAdd, Nat.reduceSub, Nat.reduceMul, Nat.reduceLT, Nat.reduceLeDiff, Nat.reduceBNe, Int.reduceBEq, Int.reduceBNe, Int.reduceLT, Int.reduceLE, Msg.a, Par.a, evG, evP, Nat.reduceMod, Nat.reduceDiv, Nat.reduceSub, Nat.reduceLeDiff, Nat.reduceMul, Nat.reduceAdd]
      · (simp (maxSteps := 4000000) only [go_sem, ↓reduceIte, reduceCtorEq, Nat.reduceEqDiff, Nat.reduceBEq, Nat.reduceAdd, Nat.reduceSub, Nat.reduceMul, Nat.reduceLT, Nat.reduceLeDiff, Nat.reduceBNe, Int.reduceBEq, Int.reduceBNe, Int.reduceLT, Int.reduceLE, Msg.a, Par.a, evG, evP, Nat.reduceMod, Nat.reduceDiv, Nat.reduceSub, Nat.reduceLeDiff, Nat.reduceMul, Nat.reduceAdd, h2]) <;> rfl
      · rw [tk]; unfold cellG; rw [n1, n3, n4, n5, n6]; (simp (maxSteps := 4000000) only [go_sem, ↓reduceIte, reduceCtorEq, Nat.reduceEqDiff, Nat.reduceBEq, Nat.reduceAdd, Nat.reduceSub, Nat.reduceMul, Nat.reduceLT, Nat.reduceLeDiff, Nat.reduceBNe, Int.reduceBEq, Int.reduceBNe, Int.reduceLT, Int.reduceLE, Msg.a, Par.a, evG, evP, Nat.reduceMod, Nat.reduceDiv, Nat.reduceSub, Nat.reduceLeDiff, Nat.reduceMul, Nat.reduceAdd, h3])
      · simp (maxSteps := 4000000) only [go_sem, ↓reduceIte, reduceCtorEq, Nat.reduceEqDiff, Nat.reduceBEq, Nat.reduceAdd, Nat.reduceSub, Nat.reduceMul, Nat.reduceLT, Nat.reduceLeDiff, Nat.reduceBNe, Int.reduceBEq, Int.reduceBNe, Int.reduceLT, Int.reduceLE, Msg.a, Par.a, evG, evP, Nat.reduceMod, Nat.reduceDiv, Nat.reduceSub, Nat.reduceLeDiff, Nat.reduceMul, Nat.reduceAdd, g7]
      · simp (maxSteps := 4000000) only [go_sem, ↓reduceIte, reduceCtorEq, Nat.reduceEqDiff, Nat.reduceBEq, Nat.reduceAdd, Nat.reduceSub, Nat.reduceMul, Nat.reduceLT, Nat.reduceLeDiff, Nat.reduceBNe, Int.reduceBEq, Int.reduceBNe, Int.reduceLT, Int.reduceLE, Msg.a, Par.a, evG, evP, Nat.reduceMod, Nat.reduceDiv, Nat.reduceSub, Nat.reduceLeDiff, Nat.reduceMul, Nat.reduceAdd, g8]
      · rw [tk, o1]; (simp (maxSteps := 4000000) only [go_sem, ↓reduceIte, reduceCtorEq, Nat.reduceEqDiff, Nat.reduceBEq, Nat.reduceAdd, Nat.reduceSub, Nat.reduceMul, Nat.reduceLT, Nat.reduceLeDiff, Nat.reduceBNe, Int.reduceBEq, Int.reduceBNe, Int.reduceLT, Int.reduceLE, Msg.a, Par.a, evG, evP, Nat.reduceMod, Nat.reduceDiv, Nat.reduceSub, Nat.reduceLeDiff, Nat.reduceMul, Nat.reduceAdd, h13])
      · rw [tk, o2]; (simp (maxSteps := 4000000) only [go_sem, ↓reduceIte, reduceCtorEq, Nat.reduceEqDiff, Nat.reduceBEq, Nat.reduceAdd, Nat.reduceSub, Nat.reduceMul, Nat.reduceLT, Nat.reduceLeDiff, Nat.reduceBNe, Int.reduceBEq, Int.reduceBNe, Int.reduceLT, Int.reduceLE, Msg.a, Par.a, evG, evP, Nat.reduceMod, Nat.reduceDiv, Nat.reduceSub, Nat.reduceLeDiff, Nat.reduceMul, Nat.reduceAdd, h16])
  have q0 : (x.level == 0) = true := by simp [hz]
  have n1 : lvs (l.take i ++ [x]) = lvs (l.take i) + 1 := by unfold lvs; rw [List.countP_append, List.countP_singleton, q0]; rfl
  rw [hz] at hge
  have z0 : ((0 : Int) == 0) = true := rfl
  have z1 : (0 : Int) ≥ 0 := Int.le_refl 0
  have z2 : (0 : Int) ≤ 0 := Int.le_refl 0
  by_cases hrw : x.rows.length = 0
  · have r0 : ((x.rows.length : Int) == 0) = true := by rw [hrw]; rfl
    have n6 : emp (l.take i ++ [x]) = emp (l.take i) + 1 := by
      unfold emp
      have r0' : (x.rows.length == 0) = true := beq_iff_eq.2 hrw
      rw [List.countP_append, List.countP_singleton, q0, r0']; rfl
    by_cases hqH : 0 < H
    · obtain ⟨e1, e2, e3, e4, e5, e6⟩ := inR 0 hz hqH
      have hqH' : (0 : Int) < (H : Int) := by omega
      (repeat (first | simp (maxSteps := 4000000) only [go_sem, ↓reduceIte, reduceCtorEq, Nat.reduceEqDiff, Nat.reduceBEq, Nat.reduceAdd, Nat.reduceSub, Nat.reduceMul, Nat.reduceLT, Nat.reduceLeDiff, Nat.reduceBNe, Int.reduceBEq, Int.reduceBNe, Int.reduceLT, Int.reduceLE, Msg.a, Par.a, evG, evP, Nat.reduceMod, Nat.reduceDiv, Nat.reduceSub, Nat.reduceLeDiff, Nat.reduceMul, Nat.reduceAdd, t2, t3, t19, t20, t21, h2, h3, g7, g8, h13, h16, hlt', hlt, hge, w0, w1, w2, w3, w4, w5, z0, z1, z2, r0, hqH', hqH, e1, e2, e5, e6, lz, lz2, Int.toNat_zero, List.length_map, Int.toNat_natCast] | refine calling (cb) ?_ | refine callingH (cb) ?_ | refine And.intro (by omega) ?_ | refine And.intro (fun d hd => by (repeat (rcases hd with rfl | hd; · exact ⟨rfl, rfl⟩)); cases hd) ?_))
      (repeat refine And.intro (by omega) ?_)
      refine fin _ ?_ ?_ ?_ ?_ ?_ ?_ ?_ ?_ ?_ ?_ ?_
      · simp (maxSteps := 4000000) only [go_sem, ↓reduceIte, reduceCtorEq, Nat.reduceEqDiff, Nat.reduceBEq, Nat.reduceAdd, Nat.reduceSub, Nat.reduceMul, Nat.reduceLT, Nat.reduceLeDiff, Nat.reduceBNe, Int.reduceBEq, Int.reduceBNe, Int.reduceLT, Int.reduceLE, Msg.a, Par.a, evG, evP, Nat.reduceMod, Nat.reduceDiv, Nat.reduceSub, Nat.reduceLeDiff, Nat.reduceMul, Nat.reduceAdd, t2]
      · simp (maxSteps := 4000000) only [go_sem, ↓reduceIte, reduceCtorEq, Nat.reduceEqDiff, Nat.reduceBEq, Nat.reduceAdd, Nat.reduceSub, Nat.reduceMul, Nat.reduceLT, Nat.reduceLeDiff, Nat.reduceBNe, Int.reduceBEq, Int.reduceBNe, Int.reduceLT, Int.reduceLE, Msg.a, Par.a, evG, evP, Nat.reduceMod, Nat.reduceDiv, Nat.reduceSub, Nat.reduceLeDiff, Nat.reduceMul, Nat.reduceAdd, t3]
      · simp (maxSteps := 4000000) only [go_sem, ↓reduceIte, reduceCtorEq, Nat.reduceEqDiff, Nat.reduceBEq, Nat.reduceAdd, Nat.reduceSub, Nat.reduceMul, Nat.reduceLT, Nat.reduceLeDiff, Nat.reduceBNe, Int.reduceBEq, Int.reduceBNe, Int.reduceLT, Int.reduceLE, Msg.a, Par.a, evG, evP, Nat.reduceMod, Nat.reduceDiv, Nat.reduceSub, Nat.reduceLeDiff, Nat.reduceMul, Nat.reduceAdd, t19]
      · simp (maxSteps := 4000000) only [go_sem, ↓reduceIte, reduceCtorEq, Nat.reduceEqDiff, Nat.reduceBEq, Nat.reduceAdd, Nat.reduceSub, Nat.reduceMul, Nat.reduceLT, Nat.reduceLeDiff, Nat.reduceBNe, Int.reduceBEq, Int.reduceBNe, Int.reduceLT, Int.reduceLE, Msg.a, Par.a, evG, evP, Nat.reduceMod, Nat.reduceDiv, Nat.reduceSub, Nat.reduceLeDiff, Nat.reduceMul, Nat.reduceAdd, t20]
      · simp (maxSteps := 4000000) only [go_sem, ↓reduceIte, reduceCtorEq, Nat.reduceEqDiff, Nat.reduceBEq, Nat.reduceAdd, Nat.reduceSub, Nat.reduceMul, Nat.reduceLT, Nat.reduceLeDiff, Nat.reduceBNe, Int.reduceBEq, Int.reduceBNe, Int.reduceLT, Int.reduceLE, Msg.a, Par.a, evG, evP, Nat.reduceMod, Nat.reduceDiv, Nat.reduceSub, Nat.reduceLeDiff, Nat.reduceMul, Nat.reduceAdd]
      · (simp (maxSteps := 4000000) only [go_sem, ↓reduceIte, reduceCtorEq, Nat.reduceEqDiff, Nat.reduceBEq, Nat.reduceAdd, Nat.reduceSub, Nat.reduceMul, Nat.reduceLT, Nat.reduceLeDiff, Nat.reduceBNe, Int.reduceBEq, Int.reduceBNe, Int.reduceLT, Int.reduceLE, Msg.a, Par.a, evG, evP, Nat.reduceMod, Nat.reduceDiv, Nat.reduceSub, Nat.reduceLeDiff, Nat.reduceMul, Nat.reduceAdd, h2]) <;> rfl
      · rw [tk]; unfold cellG; rw [n1, n3, n4, n5, n6]; (simp (maxSteps := 4000000) only [go_sem, ↓reduceIte, reduceCtorEq, Nat.reduceEqDiff, Nat.reduceBEq, Nat.reduceAdd, Nat.reduceSub, Nat.reduceMul, Nat.reduceLT, Nat.reduceLeDiff, Nat.reduceBNe, Int.reduceBEq, Int.reduceBNe, Int.reduceLT, Int.reduceLE, Msg.a, Par.a, evG, evP, Nat.reduceMod, Nat.reduceDiv, Nat.reduceSub, Nat.reduceLeDiff, Nat.reduceMul, Nat.reduceAdd, h3])
      · simp (maxSteps := 4000000) only [go_sem, ↓reduceIte, reduceCtorEq, Nat.reduceEqDiff, Nat.reduceBEq, Nat.reduceAdd, Nat.reduceSub, Nat.reduceMul, Nat.reduceLT, Nat.reduceLeDiff, Nat.reduceBNe, Int.reduceBEq, Int.reduceBNe, Int.reduceLT, Int.reduceLE, Msg.a, Par.a, evG, evP, Nat.reduceMod, Nat.reduceDiv, Nat.reduceSub, Nat.reduceLeDiff, Nat.reduceMul, Nat.reduceAdd, g7]
      · simp (maxSteps := 4000000) only [go_sem, ↓reduceIte, reduceCtorEq, Nat.reduceEqDiff, Nat.reduceBEq, Nat.reduceAdd, Nat.reduceSub, Nat.reduceMul, Nat.reduceLT, Nat.reduceLeDiff, Nat.reduceBNe, Int.reduceBEq, Int.reduceBNe, Int.reduceLT, Int.reduceLE, Msg.a, Par.a, evG, evP, Nat.reduceMod, Nat.reduceDiv, Nat.reduceSub, Nat.reduceLeDiff, Nat.reduceMul, Nat.reduceAdd, g8]
      · rw [tk]; (simp (maxSteps := 4000000) only [go_sem, ↓reduceIte, reduceCtorEq, Nat.reduceEqDiff, Nat.reduceBEq, Nat.reduceAdd, Nat.reduceSub, Nat.reduceMul, Nat.reduceLT, Nat.reduceLeDiff, Nat.reduceBNe, Int.reduceBEq, Int.reduceBNe, Int.reduceLT, Int.reduceLE, Msg.a, Par.a, evG, evP, Nat.reduceMod, Nat.reduceDiv, Nat.reduceSub, Nat.reduceLeDiff, Nat.reduceMul, Nat.reduceAdd, e3])
      · rw [tk]; (simp (maxSteps := 4000000) only [go_sem, ↓reduceIte, reduceCtorEq, Nat.reduceEqDiff, Nat.reduceBEq, Nat.reduceAdd, Nat.reduceSub, Nat.reduceMul, Nat.reduceLT, Nat.reduceLeDiff, Nat.reduceBNe, Int.reduceBEq, Int.reduceBNe, Int.reduceLT, Int.reduceLE, Msg.a, Par.a, evG, evP, Nat.reduceMod, Nat.reduceDiv, Nat.reduceSub, Nat.reduceLeDiff, Nat.reduceMul, Nat.reduceAdd, e4])
    · obtain ⟨o1, o2⟩ := outR (by omega)
      have hqH' : ¬ (0 : Int) < (H : Int) := by omega
      (repeat (first | simp (maxSteps := 4000000) only [go_sem, ↓reduceIte, reduceCtorEq, Nat.reduceEqDiff, Nat.reduceBEq, Nat.reduceAdd, Nat.reduceSub, Nat.reduceMul, Nat.reduceLT, Nat.reduceLeDiff, Nat.reduceBNe, Int.reduceBEq, Int.reduceBNe, Int.reduceLT, Int.reduceLE, Msg.a, Par.a, evG, evP, Nat.reduceMod, Nat.reduceDiv, Nat.reduceSub, Nat.reduceLeDiff, Nat.reduceMul, Nat.reduceAdd, t2, t3, t19, t20, t21, h2, h3, g7, g8, h13, h16, hlt', hlt, hge, w0, w1, w2, w3, w4, w5, z0, z1, z2, r0, hqH', List.length_map, Int.toNat_natCast] | refine calling (cb) ?_ | refine callingH (cb) ?_ | refine And.intro (by omega) ?_ | refine And.intro (fun d hd => by (repeat (rcases hd with rfl | hd; · exact ⟨rfl, rfl⟩)); cases hd) ?_))
      (repeat refine And.intro (by omega) ?_)
      refine fin _ ?_ ?_ ?_ ?_ ?_ ?_ ?_ ?_ ?_ ?_ ?_
      · simp (maxSteps := 4000000) only [go_sem, ↓reduceIte, reduceCtorEq, Nat.reduceEqDiff, Nat.reduceBEq, Nat.reduceAdd, Nat.reduceSub, Nat.reduceMul, Nat.reduceLT, Nat.reduceLeDiff, Nat.reduceBNe, Int.reduceBEq, Int.reduceBNe, Int.reduceLT, Int.reduceLE, Msg.a, Par.a, evG, evP, Nat.reduceMod, Nat.reduceDiv, Nat.reduceSub, Nat.reduceLeDiff, Nat.reduceMul, Nat.reduceAdd, t2]
      · simp (maxSteps := 4000000) only [go_sem, ↓reduceIte, reduceCtorEq, Nat.reduceEqDiff, Nat.reduceBEq, Nat.reduceAdd, Nat.reduceSub, Nat.reduceMul, Nat.reduceLT, Nat.reduceLeDiff, Nat.reduceBNe, Int.reduceBEq, Int.reduceBNe, Int.reduceLT, Int.reduceLE, Msg.a, Par.a, evG, evP, Nat.reduceMod, Nat.reduceDiv, Nat.reduceSub, Nat.reduceLeDiff, Nat.reduceMul, Nat.reduceAdd, t3]
      · simp (maxSteps := 4000000) only [go_sem, ↓reduceIte, reduceCtorEq, Nat.reduceEqDiff, Nat.reduceBEq, Nat.reduceAdd, Nat.reduceSub, Nat.reduceMul, Nat.reduceLT, Nat.reduceLeDiff, Nat.reduceBNe, Int.reduceBEq, Int.reduceBNe, Int.reduceLT, Int.reduceLE, Msg.a, Par.a, evG, evP, Nat.reduceMod, Nat.reduceDiv, Nat.reduceSub, Nat.reduceLeDiff, Nat.reduceMul, Nat.reduceAdd, t19]
      · simp (maxSteps := 4000000) only [go_sem, ↓reduceIte, reduceCtorEq, Nat.reduceEqDiff, Nat.reduceBEq, Nat.reduceAdd, Nat.reduceSub, Nat.reduceMul, Nat.reduceLT, Nat.reduceLeDiff, Nat.reduceBNe, Int.reduceBEq, Int.reduceBNe, Int.reduceLT, Int.reduceLE, Msg.a, Par.a, evG, evP, Nat.reduceMod, Nat.reduceDiv, Nat.reduceSub, Nat.reduceLeDiff, Nat.reduceMul, Nat.reduceAdd, t20]
      · simp (maxSteps := 4000000) only [go_sem, ↓reduceIte, reduceCtorEq, Nat.reduceEqDiff, Nat.reduceBEq, Nat.reduceAdd, Nat.reduceSub, Nat.reduceMul, Nat.reduceLT, Nat.reduceLeDiff, Nat.reduceBNe, Int.reduceBEq, Int.reduceBNe, Int.reduceLT, Int.reduceLE, Msg.a, Par.a, evG, evP, Nat.reduceMod, Nat.reduceDiv, Nat.reduceSub, Nat.reduceLeDiff, Nat.reduceMul, Nat.reduceAdd]
      · (simp (maxSteps := 4000000) only [go_sem, ↓reduceIte, reduceCtorEq, Nat.reduceEqDiff, Nat.reduceBEq, Nat.reduceAdd, Nat.reduceSub, Nat.reduceMul, Nat.reduceLT, Nat.reduceLeDiff, Nat.reduceBNe, Int.reduceBEq, Int.reduceBNe, Int.reduceLT, Int.reduceLE, Msg.a, Par.a, evG, evP, Nat.reduceMod, Nat.reduceDiv, Nat.reduceSub, Nat.reduceLeDiff, Nat.reduceMul, Nat.reduceAdd, h2]) <;> rfl
      · rw [tk]; unfold cellG; rw [n1, n3, n4, n5, n6]; (simp (maxSteps := 4000000) only [go_sem, ↓reduceIte, reduceCtorEq, Nat.reduceEqDiff, Nat.reduceBEq, Nat.reduceAdd, Nat.reduceSub, Nat.reduceMul, Nat.reduceLT, Nat.reduceLeDiff, Nat.reduceBNe, Int.reduceBEq, Int.reduceBNe, Int.reduceLT, Int.reduceLE, Msg.a, Par.a, evG, evP, Nat.reduceMod, Nat.reduceDiv, Nat.reduceSub, Nat.reduceLeDiff, Nat.reduceMul, Nat.reduceAdd, h3])
      · simp (maxSteps := 4000000) only [go_sem, ↓reduceIte, reduceCtorEq, Nat.reduceEqDiff, Nat.reduceBEq, Nat.reduceAdd, Nat.reduceSub, Nat.reduceMul, Nat.reduceLT, Nat.reduceLeDiff, Nat.reduceBNe, Int.reduceBEq, Int.reduceBNe, Int.reduceLT, Int.reduceLE, Msg.a, Par.a, evG, evP, Nat.reduceMod, Nat.reduceDiv, Nat.reduceSub, Nat.reduceLeDiff, Nat.reduceMul, Nat.reduceAdd, g7]
      · simp (maxSteps := 4000000) only [go_sem, ↓reduceIte, reduceCtorEq, Nat.reduceEqDiff, Nat.reduceBEq, Nat.reduceAdd, Nat.reduceSub, Nat.reduceMul, Nat.reduceLT, Nat.reduceLeDiff, Nat.reduceBNe, Int.reduceBEq, Int.reduceBNe, Int.reduceLT, Int.reduceLE, Msg.a, Par.a, evG, evP, Nat.reduceMod, Nat.reduceDiv, Nat.reduceSub, Nat.reduceLeDiff, Nat.reduceMul, Nat.reduceAdd, g8]
      · rw [tk, o1]; (simp (maxSteps := 4000000) only [go_sem, ↓reduceIte, reduceCtorEq, Nat.reduceEqDiff, Nat.reduceBEq, Nat.reduceAdd, Nat.reduceSub, Nat.reduceMul, Nat.reduceLT, Nat.reduceLeDiff, Nat.reduceBNe, Int.reduceBEq, Int.reduceBNe, Int.reduceLT, Int.reduceLE, Msg.a, Par.a, evG, evP, Nat.reduceMod, Nat.reduceDiv, Nat.reduceSub, Nat.reduceLeDiff, Nat.reduceMul, Nat.reduceAdd, h13])
      · rw [tk, o2]; (simp (maxSteps := 4000000) only [go_sem, ↓reduceIte, reduceCtorEq, Nat.reduceEqDiff, Nat.reduceBEq, Nat.reduceAdd, Nat.reduceSub, Nat.reduceMul, Nat.reduceLT, Nat.reduceLeDiff, Nat.reduceBNe, Int.reduceBEq, Int.reduceBNe, Int.reduceLT, Int.reduceLE, Msg.a, Par.a, evG, evP, Nat.reduceMod, Nat.reduceDiv, Nat.reduceSub, Nat.reduceLeDiff, Nat.reduceMul, Nat.reduceAdd, h16])
  · have r0 : ((x.rows.length : Int) == 0) = false := beq_eq_false_iff_ne.2 (by omega)
    have n6 : emp (l.take i ++ [x]) = emp (l.take i) := by
      unfold emp
      have r0' : (x.rows.length == 0) = false := beq_eq_false_iff_ne.2 hrw
      rw [List.countP_append, List.countP_singleton, q0, r0']; rfl
    by_cases hqH : 0 < H
    · obtain ⟨e1, e2, e3, e4, e5, e6⟩ := inR 0 hz hqH
      have hqH' : (0 : Int) < (H : Int) := by omega
      (repeat (first | simp (maxSteps := 4000000) only [go_sem, ↓reduceIte, reduceCtorEq, Nat.reduceEqDiff, Nat.reduceBEq, Nat.reduceAdd, Nat.reduceSub, Nat.reduceMul, Nat.reduceLT, Nat.reduceLeDiff, Nat.reduceBNe, Int.reduceBEq, Int.reduceBNe, Int.reduceLT, Int.reduceLE, Msg.a, Par.a, evG, evP, Nat.reduceMod, Nat.reduceDiv, Nat.reduceSub, Nat.reduceLeDiff, Nat.reduceMul, Nat.reduceAdd, t2, t3, t19, t20, t21, h2, h3, g7, g8, h13, h16, hlt', hlt, hge, w0, w1, w2, w3, w4, w5, z0, z1, z2, r0, hqH', hqH, e1, e2, e5, e6, lz, lz2, Int.toNat_zero, List.length_map, Int.toNat_natCast] | refine calling (cb) ?_ | refine callingH (cb) ?_ | refine And.intro (by omega) ?_ | refine And.intro (fun d hd => by (repeat (rcases hd with rfl | hd; · exact ⟨rfl, rfl⟩)); cases hd) ?_))
      (repeat refine And.intro (by omega) ?_)
      refine fin _ ?_ ?_ ?_ ?_ ?_ ?_ ?_ ?_ ?_ ?_ ?_
      · simp (maxSteps := 4000000) only [go_sem, ↓reduceIte, reduceCtorEq, Nat.reduceEqDiff, Nat.reduceBEq, Nat.reduceAdd, Nat.reduceSub, Nat.reduceMul, Nat.reduceLT, Nat.reduceLeDiff, Nat.reduceBNe, Int.reduceBEq, Int.reduceBNe, Int.reduceLT, Int.reduceLE, Msg.a, Par.a, evG, evP, Nat.reduceMod, Nat.reduceDiv, Nat.reduceSub, Nat.reduceLeDiff, Nat.reduceMul, Nat.reduceAdd, t2]
      · simp (maxSteps := 4000000) only [go_sem, ↓reduceIte, reduceCtorEq, Nat.reduceEqDiff, Nat.reduceBEq, Nat.reduceAdd, Nat.reduceSub, Nat.reduceMul, Nat.reduceLT, Nat.reduceLeDiff, Nat.reduceBNe, Int.reduceBEq, Int.reduceBNe, Int.reduceLT, Int.reduceLE, Msg.a, Par.a, evG, evP, Nat.reduceMod, Nat.reduceDiv, Nat.reduceSub, Nat.reduceLeDiff, Nat.reduceMul, Nat.reduceAdd, t3]
      · simp (maxSteps := 4000000) only [go_sem, ↓reduceIte, reduceCtorEq, Nat.reduceEqDiff, Nat.reduceBEq, Nat.reduceAdd, Nat.reduceSub, Nat.reduceMul, Nat.reduceLT, Nat.reduceLeDiff, Nat.reduceBNe, Int.reduceBEq, Int.reduceBNe, Int.reduceLT, Int.reduceLE, Msg.a, Par.a, evG, evP, Nat.reduceMod, Nat.reduceDiv, Nat.reduceSub, Nat.reduceLeDiff, Nat.reduceMul, Nat.reduceAdd, t19]
      · simp (maxSteps := 4000000) only [go_sem, ↓reduceIte, reduceCtorEq, Nat.reduceEqDiff, Nat.reduceBEq, Nat.reduceAdd, Nat.reduceSub, Nat.reduceMul, Nat.reduceLT, Nat.reduceLeDiff, Nat.reduceBNe, Int.reduceBEq, Int.reduceBNe, Int.reduceLT, Int.reduceLE, Msg.a, Par.a, evG, evP, Nat.reduceMod, Nat.reduceDiv, Nat.reduceSub, Nat.reduceLeDiff, Nat.reduceMul, Nat.reduceAdd, t20]
      · simp (maxSteps := 4000000) only [go_sem, ↓reduceIte, reduceCtorEq, Nat.reduceEqDiff, Nat.reduceBEq, Nat.reduceAdd, Nat.reduceSub, Nat.reduceMul, Nat.reduceLT, Nat.reduceLeDiff, Nat.reduceBNe, Int.reduceBEq, Int.reduceBNe, Int.reduceLT, Int.reduceLE, Msg.a, Par.a, evG, evP, Nat.reduceMod, Nat.reduceDiv, Nat.reduceSub, Nat.reduceLeDiff, Nat.reduceMul, Nat.reduceAdd]
      · (simp (maxSteps := 4000000) only [go_sem, ↓reduceIte, reduceCtorEq, Nat.reduceEqDiff, Nat.reduceBEq, Nat.reduceAdd, Nat.reduceSub, Nat.reduceMul, Nat.reduceLT, Nat.reduceLeDiff, Nat.reduceBNe, Int.reduceBEq, Int.reduceBNe, Int.reduceLT, Int.reduceLE, Msg.a, Par.a, evG, evP, Nat.reduceMod, Nat.reduceDiv, Nat.reduceSub, Nat.reduceLeDiff, Nat.reduceMul, Nat.reduceAdd, h2]) <;> rfl
      · rw [tk]; unfold cellG; rw [n1, n3, n4, n5, n6]; (simp (maxSteps := 4000000) only [go_sem, ↓reduceIte, reduceCtorEq, Nat.reduceEqDiff, Nat.reduceBEq, Nat.reduceAdd, Nat.reduceSub, Nat.reduceMul, Nat.reduceLT, Nat.reduceLeDiff, Nat.reduceBNe, Int.reduceBEq, Int.reduceBNe, Int.reduceLT, Int.reduceLE, Msg.a, Par.a, evG, evP, Nat.reduceMod, Nat.reduceDiv, Nat.reduceSub, Nat.reduceLeDiff, Nat.reduceMul, Nat.reduceAdd, h3])
      · simp (maxSteps := 4000000) only [go_sem, ↓reduceIte, reduceCtorEq, Nat.reduceEqDiff, Nat.reduceBEq, Nat.reduceAdd, Nat.reduceSub, Nat.reduceMul, Nat.reduceLT, Nat.reduceLeDiff, Nat.reduceBNe, Int.reduceBEq, Int.reduceBNe, Int.reduceLT, Int.reduceLE, Msg.a, Par.a, evG, evP, Nat.reduceMod, Nat.reduceDiv, Nat.reduceSub, Nat.reduceLeDiff, Nat.reduceMul, Nat.reduceAdd, g7]
      · simp (maxSteps := 4000000) only [go_sem, ↓reduceIte, reduceCtorEq, Nat.reduceEqDiff, Nat.reduceBEq, Nat.reduceAdd, Nat.reduceSub, Nat.reduceMul, Nat.reduceLT, Nat.reduceLeDiff, Nat.reduceBNe, Int.reduceBEq, Int.reduceBNe, Int.reduceLT, Int.reduceLE, Msg.a, Par.a, evG, evP, Nat.reduceMod, Nat.reduceDiv, Nat.reduceSub, Nat.reduceLeDiff, Nat.reduceMul, Nat.reduceAdd, g8]
      · rw [tk]; (simp (maxSteps := 4000000) only [go_sem, ↓reduceIte, reduceCtorEq, Nat.reduceEqDiff, Nat.reduceBEq, Nat.reduceAdd, Nat.reduceSub, Nat.reduceMul, Nat.reduceLT, Nat.reduceLeDiff, Nat.reduceBNe, Int.reduceBEq, Int.reduceBNe, Int.reduceLT, Int.reduceLE, Msg.a, Par.a, evG, evP, Nat.reduceMod, Nat.reduceDiv, Nat.reduceSub, Nat.reduceLeDiff, Nat.reduceMul, Nat.reduceAdd, e3])
      · rw [tk]; (simp (maxSteps := 4000000) only [go_sem, ↓reduceIte, reduceCtorEq, Nat.reduceEqDiff, Nat.reduceBEq, Nat.reduceAdd, Nat.reduceSub, Nat.reduceMul, Nat.reduceLT, Nat.reduceLeDiff, Nat.reduceBNe, Int.reduceBEq, Int.reduceBNe, Int.reduceLT, Int.reduceLE, Msg.a, Par.a, evG, evP, Nat.reduceMod, Nat.reduceDiv, Nat.reduceSub, Nat.reduceLeDiff, Nat.reduceMul, Nat.reduceAdd, e4])
    · obtain ⟨o1, o2⟩ := outR (by omega)
      have hqH' : ¬ (0 : Int) < (H : Int) := by omega
      (repeat (first | simp (maxSteps := 4000000) only [go_sem, ↓reduceIte, reduceCtorEq, Nat.reduceEqDiff, Nat.reduceBEq, Nat.reduceAdd, Nat.reduceSub, Nat.reduceMul, Nat.reduceLT, Nat.reduceLeDiff, Nat.reduceBNe, Int.reduceBEq, Int.reduceBNe, Int.reduceLT, Int.reduceLE, Msg.a, Par.a, evG, evP, Nat.reduceMod, Nat.reduceDiv, Nat.reduceSub, Nat.reduceLeDiff, Nat.reduceMul, Nat.reduceAdd, t2, t3, t19, t20, t21, h2, h3, g7, g8, h13, h16, hlt', hlt, hge, w0, w1, w2, w3, w4, w5, z0, z1, z2, r0, hqH', List.length_map, Int.toNat_natCast] | refine calling (cb) ?_ | refine callingH (cb) ?_ | refine And.intro (by omega) ?_ | refine And.intro (fun d hd => by (repeat (rcases hd with rfl | hd; · exact ⟨rfl, rfl⟩)); cases hd) ?_))
      (repeat refine And.intro (by omega) ?_)
      refine fin _ ?_ ?_ ?_ ?_ ?_ ?_ ?_ ?_ ?_ ?_ ?_
      · simp (maxSteps := 4000000) only [go_sem, ↓reduceIte, reduceCtorEq, Nat.reduceEqDiff, Nat.reduceBEq, Nat.reduceAdd, Nat.reduceSub, Nat.reduceMul, Nat.reduceLT, Nat.reduceLeDiff, Nat.reduceBNe, Int.reduceBEq, Int.reduceBNe, Int.reduceLT, Int.reduceLE, Msg.a, Par.a, evG, evP, Nat.reduceMod, Nat.reduceDiv, Nat.reduceSub, Nat.reduceLeDiff, Nat.reduceMul, Nat.reduceAdd, t2]
      · simp (maxSteps := 4000000) only [go_sem, ↓reduceIte, reduceCtorEq, Nat.reduceEqDiff, Nat.reduceBEq, Nat.reduceAdd, Nat.reduceSub, Nat.reduceMul, Nat.reduceLT, Nat.reduceLeDiff, Nat.reduceBNe, Int.reduceBEq, Int.reduceBNe, Int.reduceLT, Int.reduceLE, Msg.a, Par.a, evG, evP, Nat.reduceMod, Nat.reduceDiv, Nat.reduceSub, Nat.reduceLeDiff, Nat.reduceMul, Nat.reduceAdd, t3]
      · simp (maxSteps := 4000000) only [go_sem, ↓reduceIte, reduceCtorEq, Nat.reduceEqDiff, Nat.reduceBEq, Nat.reduceAdd, Nat.reduceSub, Nat.reduceMul, Nat.reduceLT, Nat.reduceLeDiff, Nat.reduceBNe, Int.reduceBEq, Int.reduceBNe, Int.reduceLT, Int.reduceLE, Msg.a, Par.a, evG, evP, Nat.reduceMod, Nat.reduceDiv, Nat.reduceSub, Nat.reduceLeDiff, Nat.reduceMul, Nat.reduceAdd, t19]
      · simp (maxSteps := 4000000) only [go_sem, ↓reduceIte, reduceCtorEq, Nat.reduceEqDiff, Nat.reduceBEq, Nat.reduceAdd, Nat.reduceSub, Nat.reduceMul, Nat.reduceLT, Nat.reduceLeDiff, Nat.reduceBNe, Int.reduceBEq, Int.reduceBNe, Int.reduceLT, Int.reduceLE, Msg.a, Par.a, evG, evP, Nat.reduceMod, Nat.reduceDiv, Nat.reduceSub, Nat.reduceLeDiff, Nat.reduceMul, Nat.reduceAdd, t20]
      · simp (maxSteps := 4000000) only [go_sem, ↓reduceIte, reduceCtorEq, Nat.reduceEqDiff, Nat.reduceBEq, Nat.reduceAdd, Nat.reduceSub, Nat.reduceMul, Nat.reduceLT, Nat.reduceLeDiff, Nat.reduceBNe, Int.reduceBEq, Int.reduceBNe, Int.reduceLT, Int.reduceLE, Msg.a, Par.a, evG, evP, Nat.reduceMod, Nat.reduceDiv, Nat.reduceSub, Nat.reduceLeDiff, Nat.reduceMul, Nat.reduceAdd]
      · (simp (maxSteps := 4000000) only [go_sem, ↓reduceIte, reduceCtorEq, Nat.reduceEqDiff, Nat.reduceBEq, Nat.reduceAdd, Nat.reduceSub, Nat.reduceMul, Nat.reduceLT, Nat.reduceLeDiff, Nat.reduceBNe, Int.reduceBEq, Int.reduceBNe, Int.reduceLT, Int.reduceLE, Msg.a, Par.a, evG, evP, Nat.reduceMod, Nat.reduceDiv, Nat.reduceSub, Nat.reduceLeDiff, Nat.reduceMul, Nat.reduceAdd, h2]) <;> rfl
      · rw [tk]; unfold cellG; rw [n1, n3, n4, n5, n6]; (simp (maxSteps := 4000000) only [go_sem, ↓reduceIte, reduceCtorEq, Nat.reduceEqDiff, Nat.reduceBEq, Nat.reduceAdd, Nat.reduceSub, Nat.reduceMul, Nat.reduceLT, Nat.reduceLeDiff, Nat.reduceBNe, Int.reduceBEq, Int.reduceBNe, Int.reduceLT, Int.reduceLE, Msg.a, Par.a, evG, evP, Nat.reduceMod, Nat.reduceDiv, Nat.reduceSub, Nat.reduceLeDiff, Nat.reduceMul, Nat.reduceAdd, h3])
      · simp (maxSteps := 4000000) only [go_sem, ↓reduceIte, reduceCtorEq, Nat.reduceEqDiff, Nat.reduceBEq, Nat.reduceAdd, Nat.reduceSub, Nat.reduceMul, Nat.reduceLT, Nat.reduceLeDiff, Nat.reduceBNe, Int.reduceBEq, Int.reduceBNe, Int.reduceLT, Int.reduceLE, Msg.a, Par.a, evG, evP, Nat.reduceMod, Nat.reduceDiv, Nat.reduceSub, Nat.reduceLeDiff, Nat.reduceMul, Nat.reduceAdd, g7]
      · simp (maxSteps := 4000000) only [go_sem, ↓reduceIte, reduceCtorEq, Nat.reduceEqDiff, Nat.reduceBEq, Nat.reduceAdd, Nat.reduceSub, Nat.reduceMul, Nat.reduceLT, Nat.reduceLeDiff, Nat.reduceBNe, Int.reduceBEq, Int.reduceBNe, Int.reduceLT, Int.reduceLE, Msg.a, Par.a, evG, evP, Nat.reduceMod, Nat.reduceDiv, Nat.reduceSub, Nat.reduceLeDiff, Nat.reduceMul, Nat.reduceAdd, g8]
      · rw [tk, o1]; (simp (maxSteps := 4000000) only [go_sem, ↓reduceIte, reduceCtorEq, Nat.reduceEqDiff, Nat.reduceBEq, Nat.reduceAdd, Nat.reduceSub, Nat.reduceMul, Nat.reduceLT, Nat.reduceLeDiff, Nat.reduceBNe, Int.reduceBEq, Int.reduceBNe, Int.reduceLT, Int.reduceLE, Msg.a, Par.a, evG, evP, Nat.reduceMod, Nat.reduceDiv, Nat.reduceSub, Nat.reduceLeDiff, Nat.reduceMul, Nat.reduceAdd, h13])
      · rw [tk, o2]; (simp (maxSteps := 4000000) only [go_sem, ↓reduceIte, reduceCtorEq, Nat.reduceEqDiff, Nat.reduceBEq, Nat.reduceAdd, Nat.reduceSub, Nat.reduceMul, Nat.reduceLT, Nat.reduceLeDiff, Nat.reduceBNe, Int.reduceBEq, Int.reduceBNe, Int.reduceLT, Int.reduceLE, Msg.a, Par.a, evG, evP, Nat.reduceMod, Nat.reduceDiv, Nat.reduceSub, Nat.reduceLeDiff, Nat.reduceMul, Nat.reduceAdd, h16])
end
section
/-
  How full leaves are, and how many are needed: the plain law.
-/
open Go.RowKit
set_option linter.unusedVariables false
set_option linter.unusedSimpArgs false
theorem fill_law {L c R : Int} (hL : 1 ≤ L) (hc : 1 ≤ c) (hR : 0 ≤ R) : (R * 100).tdiv (L * c) * L * c ≤ R * 100 ∧ R * 100 < ((R * 100).tdiv (L * c) + 1) * L * c ∧ 0 ≤ (R * 100).tdiv (L * c) ∧ (R * 100).tdiv (L * c) ≤ R * 100 := by
  have hd : 0 < L * c := Int.mul_pos (by omega) (by omega)
  have hR' : 0 ≤ R * 100 := by omega
  rw [Int.tdiv_eq_ediv_of_nonneg hR']
  have h1 := Int.ediv_mul_le (R * 100) (b := L * c) (by omega)
  have h2 := Int.lt_ediv_add_one_mul_self (R * 100) hd
  refine ⟨by rw [Int.mul_assoc]; exact h1, by rw [Int.mul_assoc]; exact h2, Int.ediv_nonneg hR' (by omega), Int.ediv_le_self _ hR'⟩
theorem least_law {p c : Int} (hp : 0 < p) (hc : 1 ≤ c) : (if 0 < p.tmod c then p.tdiv c + 1 else p.tdiv c) = (p - 1).tdiv c + 1 ∧ 0 ≤ (p - 1).tdiv c ∧ (p - 1).tdiv c ≤ p - 1 := by
  have h0 : 0 ≤ p - 1 := by omega
  rw [Int.tdiv_eq_ediv_of_nonneg h0, Int.tdiv_eq_ediv_of_nonneg (by omega : 0 ≤ p), Int.tmod_eq_emod_of_nonneg (by omega : 0 ≤ p)]
  have e := Int.mul_ediv_add_emod (p - 1) c
  have r0 := Int.emod_nonneg (p - 1) (by omega : c ≠ 0)
  have r1 := Int.emod_lt_of_pos (p - 1) (by omega : 0 < c)
  have q0 := Int.ediv_nonneg h0 (by omega : 0 ≤ c)
  have q1 := Int.ediv_le_self c h0
  generalize (p - 1) / c = q at *
  generalize (p - 1) % c = r at *
  refine ⟨?_, q0, q1⟩
  by_cases hr : r + 1 = c
  · have hpe : p = c * (q + 1) := by rw [Int.mul_add, Int.mul_one]; omega
    have hm : p % c = 0 := by rw [hpe]; exact Int.mul_emod_right c (q + 1)
    have hd : p / c = q + 1 := by rw [hpe]; exact Int.mul_ediv_cancel_left _ (by omega)
    rw [hm, hd, if_neg (by omega)]
  · have hpe : p = (r + 1) + c * q := by omega
    have hd : p / c = q := by
      rw [hpe, Int.add_mul_ediv_left _ _ (by omega), Int.ediv_eq_zero_of_lt (by omega) (by omega)]; omega
    have hm : p % c = r + 1 := by
      rw [hpe, Int.add_mul_emod_self_left, Int.emod_eq_of_lt (by omega) (by omega)]
    rw [hm, hd, if_pos (by omega)]
end
section
/-
  How full the leaves are, and how many leaves so many pairs need, by the code: walked.
-/
open Go.RowKit
set_option linter.unusedVariables false
set_option linter.unusedSimpArgs false
set_option maxRecDepth 100000
attribute [local go_sem ↓] runOp headOp
/-! ### percolate/gauge.Fill -/
def r_gFl_0 : Reg := ⟨[], [⟨(.box 5 23 (.t 0)), (some 2), none, [], []⟩, ⟨(.mv (.c (.int .i64 0))), (some 4), none, [], []⟩], [2], [], false⟩
def r_gFl_1 : Reg := ⟨[], [⟨(.mv (.c (.int .i64 0))), (some 5), none, [], []⟩, ⟨(.mv (.c (.int .i64 0))), (some 6), none, [], []⟩], [], [], false⟩
def t_gFl_2 : List ROp := [⟨(.mv (.t 1)), (some 9), none, [], []⟩, ⟨(.len false (.t 9)), (some 10), none, [], []⟩, ⟨(.mv (.c (.int .i64 0))), (some 11), none, [], []⟩]
def r_gFl_2 : Reg := ⟨[], t_gFl_2, [], [], false⟩
def r_gFl_3 : Reg := ⟨[], [⟨(.bin .lss (.t 11) (.t 10)), (some 12), none, [], []⟩], [], [], false⟩
def t_gFl_4 : List ROp := [⟨(.iaddr 10 (.t 9) (.t 11)), (some 13), none, [8], []⟩, ⟨(.load 10 true (.t 13)), (some 14), none, [8], []⟩, ⟨(.alloc 10 34 (.agg [(.int .i64 0), (.int .i64 0), (.sl []), (.sl []), (.str ⟨#[]⟩), (.bool false), (.int .i64 0), (.int .i64 0), (.sl []), (.sl [])])), (some 8), none, [], []⟩, ⟨(.store 10 (.t 8) (.t 14)), none, none, [], []⟩]
def r_gFl_4 : Reg := ⟨[], t_gFl_4, [8], [], false⟩
def t_gFl_5 : List ROp := [⟨(.faddr 1 (.t 8)), (some 15), none, [], []⟩, ⟨(.load 1 false (.t 15)), (some 16), none, [], []⟩, ⟨(.bin .eql (.t 16) (.c (.int .i64 0))), (some 17), none, [], []⟩]
def r_gFl_5 : Reg := ⟨[], t_gFl_5, [], [], false⟩
def t_gFl_6 : List ROp := [⟨(.mv (.t 5)), (some 18), none, [], []⟩, ⟨(.bin .add (.t 18) (.c (.int .i64 1))), (some 19), none, [], []⟩, ⟨(.mv (.t 19)), (some 5), none, [], []⟩]
def r_gFl_6 : Reg := ⟨[], t_gFl_6, [], [], false⟩
def t_gFl_7 : List ROp := [⟨(.mv (.t 6)), (some 20), none, [], []⟩, ⟨(.faddr 9 (.t 8)), (some 21), none, [], []⟩, ⟨(.load 1 false (.t 21)), (some 22), none, [], []⟩, ⟨(.len false (.t 22)), (some 23), none, [], []⟩, ⟨(.bin .add (.t 20) (.t 23)), (some 24), none, [], []⟩, ⟨(.mv (.t 24)), (some 6), none, [], []⟩]
def r_gFl_7 : Reg := ⟨[], t_gFl_7, [], [], false⟩
def r_gFl_8 : Reg := ⟨[], [⟨(.bin .add (.t 11) (.c (.int .i64 1))), (some 25), none, [], []⟩, ⟨(.mv (.t 25)), (some 11), none, [], []⟩], [], [], false⟩
def r_gFl_l9 : IR := (.seq (.reg r_gFl_3)
  (.seq (.cond (.t 12) .skip
  (.exit 0))
  (.seq (.block 1 (.seq (.reg r_gFl_4)
  (.seq (.reg r_gFl_5)
  (.cond (.t 17) (.seq (.reg r_gFl_6)
  (.reg r_gFl_7))
  .skip))))
  (.reg r_gFl_8))))
def t_gFl_10 : List ROp := [⟨(.mv (.t 5)), (some 26), none, [], []⟩, ⟨(.bin .eql (.t 26) (.c (.int .i64 0))), (some 27), none, [], []⟩, ⟨(.mv (.t 27)), (some 28), none, [], []⟩, ⟨(.faddr 1 (.t 2)), (some 29), (some (28, false)), [], []⟩, ⟨(.load 1 false (.t 29)), (some 30), (some (28, false)), [], []⟩, ⟨(.bin .lss (.t 30) (.c (.int .i64 1))), (some 31), (some (28, false)), [], []⟩, ⟨(.pick (.t 28) (.c (.bool true)) (.t 31)), (some 32), none, [], []⟩]
def r_gFl_10 : Reg := ⟨[], t_gFl_10, [], [], false⟩
def r_gFl_11 : Reg := ⟨[], [⟨(.mv (.c (.int .i64 0))), (some 4), none, [], []⟩], [], [], false⟩
def t_gFl_12 : List ROp := [⟨(.mv (.t 6)), (some 33), none, [], []⟩, ⟨(.bin .mul (.t 33) (.c (.int .i64 100))), (some 34), none, [], []⟩, ⟨(.mv (.t 5)), (some 35), none, [], []⟩, ⟨(.faddr 1 (.t 2)), (some 36), none, [], []⟩, ⟨(.load 1 false (.t 36)), (some 37), none, [], []⟩, ⟨(.bin .mul (.t 35) (.t 37)), (some 38), none, [], []⟩, ⟨(.bin .quo (.t 34) (.t 38)), (some 39), none, [], []⟩, ⟨(.mv (.t 39)), (some 4), none, [], []⟩]
def r_gFl_12 : Reg := ⟨[], t_gFl_12, [], [], false⟩
def ir_gFl : IR := (.seq (.reg r_gFl_0)
  (.seq (.reg r_gFl_1)
  (.seq (.seq (.reg r_gFl_2)
  (.block 0 (.loop r_gFl_l9)))
  (.seq (.seq (.reg r_gFl_10)
  (.cond (.t 32) (.seq (.reg r_gFl_11)
  .ret)
  .skip))
  (.seq (.reg r_gFl_12)
  .ret)))))
def res_gFl : List RDesc := [(.tmp 4)]
theorem e_gFl_0 (C : FuncId → List AV → AV → Prop) (σ : St) (K : St → Prop) : runReg C r_gFl_0 σ K = runOps C [⟨(.box 5 23 (.t 0)), (some 2), none, [], []⟩, ⟨(.mv (.c (.int .i64 0))), (some 4), none, [], []⟩] (σ.kills [2]) K := rfl
theorem e_gFl_1 (C : FuncId → List AV → AV → Prop) (σ : St) (K : St → Prop) : runReg C r_gFl_1 σ K = runOps C [⟨(.mv (.c (.int .i64 0))), (some 5), none, [], []⟩, ⟨(.mv (.c (.int .i64 0))), (some 6), none, [], []⟩] (σ.kills []) K := rfl
theorem e_gFl_2 (C : FuncId → List AV → AV → Prop) (σ : St) (K : St → Prop) : runReg C r_gFl_2 σ K = runOps C t_gFl_2 (σ.kills []) K := rfl
theorem e_gFl_3 (C : FuncId → List AV → AV → Prop) (σ : St) (K : St → Prop) : runReg C r_gFl_3 σ K = runOps C [⟨(.bin .lss (.t 11) (.t 10)), (some 12), none, [], []⟩] (σ.kills []) K := rfl
theorem e_gFl_4 (C : FuncId → List AV → AV → Prop) (σ : St) (K : St → Prop) : runReg C r_gFl_4 σ K = runOps C t_gFl_4 (σ.kills [8]) K := rfl
theorem e_gFl_5 (C : FuncId → List AV → AV → Prop) (σ : St) (K : St → Prop) : runReg C r_gFl_5 σ K = runOps C t_gFl_5 (σ.kills []) K := rfl
theorem e_gFl_6 (C : FuncId → List AV → AV → Prop) (σ : St) (K : St → Prop) : runReg C r_gFl_6 σ K = runOps C t_gFl_6 (σ.kills []) K := rfl
theorem e_gFl_7 (C : FuncId → List AV → AV → Prop) (σ : St) (K : St → Prop) : runReg C r_gFl_7 σ K = runOps C t_gFl_7 (σ.kills []) K := rfl
theorem e_gFl_8 (C : FuncId → List AV → AV → Prop) (σ : St) (K : St → Prop) : runReg C r_gFl_8 σ K = runOps C [⟨(.bin .add (.t 11) (.c (.int .i64 1))), (some 25), none, [], []⟩, ⟨(.mv (.t 25)), (some 11), none, [], []⟩] (σ.kills []) K := rfl
theorem e_gFl_10 (C : FuncId → List AV → AV → Prop) (σ : St) (K : St → Prop) : runReg C r_gFl_10 σ K = runOps C t_gFl_10 (σ.kills []) K := rfl
theorem e_gFl_11 (C : FuncId → List AV → AV → Prop) (σ : St) (K : St → Prop) : runReg C r_gFl_11 σ K = runOps C [⟨(.mv (.c (.int .i64 0))), (some 4), none, [], []⟩] (σ.kills []) K := rfl
theorem e_gFl_12 (C : FuncId → List AV → AV → Prop) (σ : St) (K : St → Prop) : runReg C r_gFl_12 σ K = runOps C t_gFl_12 (σ.kills []) K := rfl
theorem fn_gFl {args : List AV} {r : AV} (ha : args.length.ble Tryd.f8.ntmps = true) (h : run (AFn Tryd.prog) ir_gFl (endQ res_gFl r) (initSt args)) : AFn Tryd.prog 8 args r :=
  AFn.of_code (pv := false) (hint := fun _ => []) (c := Tryd.f8.body.getD .skip) (by kernel_rfl) (by kernel_rfl) Tryd.func8 (by kernel_rfl) (by kernel_rfl) (by kernel_rfl) (of_decide_eq_true (by kernel_rfl)) (Nat.le_of_ble_eq_true ha) (Nat.le_of_ble_eq_true (by kernel_rfl)) (run_ok h)
/-! ### percolate/gauge.Least -/
def r_gLs_0 : Reg := ⟨[], [⟨(.box 5 23 (.t 0)), (some 2), none, [], []⟩, ⟨(.mv (.c (.int .i64 0))), (some 4), none, [], []⟩], [2], [], false⟩
def t_gLs_1 : List ROp := [⟨(.faddr 1 (.t 2)), (some 6), none, [], []⟩, ⟨(.load 1 false (.t 6)), (some 7), none, [], []⟩, ⟨(.bin .lss (.t 7) (.c (.int .i64 1))), (some 8), none, [], []⟩]
def r_gLs_1 : Reg := ⟨[], t_gLs_1, [], [], false⟩
def r_gLs_2 : Reg := ⟨[], [⟨(.mv (.c (.int .i64 0))), (some 4), none, [], []⟩], [], [], false⟩
def t_gLs_3 : List ROp := [⟨(.mv (.t 1)), (some 9), none, [], []⟩, ⟨(.mx true (.t 9) (.c (.int .i64 0))), (some 10), none, [], []⟩, ⟨(.faddr 1 (.t 2)), (some 11), none, [], []⟩, ⟨(.load 1 false (.t 11)), (some 12), none, [], []⟩, ⟨(.bin .quo (.t 10) (.t 12)), (some 13), none, [], []⟩, ⟨(.mv (.t 13)), (some 5), none, [], []⟩]
def r_gLs_3 : Reg := ⟨[], t_gLs_3, [], [], false⟩
def t_gLs_4 : List ROp := [⟨(.mv (.t 1)), (some 14), none, [], []⟩, ⟨(.mx true (.t 14) (.c (.int .i64 0))), (some 15), none, [], []⟩, ⟨(.faddr 1 (.t 2)), (some 16), none, [], []⟩, ⟨(.load 1 false (.t 16)), (some 17), none, [], []⟩, ⟨(.bin .rem (.t 15) (.t 17)), (some 18), none, [], []⟩, ⟨(.bin .gtr (.t 18) (.c (.int .i64 0))), (some 19), none, [], []⟩]
def r_gLs_4 : Reg := ⟨[], t_gLs_4, [], [], false⟩
def t_gLs_5 : List ROp := [⟨(.mv (.t 5)), (some 20), none, [], []⟩, ⟨(.bin .add (.t 20) (.c (.int .i64 1))), (some 21), none, [], []⟩, ⟨(.mv (.t 21)), (some 5), none, [], []⟩]
def r_gLs_5 : Reg := ⟨[], t_gLs_5, [], [], false⟩
def t_gLs_6 : List ROp := [⟨(.mv (.t 5)), (some 22), none, [], []⟩, ⟨(.mx true (.t 22) (.c (.int .i64 1))), (some 23), none, [], []⟩, ⟨(.mv (.t 23)), (some 4), none, [], []⟩]
def r_gLs_6 : Reg := ⟨[], t_gLs_6, [], [], false⟩
def ir_gLs : IR := (.seq (.reg r_gLs_0)
  (.seq (.seq (.reg r_gLs_1)
  (.cond (.t 8) (.seq (.reg r_gLs_2)
  .ret)
  .skip))
  (.seq (.reg r_gLs_3)
  (.seq (.seq (.reg r_gLs_4)
  (.cond (.t 19) (.reg r_gLs_5)
  .skip))
  (.seq (.reg r_gLs_6)
  .ret)))))
def res_gLs : List RDesc := [(.tmp 4)]
theorem e_gLs_0 (C : FuncId → List AV → AV → Prop) (σ : St) (K : St → Prop) : runReg C r_gLs_0 σ K = runOps C [⟨(.box 5 23 (.t 0)), (some 2), none, [], []⟩, ⟨(.mv (.c (.int .i64 0))), (some 4), none, [], []⟩] (σ.kills [2]) K := rfl
theorem e_gLs_1 (C : FuncId → List AV → AV → Prop) (σ : St) (K : St → Prop) : runReg C r_gLs_1 σ K = runOps C t_gLs_1 (σ.kills []) K := rfl
theorem e_gLs_2 (C : FuncId → List AV → AV → Prop) (σ : St) (K : St → Prop) : runReg C r_gLs_2 σ K = runOps C [⟨(.mv (.c (.int .i64 0))), (some 4), none, [], []⟩] (σ.kills []) K := rfl
theorem e_gLs_3 (C : FuncId → List AV → AV → Prop) (σ : St) (K : St → Prop) : runReg C r_gLs_3 σ K = runOps C t_gLs_3 (σ.kills []) K := rfl
theorem e_gLs_4 (C : FuncId → List AV → AV → Prop) (σ : St) (K : St → Prop) : runReg C r_gLs_4 σ K = runOps C t_gLs_4 (σ.kills []) K := rfl
theorem e_gLs_5 (C : FuncId → List AV → AV → Prop) (σ : St) (K : St → Prop) : runReg C r_gLs_5 σ K = runOps C t_gLs_5 (σ.kills []) K := rfl
theorem e_gLs_6 (C : FuncId → List AV → AV → Prop) (σ : St) (K : St → Prop) : runReg C r_gLs_6 σ K = runOps C t_gLs_6 (σ.kills []) K := rfl
theorem fn_gLs {args : List AV} {r : AV} (ha : args.length.ble Tryd.f9.ntmps = true) (h : run (AFn Tryd.prog) ir_gLs (endQ res_gLs r) (initSt args)) : AFn Tryd.prog 9 args r :=
  AFn.of_code (pv := false) (hint := fun _ => []) (c := Tryd.f9.body.getD .skip) (by kernel_rfl) (by kernel_rfl) Tryd.func9 (by kernel_rfl) (by kernel_rfl) (by kernel_rfl) (of_decide_eq_true (by kernel_rfl)) (Nat.le_of_ble_eq_true ha) (Nat.le_of_ble_eq_true (by kernel_rfl)) (run_ok h)
attribute [local go_sem ↓] ir_gFl
attribute [local go_sem] res_gFl e_gFl_0 e_gFl_1 e_gFl_2 t_gFl_2 e_gFl_3 e_gFl_4 t_gFl_4 e_gFl_5 t_gFl_5 e_gFl_6 t_gFl_6 e_gFl_7 t_gFl_7 e_gFl_8 e_gFl_10 t_gFl_10 e_gFl_11 e_gFl_12 t_gFl_12
attribute [local go_sem ↓] ir_gLs
attribute [local go_sem] res_gLs e_gLs_0 e_gLs_1 t_gLs_1 e_gLs_2 e_gLs_3 t_gLs_3 e_gLs_4 t_gLs_4 e_gLs_5 t_gLs_5 e_gLs_6 t_gLs_6
/-- the pairs in the leaves -/
def lrw (p : List Nd) : Nat := sumN (fun n => if n.level == 0 then n.rows.length else 0) p
theorem lvs_snoc (p : List Nd) (x : Nd) : lvs (p ++ [x]) = lvs p + if x.level == 0 then 1 else 0 := by
  unfold lvs
  rw [List.countP_append, List.countP_singleton]
theorem lrw_snoc (p : List Nd) (x : Nd) : lrw (p ++ [x]) = lrw p + if x.level == 0 then x.rows.length else 0 := by
  unfold lrw
  rw [sumN_snoc]
theorem lrw_le {p : List Nd} (hl : p.length ≤ 60) (hg : ∀ x, x ∈ p → x.rows.length ≤ 1000) : lrw p ≤ 60000 := by
  unfold lrw
  have h := sumN_le (l := p) (f := fun n : Nd => if n.level == 0 then n.rows.length else 0) (b := 1000) fun y hy => by
    have := hg y hy
    split <;> omega
  have := Nat.mul_le_mul_right 1000 hl
  omega
def fillF (c : Cfg) (l : List Nd) : Int := if lvs l = 0 ∨ c.leaf < 1 then 0 else ((lrw l : Int) * 100).tdiv ((lvs l : Int) * c.leaf)
def flI (c : Cfg) (l : List Nd) (k : Nat) (σ : St) : Prop :=
  ∃ i : Nat, i ≤ l.length ∧ k = l.length - i ∧ σ.T 2 = .ptr 2 0 0 ∧ σ.H 2 = some ⟨5, 23, [c.a], 0⟩ ∧ σ.T 5 = .int .i64 (lvs (l.take i) : Nat) ∧ σ.T 6 = .int .i64 (lrw (l.take i) : Nat) ∧ σ.T 9 = .sl (l.map Nd.a) ∧ σ.T 10 = .int .i64 l.length ∧ σ.T 11 = .int .i64 i
set_option maxHeartbeats 8000000 in
theorem gFl_ok (c : Cfg) (l : List Nd) (hl : l.length ≤ 60) (hg : ∀ x, x ∈ l → x.rows.length ≤ 1000) (hc : c.leaf ≤ 1099511627776) : AFn Tryd.prog 8 [c.a, .sl (l.map Nd.a)] (.int .i64 (fillF c l)) := by
  refine fn_gFl rfl ?_
  simp (maxSteps := 4000000) only [go_sem, ↓reduceIte, reduceCtorEq, Nat.reduceEqDiff, Nat.reduceBEq, Nat.reduceAdd, Nat.reduceSub, Nat.reduceMul, Nat.reduceLT, Nat.reduceLeDiff, Nat.reduceBNe, Int.reduceBEq, Int.reduceBNe, Int.reduceLT, Int.reduceLE, evG, evP, Nat.reduceMod, Nat.reduceDiv, Nat.reduceSub, Nat.reduceLeDiff, Nat.reduceMul, Nat.reduceAdd, Msg.a, Par.a, Cfg.a]
  refine run_loop (flI c l) (k := l.length) ⟨0, Nat.zero_le _, rfl, ?_, ?_, ?_, ?_, ?_, ?_, ?_⟩ ?_
  · simp (maxSteps := 4000000) only [go_sem, ↓reduceIte, reduceCtorEq, Nat.reduceEqDiff, Nat.reduceBEq, Nat.reduceAdd, Nat.reduceSub, Nat.reduceMul, Nat.reduceLT, Nat.reduceLeDiff, Nat.reduceBNe, Int.reduceBEq, Int.reduceBNe, Int.reduceLT, Int.reduceLE, evG, evP, Nat.reduceMod, Nat.reduceDiv, Nat.reduceSub, Nat.reduceLeDiff, Nat.reduceMul, Nat.reduceAdd, Msg.a, Par.a]
  · (simp (maxSteps := 4000000) only [go_sem, ↓reduceIte, reduceCtorEq, Nat.reduceEqDiff, Nat.reduceBEq, Nat.reduceAdd, Nat.reduceSub, Nat.reduceMul, Nat.reduceLT, Nat.reduceLeDiff, Nat.reduceBNe, Int.reduceBEq, Int.reduceBNe, Int.reduceLT, Int.reduceLE, evG, evP, Nat.reduceMod, Nat.reduceDiv, Nat.reduceSub, Nat.reduceLeDiff, Nat.reduceMul, Nat.reduceAdd, Msg.a, Par.a, Cfg.a]) <;> rfl
  · (simp (maxSteps := 4000000) only [go_sem, ↓reduceIte, reduceCtorEq, Nat.reduceEqDiff, Nat.reduceBEq, Nat.reduceAdd, Nat.reduceSub, Nat.reduceMul, Nat.reduceLT, Nat.reduceLeDiff, Nat.reduceBNe, Int.reduceBEq, Int.reduceBNe, Int.reduceLT, Int.reduceLE, evG, evP, Nat.reduceMod, Nat.reduceDiv, Nat.reduceSub, Nat.reduceLeDiff, Nat.reduceMul, Nat.reduceAdd, Msg.a, Par.a]) <;> rfl
  · (simp (maxSteps := 4000000) only [go_sem, ↓reduceIte, reduceCtorEq, Nat.reduceEqDiff, Nat.reduceBEq, Nat.reduceAdd, Nat.reduceSub, Nat.reduceMul, Nat.reduceLT, Nat.reduceLeDiff, Nat.reduceBNe, Int.reduceBEq, Int.reduceBNe, Int.reduceLT, Int.reduceLE, evG, evP, Nat.reduceMod, Nat.reduceDiv, Nat.reduceSub, Nat.reduceLeDiff, Nat.reduceMul, Nat.reduceAdd, Msg.a, Par.a]) <;> rfl
  · simp (maxSteps := 4000000) only [go_sem, ↓reduceIte, reduceCtorEq, Nat.reduceEqDiff, Nat.reduceBEq, Nat.reduceAdd, Nat.reduceSub, Nat.reduceMul, Nat.reduceLT, Nat.reduceLeDiff, Nat.reduceBNe, Int.reduceBEq, Int.reduceBNe, Int.reduceLT, Int.reduceLE, evG, evP, Nat.reduceMod, Nat.reduceDiv, Nat.reduceSub, Nat.reduceLeDiff, Nat.reduceMul, Nat.reduceAdd, Msg.a, Par.a]
  · simp (maxSteps := 4000000) only [go_sem, ↓reduceIte, reduceCtorEq, Nat.reduceEqDiff, Nat.reduceBEq, Nat.reduceAdd, Nat.reduceSub, Nat.reduceMul, Nat.reduceLT, Nat.reduceLeDiff, Nat.reduceBNe, Int.reduceBEq, Int.reduceBNe, Int.reduceLT, Int.reduceLE, evG, evP, Nat.reduceMod, Nat.reduceDiv, Nat.reduceSub, Nat.reduceLeDiff, Nat.reduceMul, Nat.reduceAdd, Msg.a, Par.a, List.length_map]
  · (simp (maxSteps := 4000000) only [go_sem, ↓reduceIte, reduceCtorEq, Nat.reduceEqDiff, Nat.reduceBEq, Nat.reduceAdd, Nat.reduceSub, Nat.reduceMul, Nat.reduceLT, Nat.reduceLeDiff, Nat.reduceBNe, Int.reduceBEq, Int.reduceBNe, Int.reduceLT, Int.reduceLE, evG, evP, Nat.reduceMod, Nat.reduceDiv, Nat.reduceSub, Nat.reduceLeDiff, Nat.reduceMul, Nat.reduceAdd, Msg.a, Par.a]) <;> rfl
  rintro k σ ⟨i, hi, rfl, t2, h2, t5, t6, t9, t10, t11⟩
  simp only [Cfg.a] at h2
  simp only [r_gFl_l9]
  by_cases hlt : i < l.length
  case neg =>
    have hlt' : ¬ (i : Int) < (l.length : Int) := by omega
    have e : l.take i = l := List.take_of_length_le (by omega)
    rw [e] at t5 t6
    have b1 : lvs l ≤ 60 := Nat.le_trans List.countP_le_length hl
    have b2 := lrw_le hl hg
    unfold fillF
    generalize lvs l = L at *
    generalize lrw l = R at *
    by_cases hL : L = 0
    · subst hL
      rw [if_pos (.inl rfl)]
      have z : (((0 : Nat) : Int) == 0) = true := rfl
      simp (maxSteps := 4000000) only [go_sem, ↓reduceIte, reduceCtorEq, Nat.reduceEqDiff, Nat.reduceBEq, Nat.reduceAdd, Nat.reduceSub, Nat.reduceMul, Nat.reduceLT, Nat.reduceLeDiff, Nat.reduceBNe, Int.reduceBEq, Int.reduceBNe, Int.reduceLT, Int.reduceLE, evG, evP, Nat.reduceMod, Nat.reduceDiv, Nat.reduceSub, Nat.reduceLeDiff, Nat.reduceMul, Nat.reduceAdd, Msg.a, Par.a, t2, h2, t5, t6, t10, t11, hlt', z]
    · have z : ((L : Int) == 0) = false := beq_eq_false_iff_ne.2 (by omega)
      by_cases hc1 : c.leaf < 1
      · rw [if_pos (.inr hc1)]
        simp (maxSteps := 4000000) only [go_sem, ↓reduceIte, reduceCtorEq, Nat.reduceEqDiff, Nat.reduceBEq, Nat.reduceAdd, Nat.reduceSub, Nat.reduceMul, Nat.reduceLT, Nat.reduceLeDiff, Nat.reduceBNe, Int.reduceBEq, Int.reduceBNe, Int.reduceLT, Int.reduceLE, evG, evP, Nat.reduceMod, Nat.reduceDiv, Nat.reduceSub, Nat.reduceLeDiff, Nat.reduceMul, Nat.reduceAdd, Msg.a, Par.a, t2, h2, t5, t6, t10, t11, hlt', z, hc1]
      · rw [if_neg (by omega)]
        have m1 : (L : Int) * c.leaf ≤ 60 * 1099511627776 := Int.mul_le_mul (by omega) hc (by omega) (by omega)
        have m0 : 0 < (L : Int) * c.leaf := Int.mul_pos (by omega) (by omega)
        have w1 : IntKind.i64.wrap ((R : Int) * 100) = (R : Int) * 100 := IntWalk.i64_in _ (by omega)
        have w2 : IntKind.i64.wrap ((L : Int) * c.leaf) = (L : Int) * c.leaf := IntWalk.i64_in _ (by omega)
        have fl := fill_law (L := L) (c := c.leaf) (R := R) (by omega) (by omega) (by omega)
        have w3 : IntKind.i64.wrap (((R : Int) * 100).tdiv ((L : Int) * c.leaf)) = ((R : Int) * 100).tdiv ((L : Int) * c.leaf) := IntWalk.i64_in _ (by omega)
        have n0 : ¬ (L : Int) * c.leaf = 0 := by omega
        simp (maxSteps := 4000000) only [go_sem, ↓reduceIte, reduceCtorEq, Nat.reduceEqDiff, Nat.reduceBEq, Nat.reduceAdd, Nat.reduceSub, Nat.reduceMul, Nat.reduceLT, Nat.reduceLeDiff, Nat.reduceBNe, Int.reduceBEq, Int.reduceBNe, Int.reduceLT, Int.reduceLE, evG, evP, Nat.reduceMod, Nat.reduceDiv, Nat.reduceSub, Nat.reduceLeDiff, Nat.reduceMul, Nat.reduceAdd, Msg.a, Par.a, t2, h2, t5, t6, t10, t11, hlt', z, hc1, w1, w2, w3, n0]
        exact n0
  have hlt' : (i : Int) < (l.length : Int) := by omega
  obtain ⟨x, hx⟩ := get_lt hlt
  have gr := hg x (List.mem_of_getElem? hx)
  have hge := at_map (f := Nd.a) hx
  simp only [Nd.a] at hge
  have tk : l.take (i + 1) = l.take i ++ [x] := by rw [List.take_add_one, hx]; rfl
  have hpl : (l.take i).length ≤ 60 := by rw [List.length_take]; omega
  have b1 : lvs (l.take i) ≤ 60 := Nat.le_trans List.countP_le_length hpl
  have b2 := lrw_le hpl fun y hy => hg y (List.mem_of_mem_take hy)
  have w0 := wrapS (j := i) (by omega)
  have w1 := wrapS (j := lvs (l.take i)) (by omega)
  have w2 : IntKind.i64.wrap ((lrw (l.take i) : Int) + (x.rows.length : Int)) = ((lrw (l.take i) + x.rows.length : Nat) : Int) := by rw [IntWalk.i64_in _ (by omega)]; omega
  by_cases hz : x.level = 0
  · have q0 : (x.level == 0) = true := by simp [hz]
    simp (maxSteps := 4000000) only [go_sem, ↓reduceIte, reduceCtorEq, Nat.reduceEqDiff, Nat.reduceBEq, Nat.reduceAdd, Nat.reduceSub, Nat.reduceMul, Nat.reduceLT, Nat.reduceLeDiff, Nat.reduceBNe, Int.reduceBEq, Int.reduceBNe, Int.reduceLT, Int.reduceLE, evG, evP, Nat.reduceMod, Nat.reduceDiv, Nat.reduceSub, Nat.reduceLeDiff, Nat.reduceMul, Nat.reduceAdd, Msg.a, Par.a, t2, h2, t5, t6, t9, t10, t11, hlt', hlt, hge, q0, w0, w1, w2, List.length_map, Int.toNat_natCast]
    (repeat refine And.intro (by omega) ?_)
    refine ⟨l.length - (i + 1), by omega, i + 1, by omega, rfl, ?_, ?_, ?_, ?_, ?_, ?_, ?_⟩
    · simp (maxSteps := 4000000) only [go_sem, ↓reduceIte, reduceCtorEq, Nat.reduceEqDiff, Nat.reduceBEq, Nat.reduceAdd, Nat.reduceSub, Nat.reduceMul, Nat.reduceLT, Nat.reduceLeDiff, Nat.reduceBNe, Int.reduceBEq, Int.reduceBNe, Int.reduceLT, Int.reduceLE, evG, evP, Nat.reduceMod, Nat.reduceDiv, Nat.reduceSub, Nat.reduceLeDiff, Nat.reduceMul, Nat.reduceAdd, Msg.a, Par.a, t2]
    · simp (maxSteps := 4000000) only [go_sem, ↓reduceIte, reduceCtorEq, Nat.reduceEqDiff, Nat.reduceBEq, Nat.reduceAdd, Nat.reduceSub, Nat.reduceMul, Nat.reduceLT, Nat.reduceLeDiff, Nat.reduceBNe, Int.reduceBEq, Int.reduceBNe, Int.reduceLT, Int.reduceLE, evG, evP, Nat.reduceMod, Nat.reduceDiv, Nat.reduceSub, Nat.reduceLeDiff, Nat.reduceMul, Nat.reduceAdd, Msg.a, Par.a, h2, Cfg.a]
    · rw [tk, lvs_snoc, q0, if_pos rfl]; simp (maxSteps := 4000000) only [go_sem, ↓reduceIte, reduceCtorEq, Nat.reduceEqDiff, Nat.reduceBEq, Nat.reduceAdd, Nat.reduceSub, Nat.reduceMul, Nat.reduceLT, Nat.reduceLeDiff, Nat.reduceBNe, Int.reduceBEq, Int.reduceBNe, Int.reduceLT, Int.reduceLE, evG, evP, Nat.reduceMod, Nat.reduceDiv, Nat.reduceSub, Nat.reduceLeDiff, Nat.reduceMul, Nat.reduceAdd, Msg.a, Par.a, w1]
    · rw [tk, lrw_snoc, q0, if_pos rfl]; simp (maxSteps := 4000000) only [go_sem, ↓reduceIte, reduceCtorEq, Nat.reduceEqDiff, Nat.reduceBEq, Nat.reduceAdd, Nat.reduceSub, Nat.reduceMul, Nat.reduceLT, Nat.reduceLeDiff, Nat.reduceBNe, Int.reduceBEq, Int.reduceBNe, Int.reduceLT, Int.reduceLE, evG, evP, Nat.reduceMod, Nat.reduceDiv, Nat.reduceSub, Nat.reduceLeDiff, Nat.reduceMul, Nat.reduceAdd, Msg.a, Par.a, w2]
    · simp (maxSteps := 4000000) only [go_sem, ↓reduceIte, reduceCtorEq, Nat.reduceEqDiff, Nat.reduceBEq, Nat.reduceAdd, Nat.reduceSub, Nat.reduceMul, Nat.reduceLT, Nat.reduceLeDiff, Nat.reduceBNe, Int.reduceBEq, Int.reduceBNe, Int.reduceLT, Int.reduceLE, evG, evP, Nat.reduceMod, Nat.reduceDiv, Nat.reduceSub, Nat.reduceLeDiff, Nat.reduceMul, Nat.reduceAdd, Msg.a, Par.a, t9]
    · simp (maxSteps := 4000000) only [go_sem, ↓reduceIte, reduceCtorEq, Nat.reduceEqDiff, Nat.reduceBEq, Nat.reduceAdd, Nat.reduceSub, Nat.reduceMul, Nat.reduceLT, Nat.reduceLeDiff, Nat.reduceBNe, Int.reduceBEq, Int.reduceBNe, Int.reduceLT, Int.reduceLE, evG, evP, Nat.reduceMod, Nat.reduceDiv, Nat.reduceSub, Nat.reduceLeDiff, Nat.reduceMul, Nat.reduceAdd, Msg.a, Par.a, t10]
    · simp (maxSteps := 4000000) only [go_sem, ↓reduceIte, reduceCtorEq, Nat.reduceEqDiff, Nat.reduceBEq, Nat.reduceAdd, Nat.reduceSub, Nat.reduceMul, Nat.reduceLT, Nat.reduceLeDiff, Nat.reduceBNe, Int.reduceBEq, Int.reduceBNe, Int.reduceLT, Int.reduceLE, evG, evP, Nat.reduceMod, Nat.reduceDiv, Nat.reduceSub, Nat.reduceLeDiff, Nat.reduceMul, Nat.reduceAdd, Msg.a, Par.a, w0]
  · have q0 : (x.level == 0) = false := by simpa using hz
    simp (maxSteps := 4000000) only [go_sem, ↓reduceIte, reduceCtorEq, Nat.reduceEqDiff, Nat.reduceBEq, Nat.reduceAdd, Nat.reduceSub, Nat.reduceMul, Nat.reduceLT, Nat.reduceLeDiff, Nat.reduceBNe, Int.reduceBEq, Int.reduceBNe, Int.reduceLT, Int.reduceLE, evG, evP, Nat.reduceMod, Nat.reduceDiv, Nat.reduceSub, Nat.reduceLeDiff, Nat.reduceMul, Nat.reduceAdd, Msg.a, Par.a, t2, h2, t5, t6, t9, t10, t11, hlt', hlt, hge, q0, w0, List.length_map, Int.toNat_natCast]
    (repeat refine And.intro (by omega) ?_)
    refine ⟨l.length - (i + 1), by omega, i + 1, by omega, rfl, ?_, ?_, ?_, ?_, ?_, ?_, ?_⟩
    · simp (maxSteps := 4000000) only [go_sem, ↓reduceIte, reduceCtorEq, Nat.reduceEqDiff, Nat.reduceBEq, Nat.reduceAdd, Nat.reduceSub, Nat.reduceMul, Nat.reduceLT, Nat.reduceLeDiff, Nat.reduceBNe, Int.reduceBEq, Int.reduceBNe, Int.reduceLT, Int.reduceLE, evG, evP, Nat.reduceMod, Nat.reduceDiv, Nat.reduceSub, Nat.reduceLeDiff, Nat.reduceMul, Nat.reduceAdd, Msg.a, Par.a, t2]
    · simp (maxSteps := 4000000) only [go_sem, ↓reduceIte, reduceCtorEq, Nat.reduceEqDiff, Nat.reduceBEq, Nat.reduceAdd, Nat.reduceSub, Nat.reduceMul, Nat.reduceLT, Nat.reduceLeDiff, Nat.reduceBNe, Int.reduceBEq, Int.reduceBNe, Int.reduceLT, Int.reduceLE, evG, evP, Nat.reduceMod, Nat.reduceDiv, Nat.reduceSub, Nat.reduceLeDiff, Nat.reduceMul, Nat.reduceAdd, Msg.a, Par.a, h2, Cfg.a]
    · rw [tk, lvs_snoc, q0]; simp (maxSteps := 4000000) only [go_sem, ↓reduceIte, reduceCtorEq, Nat.reduceEqDiff, Nat.reduceBEq, Nat.reduceAdd, Nat.reduceSub, Nat.reduceMul, Nat.reduceLT, Nat.reduceLeDiff, Nat.reduceBNe, Int.reduceBEq, Int.reduceBNe, Int.reduceLT, Int.reduceLE, evG, evP, Nat.reduceMod, Nat.reduceDiv, Nat.reduceSub, Nat.reduceLeDiff, Nat.reduceMul, Nat.reduceAdd, Msg.a, Par.a, t5]
    · rw [tk, lrw_snoc, q0]; simp (maxSteps := 4000000) only [go_sem, ↓reduceIte, reduceCtorEq, Nat.reduceEqDiff, Nat.reduceBEq, Nat.reduceAdd, Nat.reduceSub, Nat.reduceMul, Nat.reduceLT, Nat.reduceLeDiff, Nat.reduceBNe, Int.reduceBEq, Int.reduceBNe, Int.reduceLT, Int.reduceLE, evG, evP, Nat.reduceMod, Nat.reduceDiv, Nat.reduceSub, Nat.reduceLeDiff, Nat.reduceMul, Nat.reduceAdd, Msg.a, Par.a, t6]
    · simp (maxSteps := 4000000) only [go_sem, ↓reduceIte, reduceCtorEq, Nat.reduceEqDiff, Nat.reduceBEq, Nat.reduceAdd, Nat.reduceSub, Nat.reduceMul, Nat.reduceLT, Nat.reduceLeDiff, Nat.reduceBNe, Int.reduceBEq, Int.reduceBNe, Int.reduceLT, Int.reduceLE, evG, evP, Nat.reduceMod, Nat.reduceDiv, Nat.reduceSub, Nat.reduceLeDiff, Nat.reduceMul, Nat.reduceAdd, Msg.a, Par.a, t9]
    · simp (maxSteps := 4000000) only [go_sem, ↓reduceIte, reduceCtorEq, Nat.reduceEqDiff, Nat.reduceBEq, Nat.reduceAdd, Nat.reduceSub, Nat.reduceMul, Nat.reduceLT, Nat.reduceLeDiff, Nat.reduceBNe, Int.reduceBEq, Int.reduceBNe, Int.reduceLT, Int.reduceLE, evG, evP, Nat.reduceMod, Nat.reduceDiv, Nat.reduceSub, Nat.reduceLeDiff, Nat.reduceMul, Nat.reduceAdd, Msg.a, Par.a, t10]
    · simp (maxSteps := 4000000) only [go_sem, ↓reduceIte, reduceCtorEq, Nat.reduceEqDiff, Nat.reduceBEq, Nat.reduceAdd, Nat.reduceSub, Nat.reduceMul, Nat.reduceLT, Nat.reduceLeDiff, Nat.reduceBNe, Int.reduceBEq, Int.reduceBNe, Int.reduceLT, Int.reduceLE, evG, evP, Nat.reduceMod, Nat.reduceDiv, Nat.reduceSub, Nat.reduceLeDiff, Nat.reduceMul, Nat.reduceAdd, Msg.a, Par.a, w0]
def leastF (c : Cfg) (p : Int) : Int := if c.leaf < 1 then 0 else if p ≤ 0 then 1 else (p - 1).tdiv c.leaf + 1
set_option maxHeartbeats 8000000 in
theorem gLs_ok (c : Cfg) (p : Int) (hp : -9223372036854775808 ≤ p ∧ p ≤ 9223372036854775807) : AFn Tryd.prog 9 [c.a, .int .i64 p] (.int .i64 (leastF c p)) := by
  refine fn_gLs rfl ?_
  unfold leastF
  by_cases hc : c.leaf < 1
  · rw [if_pos hc]
    simp (maxSteps := 4000000) only [go_sem, ↓reduceIte, reduceCtorEq, Nat.reduceEqDiff, Nat.reduceBEq, Nat.reduceAdd, Nat.reduceSub, Nat.reduceMul, Nat.reduceLT, Nat.reduceLeDiff, Nat.reduceBNe, Int.reduceBEq, Int.reduceBNe, Int.reduceLT, Int.reduceLE, evG, evP, Nat.reduceMod, Nat.reduceDiv, Nat.reduceSub, Nat.reduceLeDiff, Nat.reduceMul, Nat.reduceAdd, Msg.a, Par.a, Cfg.a, hc]
  rw [if_neg hc]
  have n0 : ¬ c.leaf = 0 := by omega
  have n1 : (c.leaf ≠ 0) = True := eq_true n0
  by_cases hp0 : p ≤ 0
  · rw [if_pos hp0]
    have g0 : ¬ p > 0 := by omega
    by_cases hpe : p = 0
    · subst hpe
      have z1 : (0 : Int).tdiv c.leaf = 0 := Int.zero_tdiv _
      have z2 : (0 : Int).tmod c.leaf = 0 := Int.zero_tmod _
      have w1 : IntKind.i64.wrap (0 : Int) = 0 := rfl
      simp (maxSteps := 4000000) only [go_sem, ↓reduceIte, reduceCtorEq, Nat.reduceEqDiff, Nat.reduceBEq, Nat.reduceAdd, Nat.reduceSub, Nat.reduceMul, Nat.reduceLT, Nat.reduceLeDiff, Nat.reduceBNe, Int.reduceBEq, Int.reduceBNe, Int.reduceLT, Int.reduceLE, evG, evP, Nat.reduceMod, Nat.reduceDiv, Nat.reduceSub, Nat.reduceLeDiff, Nat.reduceMul, Nat.reduceAdd, Msg.a, Par.a, Cfg.a, hc, n0, n1, z1, z2, w1, g0]
    · have hpl : p < 0 := by omega
      have z1 : (0 : Int).tdiv c.leaf = 0 := Int.zero_tdiv _
      have z2 : (0 : Int).tmod c.leaf = 0 := Int.zero_tmod _
      have w1 : IntKind.i64.wrap (0 : Int) = 0 := rfl
      simp (maxSteps := 4000000) only [go_sem, ↓reduceIte, reduceCtorEq, Nat.reduceEqDiff, Nat.reduceBEq, Nat.reduceAdd, Nat.reduceSub, Nat.reduceMul, Nat.reduceLT, Nat.reduceLeDiff, Nat.reduceBNe, Int.reduceBEq, Int.reduceBNe, Int.reduceLT, Int.reduceLE, evG, evP, Nat.reduceMod, Nat.reduceDiv, Nat.reduceSub, Nat.reduceLeDiff, Nat.reduceMul, Nat.reduceAdd, Msg.a, Par.a, Cfg.a, hc, n0, n1, z1, z2, w1, g0, hpl]
  · rw [if_neg hp0]
    have g0 : p > 0 := by omega
    have ll := least_law (p := p) (c := c.leaf) (by omega) (by omega)
    obtain ⟨e1, e2, e3⟩ := ll
    have q0 : 0 ≤ p.tdiv c.leaf := Int.tdiv_nonneg (by omega) (by omega)
    have m0 : 0 ≤ p.tmod c.leaf := Int.tmod_nonneg _ (by omega)
    have m1 : p.tmod c.leaf ≤ p := by
      have := Int.mul_tdiv_add_tmod p c.leaf
      have h2 : 0 ≤ c.leaf * p.tdiv c.leaf := Int.mul_nonneg (by omega) q0
      omega
    have np : ¬ p < 0 := by omega
    have gx : (if p < 0 then 0 else p) = p := if_neg np
    simp (maxSteps := 4000000) only [go_sem, ↓reduceIte, reduceCtorEq, Nat.reduceEqDiff, Nat.reduceBEq, Nat.reduceAdd, Nat.reduceSub, Nat.reduceMul, Nat.reduceLT, Nat.reduceLeDiff, Nat.reduceBNe, Int.reduceBEq, Int.reduceBNe, Int.reduceLT, Int.reduceLE, evG, evP, Nat.reduceMod, Nat.reduceDiv, Nat.reduceSub, Nat.reduceLeDiff, Nat.reduceMul, Nat.reduceAdd, Msg.a, Par.a, Cfg.a, hc, n0, n1, g0]
    simp only [gx]
    generalize (p - 1).tdiv c.leaf = E at *
    generalize p.tdiv c.leaf = q at *
    generalize p.tmod c.leaf = m at *
    by_cases hm : 0 < m
    · rw [if_pos hm] at e1 ⊢
      have w2 : IntKind.i64.wrap q = q := IntWalk.i64_in _ (by omega)
      have w3 : IntKind.i64.wrap (q + 1) = q + 1 := IntWalk.i64_in _ (by omega)
      rw [w2, w3, if_neg (by omega), e1]
    · rw [if_neg hm] at e1 ⊢
      have w2 : IntKind.i64.wrap q = q := IntWalk.i64_in _ (by omega)
      rw [w2, if_neg (by omega), e1]
end
section
/-
  The chapter's example of the gauges, by the code: walked; and that the numbers of a tree are small.
-/
open Go.RowKit
set_option linter.unusedVariables false
set_option linter.unusedSimpArgs false
set_option maxRecDepth 100000
attribute [local go_sem ↓] runOp headOp
/-! ### percolate/percolatelaw50.awake -/
def r_awk50_0 : Reg := ⟨[], [⟨(.mv (.c (.bool false))), (some 0), none, [], []⟩], [], [], false⟩
def t_awk50_1 : List ROp := [⟨(.bld [(.str ⟨#[]⟩), (.str ⟨#[]⟩)] [⟨0, 1, (.c (.str ⟨#[97]⟩))⟩]), (some 2), none, [3, 5], []⟩, ⟨(.bsl 2 46 [(.t 2)]), (some 3), none, [5], []⟩, ⟨(.bld [(.int .i64 0), (.int .i64 0), (.sl []), (.sl []), (.str ⟨#[]⟩), (.bool false), (.int .i64 0), (.int .i64 0), (.sl []), (.sl [])] [⟨5, 1, (.c (.bool true))⟩, ⟨6, 1, (.c (.int .i64 (-1)))⟩, ⟨9, 1, (.t 3)⟩]), (some 4), none, [5], []⟩, ⟨(.bsl 10 34 [(.t 4)]), (some 5), none, [], []⟩, ⟨(.mv (.t 5)), (some 1), none, [], []⟩]
def r_awk50_1 : Reg := ⟨[], t_awk50_1, [3, 5], [], false⟩
def t_awk50_2 : List ROp := [⟨(.mv (.t 1)), (some 6), none, [7, 8, 13, 18], []⟩, ⟨(.callv (.c (.clo 10 [] [])) [(.t 6)]), (some 7), none, [8, 13, 18], []⟩, ⟨(.callv (.c (.clo 13 [] [])) [(.t 7)]), (some 8), none, [13, 18], []⟩, ⟨(.bin .eql (.t 8) (.c (.str ⟨#[110, 111, 100, 101, 115, 32, 49, 32, 108, 101, 97, 118, 101, 115, 32, 49, 32, 104, 101, 105, 103, 104, 116, 32, 49, 32, 114, 111, 119, 115, 32, 49, 32, 109, 115, 103, 115, 32, 48, 32, 98, 121, 116, 101, 115, 32, 48, 32, 101, 109, 112, 116, 121, 32, 48, 32, 108, 101, 118, 101, 108, 32, 49, 32, 48]⟩))), (some 9), none, [13, 18], []⟩, ⟨(.mv (.t 9)), (some 10), none, [13, 18], []⟩, ⟨(.bld [(.int .i64 0), (.int .i64 0), (.int .i64 0), (.int .i64 0), (.int .i64 0)] [⟨1, 1, (.c (.int .i64 2))⟩]), (some 11), (some (10, true)), [13, 18], []⟩, ⟨(.mv (.t 1)), (some 12), (some (10, true)), [13, 18], []⟩, ⟨(.callv (.c (.clo 8 [] [])) [(.t 11), (.t 12)]), (some 13), (some (10, true)), [18], []⟩, ⟨(.bin .eql (.t 13) (.c (.int .i64 50))), (some 14), (some (10, true)), [18], []⟩, ⟨(.pick (.t 10) (.t 14) (.c (.bool false))), (some 15), none, [18], []⟩, ⟨(.mv (.t 15)), (some 16), none, [18], []⟩, ⟨(.bld [(.int .i64 0), (.int .i64 0), (.int .i64 0), (.int .i64 0), (.int .i64 0)] [⟨1, 1, (.c (.int .i64 2))⟩]), (some 17), (some (16, true)), [18], []⟩, ⟨(.callv (.c (.clo 9 [] [])) [(.t 17), (.c (.int .i64 3))]), (some 18), (some (16, true)), [], []⟩, ⟨(.bin .eql (.t 18) (.c (.int .i64 2))), (some 19), (some (16, true)), [], []⟩, ⟨(.pick (.t 16) (.t 19) (.c (.bool false))), (some 20), none, [], []⟩, ⟨(.mv (.t 20)), (some 0), none, [], []⟩]
def r_awk50_2 : Reg := ⟨[], t_awk50_2, [7, 8, 13, 18], [], false⟩
def ir_awk50 : IR := (.seq (.reg r_awk50_0)
  (.seq (.reg r_awk50_1)
  (.seq (.reg r_awk50_2)
  .ret)))
def res_awk50 : List RDesc := [(.tmp 0)]
theorem e_awk50_0 (C : FuncId → List AV → AV → Prop) (σ : St) (K : St → Prop) : runReg C r_awk50_0 σ K = runOps C [⟨(.mv (.c (.bool false))), (some 0), none, [], []⟩] (σ.kills []) K := rfl
theorem e_awk50_1 (C : FuncId → List AV → AV → Prop) (σ : St) (K : St → Prop) : runReg C r_awk50_1 σ K = runOps C t_awk50_1 (σ.kills [3, 5]) K := rfl
theorem e_awk50_2 (C : FuncId → List AV → AV → Prop) (σ : St) (K : St → Prop) : runReg C r_awk50_2 σ K = runOps C t_awk50_2 (σ.kills [7, 8, 13, 18]) K := rfl
theorem fn_awk50 {args : List AV} {r : AV} (ha : args.length.ble Tryd.f7.ntmps = true) (h : run (AFn Tryd.prog) ir_awk50 (endQ res_awk50 r) (initSt args)) : AFn Tryd.prog 7 args r :=
  AFn.of_code (pv := false) (hint := fun _ => []) (c := Tryd.f7.body.getD .skip) (by kernel_rfl) (by kernel_rfl) Tryd.func7 (by kernel_rfl) (by kernel_rfl) (by kernel_rfl) (of_decide_eq_true (by kernel_rfl)) (Nat.le_of_ble_eq_true ha) (Nat.le_of_ble_eq_true (by kernel_rfl)) (run_ok h)
attribute [local go_sem ↓] ir_awk50
attribute [local go_sem] res_awk50 e_awk50_0 e_awk50_1 t_awk50_1 e_awk50_2 t_awk50_2
def nd50 : Nd := ⟨0, 0, [], [], ⟨#[]⟩, true, -1, 0, [], [⟨⟨#[97]⟩, ⟨#[]⟩⟩]⟩
def g50 : Gau := ⟨1, 1, 1, 1, 0, 0, 0, [1], [0]⟩
def c50 : Cfg := ⟨0, 2, 0, 0, 0⟩
def s50 : ByteArray := ⟨#[110, 111, 100, 101, 115, 32, 49, 32, 108, 101, 97, 118, 101, 115, 32, 49, 32, 104, 101, 105, 103, 104, 116, 32, 49, 32, 114, 111, 119, 115, 32, 49, 32, 109, 115, 103, 115, 32, 48, 32, 98, 121, 116, 101, 115, 32, 48, 32, 101, 109, 112, 116, 121, 32, 48, 32, 108, 101, 118, 101, 108, 32, 49, 32, 48]⟩
theorem of50 : ofG (hiG 0 [nd50]) [nd50].length [nd50] = g50 := rfl
theorem line50 : joinB (lineW g50) ⟨#[32]⟩ = s50 := by decide +kernel
theorem fits50 : g50.fits := by
  unfold g50
  refine ⟨?_, ?_, ?_, ?_, ?_, ?_, ?_, ?_, ?_, by decide, by decide⟩
  · unfold inI; decide
  · unfold inI; decide
  · unfold inI; decide
  · unfold inI; decide
  · unfold inI; decide
  · unfold inI; decide
  · unfold inI; decide
  · intro x hx; rw [List.mem_singleton.1 hx]; unfold inI; decide
  · intro x hx; rw [List.mem_singleton.1 hx]; unfold inI; decide
set_option maxHeartbeats 8000000 in
theorem awk50_ok : AFn Tryd.prog 7 [] (.bool true) := by
  refine fn_awk50 rfl ?_
  have c1 := gOf_ok [nd50] (by decide) (fun x hx => by
    rw [List.mem_singleton.1 hx]
    exact ⟨by decide, by decide, ⟨by decide, fun m hm => by cases hm⟩⟩)
  rw [of50] at c1
  have c2 := gLn_ok g50 fits50
  rw [line50] at c2
  have c3 := gFl_ok c50 [nd50] (by decide) (fun x hx => by rw [List.mem_singleton.1 hx]; decide) (by decide)
  have c4 := gLs_ok c50 3 (by decide)
  rw [show fillF c50 [nd50] = 50 by decide] at c3
  rw [show leastF c50 3 = 2 by decide] at c4
  simp only [nd50, g50, c50, s50, Nd.a, Gau.a, Cfg.a, Par.a, List.map_cons, List.map_nil] at c1 c2 c3 c4
  (repeat (first | simp (maxSteps := 4000000) only [go_sem, ↓reduceIte, reduceCtorEq, Nat.reduceEqDiff, Nat.reduceBEq, Nat.reduceAdd, Nat.reduceSub, Nat.reduceMul, Nat.reduceLT, Nat.reduceLeDiff, Nat.reduceBNe, Int.reduceBEq, Int.reduceBNe, Int.reduceLT, Int.reduceLE, evG, evP, Nat.reduceMod, Nat.reduceDiv, Nat.reduceSub, Nat.reduceLeDiff, Nat.reduceMul, Nat.reduceAdd, Msg.a, Par.a] | refine calling (c1) ?_ | refine callingH (c1) ?_ | refine calling (c2) ?_ | refine callingH (c2) ?_ | refine calling (c3) ?_ | refine callingH (c3) ?_ | refine calling (c4) ?_ | refine callingH (c4) ?_ | refine And.intro (by omega) ?_ | refine And.intro (fun d hd => by (repeat (rcases hd with rfl | hd; · exact ⟨rfl, rfl⟩)); cases hd) ?_))
end
section
/-
  The laws of the gauges' lines and of the gauges of trees: walked.
-/
open Go.RowKit
set_option linter.unusedVariables false
set_option linter.unusedSimpArgs false
set_option maxRecDepth 100000
attribute [local go_sem ↓] runOp headOp
/-! ### percolate/percolatelaw50.GaugeLines -/
/-! ### percolate/percolatelaw50.GaugeOf -/
theorem gd_of {x : Nd} (h : x.light 1000 = true) : x.Gd := by
  unfold Nd.light at h
  simp only [Bool.and_eq_true, decide_eq_true_eq] at h
  obtain ⟨⟨⟨⟨h1, h2⟩, h3⟩, h4⟩, h5⟩ := h
  have m1 := sumN_len (f := Par.bulk) (fun p => by unfold Par.bulk; omega) x.rows
  have m2 := sumN_len (f := Msg.bulkN) (fun p => by unfold Msg.bulkN; omega) x.msgs
  refine ⟨by omega, by omega, by omega, fun m hm => ?_⟩
  have h6 := sumN_mem (f := Msg.bulkN) hm
  unfold Msg.bulkN at h4 h6
  omega
end
end Go.Proofs.YtelmejaiapdgnaaDoor
