/-
  The chapter's examples of traces, and the law TraceNodes.
-/
import Derived.Test.YtkdbphhekpdmhaaDoorTrG
import Derived.Test.YtkdbphhekpdmhaaDoorNdB
import Derived.Test.YtkdbphhekpdmhaaDoorPkF
namespace Go.Proofs.YtkdbphhekpdmhaaDoor
open Go.RowKit
set_option linter.unusedVariables false
set_option linter.unusedSimpArgs false
set_option maxRecDepth 100000
attribute [local go_sem ↓] runOp headOp
attribute [local go_sem] ev0 ev1 ev2 ev3 ev4 evA stHOk.eq_1 stHOk.eq_2 stHSt.eq_1 stHSt.eq_2 okV valV fzV okF valF okBld valBld mxOk.eq_1 mxOk.eq_2 mxVal.eq_1 mxVal.eq_2 cellFit.eq_1 cellFit.eq_2 cellFit.eq_3 cellEq.eq_1 cellEq.eq_2 cellEq.eq_3 upd_at AV.flatB AV.flatBs binIok binIV binSok binSV cellsOk.eq_1 cellsOk.eq_2 cellsVal.eq_1 cellsVal.eq_2 objCells.eq_1 objCells.eq_2 objZ.eq_1 objZ.eq_2 objProt.eq_1 objProt.eq_2 oneObj ptrOk.eq_1 ptrOk.eq_2 ptrOk.eq_3 ptrCells.eq_1 ptrCells.eq_2 ptrCells.eq_3 lenOk.eq_1 lenOk.eq_2 lenOk.eq_3 lenOk.eq_4 lenVal.eq_1 lenVal.eq_2 lenVal.eq_3 lenVal.eq_4 faOk.eq_1 faOk.eq_2 faOk.eq_3 faVal.eq_1 faVal.eq_2 faVal.eq_3 iaOk.eq_1 iaOk.eq_2 iaOk.eq_3 iaVal.eq_1 iaVal.eq_2 iaVal.eq_3 slcLen.eq_1 slcLen.eq_2 slcLen.eq_3 slcLen.eq_4 bdOk.eq_1 bdOk.eq_2 bdVal.eq_1 bdVal.eq_2 slcOk.eq_1 slcOk.eq_2 slcOk.eq_3 slcOk.eq_4 slcVal.eq_1 slcVal.eq_2 slcVal.eq_3 slcVal.eq_4 slcFz.eq_1 slcFz.eq_2 byOk.eq_1 byOk.eq_2 byOk.eq_3 byOk.eq_4 byOk.eq_5 byOk.eq_6 byOk.eq_7 byVal.eq_1 byVal.eq_2 byVal.eq_3 byFz.eq_1 byFz.eq_2 byFz.eq_3 byOks byVals byFzs allOne resSt.eq_1 resSt.eq_2 resName.eq_1 resName.eq_2 stOk.eq_1 stOk.eq_2 stArr.eq_1 stArr.eq_2 stSt.eq_1 stSt.eq_2 AV.patch nameOk_none gB.eq_1 gB.eq_2 gB.eq_3 gIs.eq_1 gIs.eq_2 gIs.eq_3 retV resV resVs evalV cellsV St.byval List.getD_cons_zero List.getD_cons_succ List.getD_nil List.map_cons List.map_nil List.length_cons List.length_nil List.take_succ_cons List.take_zero List.drop_succ_cons List.drop_zero List.headD_cons List.set_cons_zero List.append_nil List.nil_append List.cons_append List.contains_cons List.contains_nil List.elem_cons List.elem_nil List.all_cons List.all_nil List.getElem?_cons_zero List.getElem?_cons_succ List.filterMap_cons List.filterMap_nil Option.isSome_some Option.isSome_none Option.map_some Option.map_none Option.some.injEq AV.int.injEq AV.bool.injEq AV.str.injEq AV.tup.injEq AV.agg.injEq AV.sl.injEq List.cons.injEq Bool.false_eq_true Bool.true_eq_false Bool.not_true Bool.not_false Bool.and_true Bool.true_and Bool.or_false Bool.or_true Bool.false_or Bool.true_or Bool.or_self Bool.and_self Bool.not_eq_true' Bool.not_eq_false' Bool.not_not beq_self_eq_true true_and and_true false_and and_false and_self not_true_eq_false not_false_eq_true forall_const true_implies false_implies implies_true imp_self Nat.lt_add_one Nat.le_refl Nat.zero_le Nat.add_zero Nat.zero_add decide_true decide_false decide_eq_true_eq decide_eq_false_iff_not exists_eq_left exists_eq_left' ge_iff_le gt_iff_lt ite_branch ite_branch' nilOk.eq_1 nilOk.eq_2 nilMay.eq_1 nilMay.eq_2 AV.isSl.eq_1 objTy'.eq_1 objTy'.eq_2 apSt.eq_1 apArr.eq_1 apArr.eq_2 slOf.eq_1 fitsV List.mem_cons List.not_mem_nil Bool.false_and Bool.and_false primOk.eq_1 primOk.eq_2 primOk.eq_3 primOk.eq_4 primOk.eq_5 primVal.eq_1 primVal.eq_2 primVal.eq_3 primVal.eq_4 primVal.eq_5 mOk.eq_1 mOk.eq_2 mVal.eq_1 mVal.eq_2 mFz.eq_1 mFz.eq_2 mOks mVals mFzs mCalOk.eq_1 mCalOk.eq_2 mFn.eq_1 mFn.eq_2 mArgs.eq_1 mArgs.eq_2 ckOk.eq_1 ckOk.eq_2 cloOk.eq_1 ptrAt.eq_1 sh.eq_1 sh.eq_2 sh.eq_3 sh.eq_4 sh.eq_5 retM shH_small
/-! ### percolate/trace.Parse -/
def r_tParse_0 : Reg := ⟨[], [⟨(.alloc 15 53 (.agg [(.int .i64 0), (.int .i64 0), (.str ⟨#[]⟩), (.str ⟨#[]⟩), (.bool false), (.str ⟨#[]⟩), (.int .i64 0), (.int .i64 0), (.bool false), (.str ⟨#[]⟩), (.sl []), (.int .i64 0), (.int .i64 0), (.int .i64 0), (.bool false)])), (some 2), none, [], []⟩, ⟨(.mv (.c (.bool false))), (some 3), none, [], []⟩], [2], [], false⟩
def r_tParse_1 : Reg := ⟨[], [⟨(.mv (.t 0)), (some 7), none, [8], []⟩, ⟨(.callv (.c (.clo 67 [] [])) [(.t 7), (.c (.str ⟨#[32, 58, 32]⟩))]), (some 8), none, [], []⟩, ⟨(.mv (.t 8)), (some 4), none, [], []⟩], [8], [], false⟩
def r_tParse_2 : Reg := ⟨[], [⟨(.mv (.t 4)), (some 9), none, [], []⟩, ⟨(.len false (.t 9)), (some 10), none, [], []⟩, ⟨(.bin .neq (.t 10) (.c (.int .i64 3))), (some 11), none, [], []⟩], [], [], false⟩
def r_tParse_3 : Reg := ⟨[], [⟨(.bld [(.int .i64 0), (.int .i64 0), (.str ⟨#[]⟩), (.str ⟨#[]⟩), (.bool false), (.str ⟨#[]⟩), (.int .i64 0), (.int .i64 0), (.bool false), (.str ⟨#[]⟩), (.sl []), (.int .i64 0), (.int .i64 0), (.int .i64 0), (.bool false)] []), (some 12), none, [], []⟩, ⟨(.store 15 (.t 2) (.t 12)), none, none, [], []⟩, ⟨(.mv (.c (.bool false))), (some 3), none, [], []⟩], [], [], false⟩
def r_tParse_4 : Reg := ⟨[], [⟨(.mv (.t 4)), (some 13), none, [16, 17], []⟩, ⟨(.iaddr 1 (.t 13) (.c (.int .i64 0))), (some 14), none, [16, 17], []⟩, ⟨(.load 1 false (.t 14)), (some 15), none, [16, 17], []⟩, ⟨(.callv (.c (.clo 68 [] [])) [(.t 15)]), (some 16), none, [17], []⟩, ⟨(.bsl 1 9 [(.c (.str ⟨#[]⟩)), (.c (.str ⟨#[]⟩)), (.c (.str ⟨#[]⟩)), (.c (.str ⟨#[]⟩)), (.c (.str ⟨#[]⟩))]), (some 17), none, [], []⟩, ⟨(.append 1 9 16 (.t 16) (.t 17)), (some 18), none, [], []⟩, ⟨(.mv (.t 18)), (some 5), none, [], []⟩], [16, 17], [], false⟩
def r_tParse_5 : Reg := ⟨[], [⟨(.alloc 15 53 (.agg [(.int .i64 0), (.int .i64 0), (.str ⟨#[]⟩), (.str ⟨#[]⟩), (.bool false), (.str ⟨#[]⟩), (.int .i64 0), (.int .i64 0), (.bool false), (.str ⟨#[]⟩), (.sl []), (.int .i64 0), (.int .i64 0), (.int .i64 0), (.bool false)])), (some 6), none, [], []⟩], [6], [], false⟩
def r_tParse_6 : Reg := ⟨[], [⟨(.mv (.t 5)), (some 20), none, [23], []⟩, ⟨(.iaddr 1 (.t 20) (.c (.int .i64 0))), (some 21), none, [23], []⟩, ⟨(.load 1 false (.t 21)), (some 22), none, [23], []⟩, ⟨(.callv (.c (.clo 69 [] [])) [(.t 22)]), (some 23), none, [], []⟩, ⟨(.mv (.t 23)), (some 19), none, [], []⟩, ⟨(.ext 0 (.t 19)), (some 24), none, [], []⟩, ⟨(.ext 1 (.t 19)), (some 25), none, [], []⟩, ⟨(.faddr 0 (.t 6)), (some 26), none, [], []⟩, ⟨(.store 1 (.t 26) (.t 24)), none, none, [], []⟩], [23], [], false⟩
def r_tParse_7 : Reg := ⟨[], [⟨(.mv (.t 5)), (some 28), none, [31], []⟩, ⟨(.iaddr 1 (.t 28) (.c (.int .i64 1))), (some 29), none, [31], []⟩, ⟨(.load 1 false (.t 29)), (some 30), none, [31], []⟩, ⟨(.callv (.c (.clo 69 [] [])) [(.t 30)]), (some 31), none, [], []⟩, ⟨(.mv (.t 31)), (some 27), none, [], []⟩, ⟨(.ext 0 (.t 27)), (some 32), none, [], []⟩, ⟨(.ext 1 (.t 27)), (some 33), none, [], []⟩, ⟨(.faddr 11 (.t 6)), (some 34), none, [], []⟩, ⟨(.store 1 (.t 34) (.t 32)), none, none, [], []⟩], [31], [], false⟩
def r_tParse_8 : Reg := ⟨[], [⟨(.mv (.t 5)), (some 36), none, [39], []⟩, ⟨(.iaddr 1 (.t 36) (.c (.int .i64 2))), (some 37), none, [39], []⟩, ⟨(.load 1 false (.t 37)), (some 38), none, [39], []⟩, ⟨(.callv (.c (.clo 69 [] [])) [(.t 38)]), (some 39), none, [], []⟩, ⟨(.mv (.t 39)), (some 35), none, [], []⟩, ⟨(.ext 0 (.t 35)), (some 40), none, [], []⟩, ⟨(.ext 1 (.t 35)), (some 41), none, [], []⟩, ⟨(.faddr 12 (.t 6)), (some 42), none, [], []⟩, ⟨(.store 1 (.t 42) (.t 40)), none, none, [], []⟩], [39], [], false⟩
def r_tParse_9 : Reg := ⟨[], [⟨(.mv (.t 5)), (some 44), none, [47], []⟩, ⟨(.iaddr 1 (.t 44) (.c (.int .i64 3))), (some 45), none, [47], []⟩, ⟨(.load 1 false (.t 45)), (some 46), none, [47], []⟩, ⟨(.callv (.c (.clo 69 [] [])) [(.t 46)]), (some 47), none, [], []⟩, ⟨(.mv (.t 47)), (some 43), none, [], []⟩, ⟨(.ext 0 (.t 43)), (some 48), none, [], []⟩, ⟨(.ext 1 (.t 43)), (some 49), none, [], []⟩, ⟨(.faddr 13 (.t 6)), (some 50), none, [], []⟩, ⟨(.store 1 (.t 50) (.t 48)), none, none, [], []⟩], [47], [], false⟩
def r_tParse_10 : Reg := ⟨[], [⟨(.mv (.t 5)), (some 51), none, [], []⟩, ⟨(.iaddr 1 (.t 51) (.c (.int .i64 4))), (some 52), none, [], []⟩, ⟨(.load 1 false (.t 52)), (some 53), none, [], []⟩, ⟨(.bin .eql (.t 53) (.c (.str ⟨#[121, 101, 115]⟩))), (some 54), none, [], []⟩, ⟨(.faddr 14 (.t 6)), (some 55), none, [], []⟩, ⟨(.store 1 (.t 55) (.t 54)), none, none, [], []⟩], [], [], false⟩
def r_tParse_11 : Reg := ⟨[], [⟨(.mv (.t 4)), (some 57), none, [60], []⟩, ⟨(.iaddr 1 (.t 57) (.c (.int .i64 1))), (some 58), none, [60], []⟩, ⟨(.load 1 false (.t 58)), (some 59), none, [60], []⟩, ⟨(.callv (.c (.clo 70 [] [])) [(.t 59)]), (some 60), none, [], []⟩, ⟨(.mv (.t 60)), (some 56), none, [], []⟩, ⟨(.ext 0 (.t 56)), (some 61), none, [], []⟩, ⟨(.ext 1 (.t 56)), (some 62), none, [], []⟩, ⟨(.faddr 1 (.t 6)), (some 63), none, [], []⟩, ⟨(.store 6 (.t 63) (.t 61)), none, none, [], []⟩], [60], [], false⟩
def r_tParse_12 : Reg := ⟨[], [⟨(.faddr 14 (.t 6)), (some 64), none, [], []⟩, ⟨(.load 1 false (.t 64)), (some 65), none, [], []⟩], [], [], false⟩
def r_tParse_13 : Reg := ⟨[], [⟨(.mv (.t 4)), (some 66), none, [69], []⟩, ⟨(.iaddr 1 (.t 66) (.c (.int .i64 2))), (some 67), none, [69], []⟩, ⟨(.load 1 false (.t 67)), (some 68), none, [69], []⟩, ⟨(.callv (.c (.clo 71 [] [])) [(.t 68)]), (some 69), none, [], []⟩, ⟨(.faddr 7 (.t 6)), (some 70), none, [], []⟩, ⟨(.store 4 (.t 70) (.t 69)), none, none, [], []⟩], [69], [], false⟩
def r_tParse_14 : Reg := ⟨[], [⟨(.load 15 true (.t 6)), (some 71), none, [72, 79, 86], []⟩, ⟨(.callv (.c (.clo 26 [] [])) [(.t 71)]), (some 72), none, [79, 86], []⟩, ⟨(.mv (.t 0)), (some 73), none, [79, 86], []⟩, ⟨(.bin .neq (.t 72) (.t 73)), (some 74), none, [79, 86], []⟩, ⟨(.mv (.t 74)), (some 75), none, [79, 86], []⟩, ⟨(.faddr 7 (.t 6)), (some 76), (some (75, false)), [79, 86], []⟩, ⟨(.faddr 3 (.t 76)), (some 77), (some (75, false)), [79, 86], []⟩, ⟨(.load 1 false (.t 77)), (some 78), (some (75, false)), [79, 86], []⟩, ⟨(.callv (.c (.clo 72 [] [])) [(.t 78)]), (some 79), (some (75, false)), [86], []⟩, ⟨(.un .not (.t 79)), (some 80), (some (75, false)), [86], []⟩, ⟨(.pick (.t 75) (.c (.bool true)) (.t 80)), (some 81), none, [86], []⟩, ⟨(.mv (.t 81)), (some 82), none, [86], []⟩, ⟨(.faddr 7 (.t 6)), (some 83), (some (82, false)), [86], []⟩, ⟨(.faddr 2 (.t 83)), (some 84), (some (82, false)), [86], []⟩, ⟨(.load 1 false (.t 84)), (some 85), (some (82, false)), [86], []⟩, ⟨(.callv (.c (.clo 73 [] [])) [(.t 85)]), (some 86), (some (82, false)), [], []⟩, ⟨(.un .not (.t 86)), (some 87), (some (82, false)), [], []⟩, ⟨(.pick (.t 82) (.c (.bool true)) (.t 87)), (some 88), none, [], []⟩], [72, 79, 86], [], false⟩
def r_tParse_15 : Reg := ⟨[], [⟨(.bld [(.int .i64 0), (.int .i64 0), (.str ⟨#[]⟩), (.str ⟨#[]⟩), (.bool false), (.str ⟨#[]⟩), (.int .i64 0), (.int .i64 0), (.bool false), (.str ⟨#[]⟩), (.sl []), (.int .i64 0), (.int .i64 0), (.int .i64 0), (.bool false)] []), (some 89), none, [], []⟩, ⟨(.store 15 (.t 2) (.t 89)), none, none, [], []⟩, ⟨(.mv (.c (.bool false))), (some 3), none, [], []⟩], [], [], false⟩
def r_tParse_16 : Reg := ⟨[], [⟨(.load 15 true (.t 6)), (some 90), none, [], []⟩, ⟨(.store 15 (.t 2) (.t 90)), none, none, [], []⟩, ⟨(.mv (.c (.bool true))), (some 3), none, [], []⟩], [], [], false⟩
def ir_tParse : IR := (.seq (.reg r_tParse_0)
  (.seq (.reg r_tParse_1)
  (.seq (.seq (.reg r_tParse_2)
  (.cond (.t 11) (.seq (.reg r_tParse_3)
  .ret)
  .skip))
  (.seq (.reg r_tParse_4)
  (.seq (.reg r_tParse_5)
  (.seq (.reg r_tParse_6)
  (.seq (.reg r_tParse_7)
  (.seq (.reg r_tParse_8)
  (.seq (.reg r_tParse_9)
  (.seq (.reg r_tParse_10)
  (.seq (.reg r_tParse_11)
  (.seq (.seq (.reg r_tParse_12)
  (.cond (.t 65) (.reg r_tParse_13)
  .skip))
  (.seq (.seq (.reg r_tParse_14)
  (.cond (.t 88) (.seq (.reg r_tParse_15)
  .ret)
  .skip))
  (.seq (.reg r_tParse_16)
  .ret))))))))))))))
def res_tParse : List RDesc := [(.cell 2 15 true), (.tmp 3)]
theorem e_tParse_0 (C : FuncId → List AV → AV → Prop) (σ : St) (K : St → Prop) : runReg C r_tParse_0 σ K = runOps C [⟨(.alloc 15 53 (.agg [(.int .i64 0), (.int .i64 0), (.str ⟨#[]⟩), (.str ⟨#[]⟩), (.bool false), (.str ⟨#[]⟩), (.int .i64 0), (.int .i64 0), (.bool false), (.str ⟨#[]⟩), (.sl []), (.int .i64 0), (.int .i64 0), (.int .i64 0), (.bool false)])), (some 2), none, [], []⟩, ⟨(.mv (.c (.bool false))), (some 3), none, [], []⟩] (σ.kills [2]) K := rfl
theorem e_tParse_1 (C : FuncId → List AV → AV → Prop) (σ : St) (K : St → Prop) : runReg C r_tParse_1 σ K = runOps C [⟨(.mv (.t 0)), (some 7), none, [8], []⟩, ⟨(.callv (.c (.clo 67 [] [])) [(.t 7), (.c (.str ⟨#[32, 58, 32]⟩))]), (some 8), none, [], []⟩, ⟨(.mv (.t 8)), (some 4), none, [], []⟩] (σ.kills [8]) K := rfl
theorem e_tParse_2 (C : FuncId → List AV → AV → Prop) (σ : St) (K : St → Prop) : runReg C r_tParse_2 σ K = runOps C [⟨(.mv (.t 4)), (some 9), none, [], []⟩, ⟨(.len false (.t 9)), (some 10), none, [], []⟩, ⟨(.bin .neq (.t 10) (.c (.int .i64 3))), (some 11), none, [], []⟩] (σ.kills []) K := rfl
theorem e_tParse_3 (C : FuncId → List AV → AV → Prop) (σ : St) (K : St → Prop) : runReg C r_tParse_3 σ K = runOps C [⟨(.bld [(.int .i64 0), (.int .i64 0), (.str ⟨#[]⟩), (.str ⟨#[]⟩), (.bool false), (.str ⟨#[]⟩), (.int .i64 0), (.int .i64 0), (.bool false), (.str ⟨#[]⟩), (.sl []), (.int .i64 0), (.int .i64 0), (.int .i64 0), (.bool false)] []), (some 12), none, [], []⟩, ⟨(.store 15 (.t 2) (.t 12)), none, none, [], []⟩, ⟨(.mv (.c (.bool false))), (some 3), none, [], []⟩] (σ.kills []) K := rfl
theorem e_tParse_4 (C : FuncId → List AV → AV → Prop) (σ : St) (K : St → Prop) : runReg C r_tParse_4 σ K = runOps C [⟨(.mv (.t 4)), (some 13), none, [16, 17], []⟩, ⟨(.iaddr 1 (.t 13) (.c (.int .i64 0))), (some 14), none, [16, 17], []⟩, ⟨(.load 1 false (.t 14)), (some 15), none, [16, 17], []⟩, ⟨(.callv (.c (.clo 68 [] [])) [(.t 15)]), (some 16), none, [17], []⟩, ⟨(.bsl 1 9 [(.c (.str ⟨#[]⟩)), (.c (.str ⟨#[]⟩)), (.c (.str ⟨#[]⟩)), (.c (.str ⟨#[]⟩)), (.c (.str ⟨#[]⟩))]), (some 17), none, [], []⟩, ⟨(.append 1 9 16 (.t 16) (.t 17)), (some 18), none, [], []⟩, ⟨(.mv (.t 18)), (some 5), none, [], []⟩] (σ.kills [16, 17]) K := rfl
theorem e_tParse_5 (C : FuncId → List AV → AV → Prop) (σ : St) (K : St → Prop) : runReg C r_tParse_5 σ K = runOps C [⟨(.alloc 15 53 (.agg [(.int .i64 0), (.int .i64 0), (.str ⟨#[]⟩), (.str ⟨#[]⟩), (.bool false), (.str ⟨#[]⟩), (.int .i64 0), (.int .i64 0), (.bool false), (.str ⟨#[]⟩), (.sl []), (.int .i64 0), (.int .i64 0), (.int .i64 0), (.bool false)])), (some 6), none, [], []⟩] (σ.kills [6]) K := rfl
theorem e_tParse_6 (C : FuncId → List AV → AV → Prop) (σ : St) (K : St → Prop) : runReg C r_tParse_6 σ K = runOps C [⟨(.mv (.t 5)), (some 20), none, [23], []⟩, ⟨(.iaddr 1 (.t 20) (.c (.int .i64 0))), (some 21), none, [23], []⟩, ⟨(.load 1 false (.t 21)), (some 22), none, [23], []⟩, ⟨(.callv (.c (.clo 69 [] [])) [(.t 22)]), (some 23), none, [], []⟩, ⟨(.mv (.t 23)), (some 19), none, [], []⟩, ⟨(.ext 0 (.t 19)), (some 24), none, [], []⟩, ⟨(.ext 1 (.t 19)), (some 25), none, [], []⟩, ⟨(.faddr 0 (.t 6)), (some 26), none, [], []⟩, ⟨(.store 1 (.t 26) (.t 24)), none, none, [], []⟩] (σ.kills [23]) K := rfl
theorem e_tParse_7 (C : FuncId → List AV → AV → Prop) (σ : St) (K : St → Prop) : runReg C r_tParse_7 σ K = runOps C [⟨(.mv (.t 5)), (some 28), none, [31], []⟩, ⟨(.iaddr 1 (.t 28) (.c (.int .i64 1))), (some 29), none, [31], []⟩, ⟨(.load 1 false (.t 29)), (some 30), none, [31], []⟩, ⟨(.callv (.c (.clo 69 [] [])) [(.t 30)]), (some 31), none, [], []⟩, ⟨(.mv (.t 31)), (some 27), none, [], []⟩, ⟨(.ext 0 (.t 27)), (some 32), none, [], []⟩, ⟨(.ext 1 (.t 27)), (some 33), none, [], []⟩, ⟨(.faddr 11 (.t 6)), (some 34), none, [], []⟩, ⟨(.store 1 (.t 34) (.t 32)), none, none, [], []⟩] (σ.kills [31]) K := rfl
theorem e_tParse_8 (C : FuncId → List AV → AV → Prop) (σ : St) (K : St → Prop) : runReg C r_tParse_8 σ K = runOps C [⟨(.mv (.t 5)), (some 36), none, [39], []⟩, ⟨(.iaddr 1 (.t 36) (.c (.int .i64 2))), (some 37), none, [39], []⟩, ⟨(.load 1 false (.t 37)), (some 38), none, [39], []⟩, ⟨(.callv (.c (.clo 69 [] [])) [(.t 38)]), (some 39), none, [], []⟩, ⟨(.mv (.t 39)), (some 35), none, [], []⟩, ⟨(.ext 0 (.t 35)), (some 40), none, [], []⟩, ⟨(.ext 1 (.t 35)), (some 41), none, [], []⟩, ⟨(.faddr 12 (.t 6)), (some 42), none, [], []⟩, ⟨(.store 1 (.t 42) (.t 40)), none, none, [], []⟩] (σ.kills [39]) K := rfl
theorem e_tParse_9 (C : FuncId → List AV → AV → Prop) (σ : St) (K : St → Prop) : runReg C r_tParse_9 σ K = runOps C [⟨(.mv (.t 5)), (some 44), none, [47], []⟩, ⟨(.iaddr 1 (.t 44) (.c (.int .i64 3))), (some 45), none, [47], []⟩, ⟨(.load 1 false (.t 45)), (some 46), none, [47], []⟩, ⟨(.callv (.c (.clo 69 [] [])) [(.t 46)]), (some 47), none, [], []⟩, ⟨(.mv (.t 47)), (some 43), none, [], []⟩, ⟨(.ext 0 (.t 43)), (some 48), none, [], []⟩, ⟨(.ext 1 (.t 43)), (some 49), none, [], []⟩, ⟨(.faddr 13 (.t 6)), (some 50), none, [], []⟩, ⟨(.store 1 (.t 50) (.t 48)), none, none, [], []⟩] (σ.kills [47]) K := rfl
theorem e_tParse_10 (C : FuncId → List AV → AV → Prop) (σ : St) (K : St → Prop) : runReg C r_tParse_10 σ K = runOps C [⟨(.mv (.t 5)), (some 51), none, [], []⟩, ⟨(.iaddr 1 (.t 51) (.c (.int .i64 4))), (some 52), none, [], []⟩, ⟨(.load 1 false (.t 52)), (some 53), none, [], []⟩, ⟨(.bin .eql (.t 53) (.c (.str ⟨#[121, 101, 115]⟩))), (some 54), none, [], []⟩, ⟨(.faddr 14 (.t 6)), (some 55), none, [], []⟩, ⟨(.store 1 (.t 55) (.t 54)), none, none, [], []⟩] (σ.kills []) K := rfl
theorem e_tParse_11 (C : FuncId → List AV → AV → Prop) (σ : St) (K : St → Prop) : runReg C r_tParse_11 σ K = runOps C [⟨(.mv (.t 4)), (some 57), none, [60], []⟩, ⟨(.iaddr 1 (.t 57) (.c (.int .i64 1))), (some 58), none, [60], []⟩, ⟨(.load 1 false (.t 58)), (some 59), none, [60], []⟩, ⟨(.callv (.c (.clo 70 [] [])) [(.t 59)]), (some 60), none, [], []⟩, ⟨(.mv (.t 60)), (some 56), none, [], []⟩, ⟨(.ext 0 (.t 56)), (some 61), none, [], []⟩, ⟨(.ext 1 (.t 56)), (some 62), none, [], []⟩, ⟨(.faddr 1 (.t 6)), (some 63), none, [], []⟩, ⟨(.store 6 (.t 63) (.t 61)), none, none, [], []⟩] (σ.kills [60]) K := rfl
theorem e_tParse_12 (C : FuncId → List AV → AV → Prop) (σ : St) (K : St → Prop) : runReg C r_tParse_12 σ K = runOps C [⟨(.faddr 14 (.t 6)), (some 64), none, [], []⟩, ⟨(.load 1 false (.t 64)), (some 65), none, [], []⟩] (σ.kills []) K := rfl
theorem e_tParse_13 (C : FuncId → List AV → AV → Prop) (σ : St) (K : St → Prop) : runReg C r_tParse_13 σ K = runOps C [⟨(.mv (.t 4)), (some 66), none, [69], []⟩, ⟨(.iaddr 1 (.t 66) (.c (.int .i64 2))), (some 67), none, [69], []⟩, ⟨(.load 1 false (.t 67)), (some 68), none, [69], []⟩, ⟨(.callv (.c (.clo 71 [] [])) [(.t 68)]), (some 69), none, [], []⟩, ⟨(.faddr 7 (.t 6)), (some 70), none, [], []⟩, ⟨(.store 4 (.t 70) (.t 69)), none, none, [], []⟩] (σ.kills [69]) K := rfl
theorem e_tParse_14 (C : FuncId → List AV → AV → Prop) (σ : St) (K : St → Prop) : runReg C r_tParse_14 σ K = runOps C [⟨(.load 15 true (.t 6)), (some 71), none, [72, 79, 86], []⟩, ⟨(.callv (.c (.clo 26 [] [])) [(.t 71)]), (some 72), none, [79, 86], []⟩, ⟨(.mv (.t 0)), (some 73), none, [79, 86], []⟩, ⟨(.bin .neq (.t 72) (.t 73)), (some 74), none, [79, 86], []⟩, ⟨(.mv (.t 74)), (some 75), none, [79, 86], []⟩, ⟨(.faddr 7 (.t 6)), (some 76), (some (75, false)), [79, 86], []⟩, ⟨(.faddr 3 (.t 76)), (some 77), (some (75, false)), [79, 86], []⟩, ⟨(.load 1 false (.t 77)), (some 78), (some (75, false)), [79, 86], []⟩, ⟨(.callv (.c (.clo 72 [] [])) [(.t 78)]), (some 79), (some (75, false)), [86], []⟩, ⟨(.un .not (.t 79)), (some 80), (some (75, false)), [86], []⟩, ⟨(.pick (.t 75) (.c (.bool true)) (.t 80)), (some 81), none, [86], []⟩, ⟨(.mv (.t 81)), (some 82), none, [86], []⟩, ⟨(.faddr 7 (.t 6)), (some 83), (some (82, false)), [86], []⟩, ⟨(.faddr 2 (.t 83)), (some 84), (some (82, false)), [86], []⟩, ⟨(.load 1 false (.t 84)), (some 85), (some (82, false)), [86], []⟩, ⟨(.callv (.c (.clo 73 [] [])) [(.t 85)]), (some 86), (some (82, false)), [], []⟩, ⟨(.un .not (.t 86)), (some 87), (some (82, false)), [], []⟩, ⟨(.pick (.t 82) (.c (.bool true)) (.t 87)), (some 88), none, [], []⟩] (σ.kills [72, 79, 86]) K := rfl
theorem e_tParse_15 (C : FuncId → List AV → AV → Prop) (σ : St) (K : St → Prop) : runReg C r_tParse_15 σ K = runOps C [⟨(.bld [(.int .i64 0), (.int .i64 0), (.str ⟨#[]⟩), (.str ⟨#[]⟩), (.bool false), (.str ⟨#[]⟩), (.int .i64 0), (.int .i64 0), (.bool false), (.str ⟨#[]⟩), (.sl []), (.int .i64 0), (.int .i64 0), (.int .i64 0), (.bool false)] []), (some 89), none, [], []⟩, ⟨(.store 15 (.t 2) (.t 89)), none, none, [], []⟩, ⟨(.mv (.c (.bool false))), (some 3), none, [], []⟩] (σ.kills []) K := rfl
theorem e_tParse_16 (C : FuncId → List AV → AV → Prop) (σ : St) (K : St → Prop) : runReg C r_tParse_16 σ K = runOps C [⟨(.load 15 true (.t 6)), (some 90), none, [], []⟩, ⟨(.store 15 (.t 2) (.t 90)), none, none, [], []⟩, ⟨(.mv (.c (.bool true))), (some 3), none, [], []⟩] (σ.kills []) K := rfl
theorem fn_tParse {args : List AV} {r : AV} (ha : args.length.ble Tryd.f27.ntmps = true) (h : run (AFn Tryd.prog) ir_tParse (endQ res_tParse r) (initSt args)) : AFn Tryd.prog 27 args r :=
  AFn.of_code (hint := fun _ => []) (c := Tryd.f27.body.getD .skip) (by kernel_rfl) (by kernel_rfl) Tryd.func27 (by kernel_rfl) (by kernel_rfl) (by kernel_rfl) (of_decide_eq_true (by kernel_rfl)) (Nat.le_of_ble_eq_true ha) (Nat.le_of_ble_eq_true (by kernel_rfl)) (run_ok h)

/-! ### percolate/percolatelaw46.awake -/
def r_aw46_0 : Reg := ⟨[], [⟨(.mv (.c (.bool false))), (some 0), none, [], []⟩], [], [], false⟩
def r_aw46_1 : Reg := ⟨[], [⟨(.bld [(.int .i64 0), (.str ⟨#[]⟩), (.str ⟨#[]⟩), (.bool false), (.str ⟨#[]⟩), (.int .i64 0)] [⟨0, 1, (.c (.int .i64 1))⟩, ⟨1, 1, (.c (.str ⟨#[97]⟩))⟩, ⟨4, 1, (.c (.str ⟨#[49]⟩))⟩]), (some 4), none, [1], []⟩, ⟨(.bld [(.int .i64 0), (.int .i64 0), (.str ⟨#[]⟩), (.str ⟨#[]⟩), (.bool false), (.str ⟨#[]⟩), (.int .i64 0), (.int .i64 0), (.bool false), (.str ⟨#[]⟩), (.sl []), (.int .i64 0), (.int .i64 0), (.int .i64 0), (.bool false)] [⟨1, 6, (.t 4)⟩, ⟨11, 1, (.c (.int .i64 1))⟩, ⟨12, 1, (.c (.int .i64 3))⟩, ⟨13, 1, (.c (.int .i64 3))⟩, ⟨14, 1, (.c (.bool true))⟩]), (some 5), none, [1], []⟩, ⟨(.alloc 15 53 (.agg [(.int .i64 0), (.int .i64 0), (.str ⟨#[]⟩), (.str ⟨#[]⟩), (.bool false), (.str ⟨#[]⟩), (.int .i64 0), (.int .i64 0), (.bool false), (.str ⟨#[]⟩), (.sl []), (.int .i64 0), (.int .i64 0), (.int .i64 0), (.bool false)])), (some 1), none, [], []⟩, ⟨(.store 15 (.t 1) (.t 5)), none, none, [], []⟩], [1], [], false⟩
def r_aw46_2 : Reg := ⟨[], [⟨(.callv (.c (.clo 27 [] [])) [(.c (.str ⟨#[48, 32, 49, 32, 51, 32, 51, 32, 121, 101, 115, 32, 58, 32, 112, 117, 116, 32, 97, 32, 49, 32, 58, 32, 111, 107]⟩))]), (some 7), none, [2], []⟩, ⟨(.mv (.t 7)), (some 6), none, [2], []⟩, ⟨(.ext 0 (.t 6)), (some 8), none, [2], []⟩, ⟨(.ext 1 (.t 6)), (some 9), none, [2], []⟩, ⟨(.alloc 15 53 (.agg [(.int .i64 0), (.int .i64 0), (.str ⟨#[]⟩), (.str ⟨#[]⟩), (.bool false), (.str ⟨#[]⟩), (.int .i64 0), (.int .i64 0), (.bool false), (.str ⟨#[]⟩), (.sl []), (.int .i64 0), (.int .i64 0), (.int .i64 0), (.bool false)])), (some 2), none, [], []⟩, ⟨(.store 15 (.t 2) (.t 8)), none, none, [], []⟩, ⟨(.mv (.t 9)), (some 3), none, [], []⟩], [7, 2], [], false⟩
def r_aw46_3 : Reg := ⟨[], [⟨(.load 15 true (.t 1)), (some 10), none, [11, 19, 23, 25], []⟩, ⟨(.callv (.c (.clo 26 [] [])) [(.t 10)]), (some 11), none, [19, 23, 25], []⟩, ⟨(.bin .eql (.t 11) (.c (.str ⟨#[48, 32, 49, 32, 51, 32, 51, 32, 121, 101, 115, 32, 58, 32, 112, 117, 116, 32, 97, 32, 49, 32, 58, 32, 111, 107]⟩))), (some 12), none, [19, 23, 25], []⟩, ⟨(.mv (.t 12)), (some 13), none, [19, 23, 25], []⟩, ⟨(.mv (.t 3)), (some 14), (some (13, true)), [19, 23, 25], []⟩, ⟨(.pick (.t 13) (.t 14) (.c (.bool false))), (some 15), none, [19, 23, 25], []⟩, ⟨(.mv (.t 15)), (some 16), none, [19, 23, 25], []⟩, ⟨(.load 15 true (.t 2)), (some 17), (some (16, true)), [19, 23, 25], []⟩, ⟨(.load 15 true (.t 1)), (some 18), (some (16, true)), [19, 23, 25], []⟩, ⟨(.callv (.c (.clo 30 [] [])) [(.t 17), (.t 18)]), (some 19), (some (16, true)), [23, 25], []⟩, ⟨(.pick (.t 16) (.t 19) (.c (.bool false))), (some 20), none, [23, 25], []⟩, ⟨(.mv (.t 20)), (some 21), none, [23, 25], []⟩, ⟨(.bld [(.str ⟨#[]⟩), (.str ⟨#[]⟩)] [⟨0, 1, (.c (.str ⟨#[97]⟩))⟩, ⟨1, 1, (.c (.str ⟨#[49]⟩))⟩]), (some 22), (some (21, true)), [23, 25], []⟩, ⟨(.bsl 2 87 [(.t 22)]), (some 23), (some (21, true)), [25], []⟩, ⟨(.bld [(.int .i64 0), (.int .i64 0), (.sl []), (.sl []), (.str ⟨#[]⟩), (.bool false), (.int .i64 0), (.int .i64 0), (.sl []), (.sl [])] [⟨0, 1, (.c (.int .i64 1))⟩, ⟨4, 1, (.c (.str ⟨#[109]⟩))⟩, ⟨6, 1, (.c (.int .i64 2))⟩, ⟨7, 1, (.c (.int .i64 2))⟩, ⟨9, 1, (.t 23)⟩]), (some 24), (some (21, true)), [25], []⟩, ⟨(.callv (.c (.clo 32 [] [])) [(.t 24)]), (some 25), (some (21, true)), [], []⟩, ⟨(.bin .eql (.t 25) (.c (.str ⟨#[110, 111, 100, 101, 32, 49, 32, 48, 32, 50, 32, 50, 32, 109, 32, 58, 32, 114, 111, 119, 115, 32, 49, 32, 97, 61, 49, 32, 58, 32, 109, 115, 103, 115, 32, 48]⟩))), (some 26), (some (21, true)), [], []⟩, ⟨(.pick (.t 21) (.t 26) (.c (.bool false))), (some 27), none, [], []⟩, ⟨(.mv (.t 27)), (some 0), none, [], []⟩], [11, 19, 23, 25], [], false⟩
def ir_aw46 : IR := (.seq (.reg r_aw46_0)
  (.seq (.reg r_aw46_1)
  (.seq (.reg r_aw46_2)
  (.seq (.reg r_aw46_3)
  .ret))))
def res_aw46 : List RDesc := [(.tmp 0)]
theorem e_aw46_0 (C : FuncId → List AV → AV → Prop) (σ : St) (K : St → Prop) : runReg C r_aw46_0 σ K = runOps C [⟨(.mv (.c (.bool false))), (some 0), none, [], []⟩] (σ.kills []) K := rfl
theorem e_aw46_1 (C : FuncId → List AV → AV → Prop) (σ : St) (K : St → Prop) : runReg C r_aw46_1 σ K = runOps C [⟨(.bld [(.int .i64 0), (.str ⟨#[]⟩), (.str ⟨#[]⟩), (.bool false), (.str ⟨#[]⟩), (.int .i64 0)] [⟨0, 1, (.c (.int .i64 1))⟩, ⟨1, 1, (.c (.str ⟨#[97]⟩))⟩, ⟨4, 1, (.c (.str ⟨#[49]⟩))⟩]), (some 4), none, [1], []⟩, ⟨(.bld [(.int .i64 0), (.int .i64 0), (.str ⟨#[]⟩), (.str ⟨#[]⟩), (.bool false), (.str ⟨#[]⟩), (.int .i64 0), (.int .i64 0), (.bool false), (.str ⟨#[]⟩), (.sl []), (.int .i64 0), (.int .i64 0), (.int .i64 0), (.bool false)] [⟨1, 6, (.t 4)⟩, ⟨11, 1, (.c (.int .i64 1))⟩, ⟨12, 1, (.c (.int .i64 3))⟩, ⟨13, 1, (.c (.int .i64 3))⟩, ⟨14, 1, (.c (.bool true))⟩]), (some 5), none, [1], []⟩, ⟨(.alloc 15 53 (.agg [(.int .i64 0), (.int .i64 0), (.str ⟨#[]⟩), (.str ⟨#[]⟩), (.bool false), (.str ⟨#[]⟩), (.int .i64 0), (.int .i64 0), (.bool false), (.str ⟨#[]⟩), (.sl []), (.int .i64 0), (.int .i64 0), (.int .i64 0), (.bool false)])), (some 1), none, [], []⟩, ⟨(.store 15 (.t 1) (.t 5)), none, none, [], []⟩] (σ.kills [1]) K := rfl
theorem e_aw46_2 (C : FuncId → List AV → AV → Prop) (σ : St) (K : St → Prop) : runReg C r_aw46_2 σ K = runOps C [⟨(.callv (.c (.clo 27 [] [])) [(.c (.str ⟨#[48, 32, 49, 32, 51, 32, 51, 32, 121, 101, 115, 32, 58, 32, 112, 117, 116, 32, 97, 32, 49, 32, 58, 32, 111, 107]⟩))]), (some 7), none, [2], []⟩, ⟨(.mv (.t 7)), (some 6), none, [2], []⟩, ⟨(.ext 0 (.t 6)), (some 8), none, [2], []⟩, ⟨(.ext 1 (.t 6)), (some 9), none, [2], []⟩, ⟨(.alloc 15 53 (.agg [(.int .i64 0), (.int .i64 0), (.str ⟨#[]⟩), (.str ⟨#[]⟩), (.bool false), (.str ⟨#[]⟩), (.int .i64 0), (.int .i64 0), (.bool false), (.str ⟨#[]⟩), (.sl []), (.int .i64 0), (.int .i64 0), (.int .i64 0), (.bool false)])), (some 2), none, [], []⟩, ⟨(.store 15 (.t 2) (.t 8)), none, none, [], []⟩, ⟨(.mv (.t 9)), (some 3), none, [], []⟩] (σ.kills [7, 2]) K := rfl
theorem e_aw46_3 (C : FuncId → List AV → AV → Prop) (σ : St) (K : St → Prop) : runReg C r_aw46_3 σ K = runOps C [⟨(.load 15 true (.t 1)), (some 10), none, [11, 19, 23, 25], []⟩, ⟨(.callv (.c (.clo 26 [] [])) [(.t 10)]), (some 11), none, [19, 23, 25], []⟩, ⟨(.bin .eql (.t 11) (.c (.str ⟨#[48, 32, 49, 32, 51, 32, 51, 32, 121, 101, 115, 32, 58, 32, 112, 117, 116, 32, 97, 32, 49, 32, 58, 32, 111, 107]⟩))), (some 12), none, [19, 23, 25], []⟩, ⟨(.mv (.t 12)), (some 13), none, [19, 23, 25], []⟩, ⟨(.mv (.t 3)), (some 14), (some (13, true)), [19, 23, 25], []⟩, ⟨(.pick (.t 13) (.t 14) (.c (.bool false))), (some 15), none, [19, 23, 25], []⟩, ⟨(.mv (.t 15)), (some 16), none, [19, 23, 25], []⟩, ⟨(.load 15 true (.t 2)), (some 17), (some (16, true)), [19, 23, 25], []⟩, ⟨(.load 15 true (.t 1)), (some 18), (some (16, true)), [19, 23, 25], []⟩, ⟨(.callv (.c (.clo 30 [] [])) [(.t 17), (.t 18)]), (some 19), (some (16, true)), [23, 25], []⟩, ⟨(.pick (.t 16) (.t 19) (.c (.bool false))), (some 20), none, [23, 25], []⟩, ⟨(.mv (.t 20)), (some 21), none, [23, 25], []⟩, ⟨(.bld [(.str ⟨#[]⟩), (.str ⟨#[]⟩)] [⟨0, 1, (.c (.str ⟨#[97]⟩))⟩, ⟨1, 1, (.c (.str ⟨#[49]⟩))⟩]), (some 22), (some (21, true)), [23, 25], []⟩, ⟨(.bsl 2 87 [(.t 22)]), (some 23), (some (21, true)), [25], []⟩, ⟨(.bld [(.int .i64 0), (.int .i64 0), (.sl []), (.sl []), (.str ⟨#[]⟩), (.bool false), (.int .i64 0), (.int .i64 0), (.sl []), (.sl [])] [⟨0, 1, (.c (.int .i64 1))⟩, ⟨4, 1, (.c (.str ⟨#[109]⟩))⟩, ⟨6, 1, (.c (.int .i64 2))⟩, ⟨7, 1, (.c (.int .i64 2))⟩, ⟨9, 1, (.t 23)⟩]), (some 24), (some (21, true)), [25], []⟩, ⟨(.callv (.c (.clo 32 [] [])) [(.t 24)]), (some 25), (some (21, true)), [], []⟩, ⟨(.bin .eql (.t 25) (.c (.str ⟨#[110, 111, 100, 101, 32, 49, 32, 48, 32, 50, 32, 50, 32, 109, 32, 58, 32, 114, 111, 119, 115, 32, 49, 32, 97, 61, 49, 32, 58, 32, 109, 115, 103, 115, 32, 48]⟩))), (some 26), (some (21, true)), [], []⟩, ⟨(.pick (.t 21) (.t 26) (.c (.bool false))), (some 27), none, [], []⟩, ⟨(.mv (.t 27)), (some 0), none, [], []⟩] (σ.kills [11, 19, 23, 25]) K := rfl
theorem fn_aw46 {args : List AV} {r : AV} (ha : args.length.ble Tryd.f25.ntmps = true) (h : run (AFn Tryd.prog) ir_aw46 (endQ res_aw46 r) (initSt args)) : AFn Tryd.prog 25 args r :=
  AFn.of_code (hint := fun _ => []) (c := Tryd.f25.body.getD .skip) (by kernel_rfl) (by kernel_rfl) Tryd.func25 (by kernel_rfl) (by kernel_rfl) (by kernel_rfl) (of_decide_eq_true (by kernel_rfl)) (Nat.le_of_ble_eq_true ha) (Nat.le_of_ble_eq_true (by kernel_rfl)) (run_ok h)

/-! ### percolate/percolatelaw46.TraceNodes -/
def r_nodesL_0 : Reg := ⟨[], [⟨(.box 10 34 (.t 0)), (some 3), none, [4, 5], []⟩, ⟨(.box 3 63 (.t 1)), (some 4), none, [5], []⟩, ⟨(.box 6 65 (.t 2)), (some 5), none, [], []⟩, ⟨(.mv (.c (.bool false))), (some 6), none, [], []⟩], [3, 4, 5], [], false⟩
def r_nodesL_1 : Reg := ⟨[], [⟨(.load 10 true (.t 3)), (some 7), none, [8, 9, 13], []⟩, ⟨(.bsl 10 34 [(.t 7)]), (some 8), none, [9, 13], []⟩, ⟨(.callv (.c (.clo 10 [] [])) [(.t 8), (.c (.int .i64 1)), (.c (.int .i64 2000))]), (some 9), none, [13], []⟩, ⟨(.un .not (.t 9)), (some 10), none, [13], []⟩, ⟨(.mv (.t 10)), (some 11), none, [13], []⟩, ⟨(.load 6 true (.t 5)), (some 12), (some (11, false)), [13], []⟩, ⟨(.callv (.c (.clo 31 [] [])) [(.t 12), (.c (.int .i64 300))]), (some 13), (some (11, false)), [], []⟩, ⟨(.un .not (.t 13)), (some 14), (some (11, false)), [], []⟩, ⟨(.pick (.t 11) (.c (.bool true)) (.t 14)), (some 15), none, [], []⟩], [8, 9, 13], [], false⟩
def r_nodesL_2 : Reg := ⟨[], [⟨(.callv (.c (.clo 25 [] [])) []), (some 16), none, [], []⟩, ⟨(.mv (.t 16)), (some 6), none, [], []⟩], [16], [], false⟩
def r_nodesL_3 : Reg := ⟨[⟨(.load 10 true (.t 3)), (some 17), none, [18, 20, 24, 26, 31, 33, 39, 42, 46], []⟩, ⟨(.callv (.c (.clo 32 [] [])) [(.t 17)]), (some 18), none, [20, 24, 26, 31, 33, 39, 42, 46], []⟩, ⟨(.load 10 true (.t 3)), (some 19), none, [18, 20, 24, 26, 31, 33, 39, 42, 46], []⟩, ⟨(.callv (.c (.clo 33 [] [])) [(.t 19)]), (some 20), none, [24, 26, 31, 33, 39, 42, 46], []⟩, ⟨(.bin .eql (.t 18) (.t 20)), (some 21), none, [24, 26, 31, 33, 39, 42, 46], []⟩, ⟨(.mv (.t 21)), (some 22), none, [24, 26, 31, 33, 39, 42, 46], []⟩, ⟨(.load 3 true (.t 4)), (some 23), (some (22, true)), [24, 26, 31, 33, 39, 42, 46], []⟩, ⟨(.callv (.c (.clo 34 [] [])) [(.t 23)]), (some 24), (some (22, true)), [26, 31, 33, 39, 42, 46], []⟩, ⟨(.load 3 true (.t 4)), (some 25), (some (22, true)), [24, 26, 31, 33, 39, 42, 46], []⟩, ⟨(.callv (.c (.clo 35 [] [])) [(.t 25)]), (some 26), (some (22, true)), [31, 33, 39, 42, 46], []⟩, ⟨(.bin .eql (.t 24) (.t 26)), (some 27), (some (22, true)), [31, 33, 39, 42, 46], []⟩, ⟨(.pick (.t 22) (.t 27) (.c (.bool false))), (some 28), none, [31, 33, 39, 42, 46], []⟩, ⟨(.mv (.t 28)), (some 29), none, [31, 33, 39, 42, 46], []⟩, ⟨(.load 6 true (.t 5)), (some 30), (some (29, true)), [31, 33, 39, 42, 46], []⟩, ⟨(.callv (.c (.clo 36 [] [])) [(.t 30)]), (some 31), (some (29, true)), [33, 39, 42, 46], []⟩, ⟨(.load 6 true (.t 5)), (some 32), (some (29, true)), [31, 33, 39, 42, 46], []⟩, ⟨(.callv (.c (.clo 37 [] [])) [(.t 32)]), (some 33), (some (29, true)), [39, 42, 46], []⟩, ⟨(.bin .eql (.t 31) (.t 33)), (some 34), (some (29, true)), [39, 42, 46], []⟩, ⟨(.pick (.t 29) (.t 34) (.c (.bool false))), (some 35), none, [39, 42, 46], []⟩, ⟨(.mv (.t 35)), (some 36), none, [39, 42, 46], []⟩, ⟨(.faddr 9 (.t 3)), (some 37), (some (36, true)), [39, 42, 46], []⟩, ⟨(.load 1 false (.t 37)), (some 38), (some (36, true)), [39, 42, 46], []⟩, ⟨(.callv (.c (.clo 38 [] [])) [(.t 38)]), (some 39), (some (36, true)), [42, 46], []⟩, ⟨(.faddr 9 (.t 3)), (some 40), (some (36, true)), [39, 42, 46], []⟩, ⟨(.load 1 false (.t 40)), (some 41), (some (36, true)), [39, 42, 46], []⟩], [⟨(.callv (.c (.clo 39 [] [])) [(.t 41)]), (some 42), (some (36, true)), [46], []⟩, ⟨(.bin .eql (.t 39) (.t 42)), (some 43), (some (36, true)), [46], []⟩, ⟨(.pick (.t 36) (.t 43) (.c (.bool false))), (some 44), none, [46], []⟩, ⟨(.mv (.t 44)), (some 45), none, [46], []⟩, ⟨(.callv (.c (.clo 25 [] [])) []), (some 46), (some (45, true)), [], []⟩, ⟨(.pick (.t 45) (.t 46) (.c (.bool false))), (some 47), none, [], []⟩, ⟨(.mv (.t 47)), (some 6), none, [], []⟩], [18, 20, 24, 26, 31, 33, 39, 42, 46], [], true⟩
def ir_nodesL : IR := (.seq (.reg r_nodesL_0)
  (.seq (.seq (.reg r_nodesL_1)
  (.cond (.t 15) (.seq (.reg r_nodesL_2)
  .ret)
  .skip))
  (.seq (.reg r_nodesL_3)
  .ret)))
def res_nodesL : List RDesc := [(.tmp 6)]
theorem e_nodesL_0 (C : FuncId → List AV → AV → Prop) (σ : St) (K : St → Prop) : runReg C r_nodesL_0 σ K = runOps C [⟨(.box 10 34 (.t 0)), (some 3), none, [4, 5], []⟩, ⟨(.box 3 63 (.t 1)), (some 4), none, [5], []⟩, ⟨(.box 6 65 (.t 2)), (some 5), none, [], []⟩, ⟨(.mv (.c (.bool false))), (some 6), none, [], []⟩] (σ.kills [3, 4, 5]) K := rfl
theorem e_nodesL_1 (C : FuncId → List AV → AV → Prop) (σ : St) (K : St → Prop) : runReg C r_nodesL_1 σ K = runOps C [⟨(.load 10 true (.t 3)), (some 7), none, [8, 9, 13], []⟩, ⟨(.bsl 10 34 [(.t 7)]), (some 8), none, [9, 13], []⟩, ⟨(.callv (.c (.clo 10 [] [])) [(.t 8), (.c (.int .i64 1)), (.c (.int .i64 2000))]), (some 9), none, [13], []⟩, ⟨(.un .not (.t 9)), (some 10), none, [13], []⟩, ⟨(.mv (.t 10)), (some 11), none, [13], []⟩, ⟨(.load 6 true (.t 5)), (some 12), (some (11, false)), [13], []⟩, ⟨(.callv (.c (.clo 31 [] [])) [(.t 12), (.c (.int .i64 300))]), (some 13), (some (11, false)), [], []⟩, ⟨(.un .not (.t 13)), (some 14), (some (11, false)), [], []⟩, ⟨(.pick (.t 11) (.c (.bool true)) (.t 14)), (some 15), none, [], []⟩] (σ.kills [8, 9, 13]) K := rfl
theorem e_nodesL_2 (C : FuncId → List AV → AV → Prop) (σ : St) (K : St → Prop) : runReg C r_nodesL_2 σ K = runOps C [⟨(.callv (.c (.clo 25 [] [])) []), (some 16), none, [], []⟩, ⟨(.mv (.t 16)), (some 6), none, [], []⟩] (σ.kills [16]) K := rfl
theorem e_nodesL_3 (C : FuncId → List AV → AV → Prop) (σ : St) (K : St → Prop) : runReg C r_nodesL_3 σ K = runHead C [] [⟨(.callv (.c (.clo 39 [] [])) [(.t 41)]), (some 42), (some (36, true)), [46], []⟩, ⟨(.bin .eql (.t 39) (.t 42)), (some 43), (some (36, true)), [46], []⟩, ⟨(.pick (.t 36) (.t 43) (.c (.bool false))), (some 44), none, [46], []⟩, ⟨(.mv (.t 44)), (some 45), none, [46], []⟩, ⟨(.callv (.c (.clo 25 [] [])) []), (some 46), (some (45, true)), [], []⟩, ⟨(.pick (.t 45) (.t 46) (.c (.bool false))), (some 47), none, [], []⟩, ⟨(.mv (.t 47)), (some 6), none, [], []⟩] [⟨(.load 10 true (.t 3)), (some 17), none, [18, 20, 24, 26, 31, 33, 39, 42, 46], []⟩, ⟨(.callv (.c (.clo 32 [] [])) [(.t 17)]), (some 18), none, [20, 24, 26, 31, 33, 39, 42, 46], []⟩, ⟨(.load 10 true (.t 3)), (some 19), none, [18, 20, 24, 26, 31, 33, 39, 42, 46], []⟩, ⟨(.callv (.c (.clo 33 [] [])) [(.t 19)]), (some 20), none, [24, 26, 31, 33, 39, 42, 46], []⟩, ⟨(.bin .eql (.t 18) (.t 20)), (some 21), none, [24, 26, 31, 33, 39, 42, 46], []⟩, ⟨(.mv (.t 21)), (some 22), none, [24, 26, 31, 33, 39, 42, 46], []⟩, ⟨(.load 3 true (.t 4)), (some 23), (some (22, true)), [24, 26, 31, 33, 39, 42, 46], []⟩, ⟨(.callv (.c (.clo 34 [] [])) [(.t 23)]), (some 24), (some (22, true)), [26, 31, 33, 39, 42, 46], []⟩, ⟨(.load 3 true (.t 4)), (some 25), (some (22, true)), [24, 26, 31, 33, 39, 42, 46], []⟩, ⟨(.callv (.c (.clo 35 [] [])) [(.t 25)]), (some 26), (some (22, true)), [31, 33, 39, 42, 46], []⟩, ⟨(.bin .eql (.t 24) (.t 26)), (some 27), (some (22, true)), [31, 33, 39, 42, 46], []⟩, ⟨(.pick (.t 22) (.t 27) (.c (.bool false))), (some 28), none, [31, 33, 39, 42, 46], []⟩, ⟨(.mv (.t 28)), (some 29), none, [31, 33, 39, 42, 46], []⟩, ⟨(.load 6 true (.t 5)), (some 30), (some (29, true)), [31, 33, 39, 42, 46], []⟩, ⟨(.callv (.c (.clo 36 [] [])) [(.t 30)]), (some 31), (some (29, true)), [33, 39, 42, 46], []⟩, ⟨(.load 6 true (.t 5)), (some 32), (some (29, true)), [31, 33, 39, 42, 46], []⟩, ⟨(.callv (.c (.clo 37 [] [])) [(.t 32)]), (some 33), (some (29, true)), [39, 42, 46], []⟩, ⟨(.bin .eql (.t 31) (.t 33)), (some 34), (some (29, true)), [39, 42, 46], []⟩, ⟨(.pick (.t 29) (.t 34) (.c (.bool false))), (some 35), none, [39, 42, 46], []⟩, ⟨(.mv (.t 35)), (some 36), none, [39, 42, 46], []⟩, ⟨(.faddr 9 (.t 3)), (some 37), (some (36, true)), [39, 42, 46], []⟩, ⟨(.load 1 false (.t 37)), (some 38), (some (36, true)), [39, 42, 46], []⟩, ⟨(.callv (.c (.clo 38 [] [])) [(.t 38)]), (some 39), (some (36, true)), [42, 46], []⟩, ⟨(.faddr 9 (.t 3)), (some 40), (some (36, true)), [39, 42, 46], []⟩, ⟨(.load 1 false (.t 40)), (some 41), (some (36, true)), [39, 42, 46], []⟩] (σ.kills [18, 20, 24, 26, 31, 33, 39, 42, 46]) K := rfl
theorem fn_nodesL {args : List AV} {r : AV} (ha : args.length.ble Tryd.f8.ntmps = true) (h : run (AFn Tryd.prog) ir_nodesL (endQ res_nodesL r) (initSt args)) : AFn Tryd.prog 8 args r :=
  AFn.of_code (hint := fun _ => []) (c := Tryd.f8.body.getD .skip) (by kernel_rfl) (by kernel_rfl) Tryd.func8 (by kernel_rfl) (by kernel_rfl) (by kernel_rfl) (of_decide_eq_true (by kernel_rfl)) (Nat.le_of_ble_eq_true ha) (Nat.le_of_ble_eq_true (by kernel_rfl)) (run_ok h)

/-! ### percolate/percolateref05.Long -/
def r_rLongM_0 : Reg := ⟨[], [⟨(.box 6 65 (.t 0)), (some 2), none, [], []⟩, ⟨(.mv (.c (.bool false))), (some 4), none, [], []⟩], [2], [], false⟩
def r_rLongM_1 : Reg := ⟨[], [⟨(.faddr 2 (.t 2)), (some 5), none, [], []⟩, ⟨(.load 1 false (.t 5)), (some 6), none, [], []⟩, ⟨(.len true (.t 6)), (some 7), none, [], []⟩, ⟨(.mv (.t 1)), (some 8), none, [], []⟩, ⟨(.bin .leq (.t 7) (.t 8)), (some 9), none, [], []⟩, ⟨(.mv (.t 9)), (some 10), none, [], []⟩, ⟨(.faddr 3 (.t 2)), (some 11), (some (10, true)), [], []⟩, ⟨(.load 1 false (.t 11)), (some 12), (some (10, true)), [], []⟩, ⟨(.len true (.t 12)), (some 13), (some (10, true)), [], []⟩, ⟨(.mv (.t 1)), (some 14), (some (10, true)), [], []⟩, ⟨(.bin .leq (.t 13) (.t 14)), (some 15), (some (10, true)), [], []⟩, ⟨(.pick (.t 10) (.t 15) (.c (.bool false))), (some 16), none, [], []⟩, ⟨(.mv (.t 16)), (some 17), none, [], []⟩, ⟨(.faddr 5 (.t 2)), (some 18), (some (17, true)), [], []⟩, ⟨(.load 1 false (.t 18)), (some 19), (some (17, true)), [], []⟩, ⟨(.len true (.t 19)), (some 20), (some (17, true)), [], []⟩, ⟨(.mv (.t 1)), (some 21), (some (17, true)), [], []⟩, ⟨(.bin .leq (.t 20) (.t 21)), (some 22), (some (17, true)), [], []⟩, ⟨(.pick (.t 17) (.t 22) (.c (.bool false))), (some 23), none, [], []⟩, ⟨(.mv (.t 23)), (some 4), none, [], []⟩], [], [], false⟩
def ir_rLongM : IR := (.seq (.reg r_rLongM_0)
  (.seq (.reg r_rLongM_1)
  .ret))
def res_rLongM : List RDesc := [(.tmp 4)]
theorem e_rLongM_0 (C : FuncId → List AV → AV → Prop) (σ : St) (K : St → Prop) : runReg C r_rLongM_0 σ K = runOps C [⟨(.box 6 65 (.t 0)), (some 2), none, [], []⟩, ⟨(.mv (.c (.bool false))), (some 4), none, [], []⟩] (σ.kills [2]) K := rfl
theorem e_rLongM_1 (C : FuncId → List AV → AV → Prop) (σ : St) (K : St → Prop) : runReg C r_rLongM_1 σ K = runOps C [⟨(.faddr 2 (.t 2)), (some 5), none, [], []⟩, ⟨(.load 1 false (.t 5)), (some 6), none, [], []⟩, ⟨(.len true (.t 6)), (some 7), none, [], []⟩, ⟨(.mv (.t 1)), (some 8), none, [], []⟩, ⟨(.bin .leq (.t 7) (.t 8)), (some 9), none, [], []⟩, ⟨(.mv (.t 9)), (some 10), none, [], []⟩, ⟨(.faddr 3 (.t 2)), (some 11), (some (10, true)), [], []⟩, ⟨(.load 1 false (.t 11)), (some 12), (some (10, true)), [], []⟩, ⟨(.len true (.t 12)), (some 13), (some (10, true)), [], []⟩, ⟨(.mv (.t 1)), (some 14), (some (10, true)), [], []⟩, ⟨(.bin .leq (.t 13) (.t 14)), (some 15), (some (10, true)), [], []⟩, ⟨(.pick (.t 10) (.t 15) (.c (.bool false))), (some 16), none, [], []⟩, ⟨(.mv (.t 16)), (some 17), none, [], []⟩, ⟨(.faddr 5 (.t 2)), (some 18), (some (17, true)), [], []⟩, ⟨(.load 1 false (.t 18)), (some 19), (some (17, true)), [], []⟩, ⟨(.len true (.t 19)), (some 20), (some (17, true)), [], []⟩, ⟨(.mv (.t 1)), (some 21), (some (17, true)), [], []⟩, ⟨(.bin .leq (.t 20) (.t 21)), (some 22), (some (17, true)), [], []⟩, ⟨(.pick (.t 17) (.t 22) (.c (.bool false))), (some 23), none, [], []⟩, ⟨(.mv (.t 23)), (some 4), none, [], []⟩] (σ.kills []) K := rfl
theorem fn_rLongM {args : List AV} {r : AV} (ha : args.length.ble Tryd.f31.ntmps = true) (h : run (AFn Tryd.prog) ir_rLongM (endQ res_rLongM r) (initSt args)) : AFn Tryd.prog 31 args r :=
  AFn.of_code (hint := fun _ => []) (c := Tryd.f31.body.getD .skip) (by kernel_rfl) (by kernel_rfl) Tryd.func31 (by kernel_rfl) (by kernel_rfl) (by kernel_rfl) (of_decide_eq_true (by kernel_rfl)) (Nat.le_of_ble_eq_true ha) (Nat.le_of_ble_eq_true (by kernel_rfl)) (run_ok h)

attribute [local go_sem ↓] ir_tParse
attribute [local go_sem] res_tParse e_tParse_0 e_tParse_1 e_tParse_2 e_tParse_3 e_tParse_4 e_tParse_5 e_tParse_6 e_tParse_7 e_tParse_8 e_tParse_9 e_tParse_10 e_tParse_11 e_tParse_12 e_tParse_13 e_tParse_14 e_tParse_15 e_tParse_16
attribute [local go_sem ↓] ir_aw46
attribute [local go_sem] res_aw46 e_aw46_0 e_aw46_1 e_aw46_2 e_aw46_3
attribute [local go_sem ↓] ir_nodesL
attribute [local go_sem] res_nodesL e_nodesL_0 e_nodesL_1 e_nodesL_2 e_nodesL_3
attribute [local go_sem ↓] ir_rLongM
attribute [local go_sem] res_rLongM e_rLongM_0 e_rLongM_1

theorem und_d (d : Fin 4) : udF (decS (d.val : Int)) = .tup [.int .i64 (d.val : Int), .bool true] := by
  have := udF_dec (d.val : Int) ⟨by omega, by omega⟩
  rw [if_pos ⟨by omega, by omega⟩] at this
  exact this
set_option maxHeartbeats 2000000 in
theorem tParse_a : AFn Tryd.prog 27 [.str (⟨#[48, 32, 49, 32, 51, 32, 51, 32, 121, 101, 115, 32, 58, 32, 112, 117, 116, 32, 97, 32, 49, 32, 58, 32, 111, 107]⟩ : ByteArray)] (.tup [evtA, .bool true]) := by
  refine fn_tParse rfl ?_
  have hs : splitL (⟨#[48, 32, 49, 32, 51, 32, 51, 32, 121, 101, 115, 32, 58, 32, 112, 117, 116, 32, 97, 32, 49, 32, 58, 32, 111, 107]⟩ : ByteArray) (⟨#[32, 58, 32]⟩ : ByteArray) = [(⟨#[48, 32, 49, 32, 51, 32, 51, 32, 121, 101, 115]⟩ : ByteArray), (⟨#[112, 117, 116, 32, 97, 32, 49]⟩ : ByteArray), (⟨#[111, 107]⟩ : ByteArray)] := spl_eq (by decide +kernel)
  have cs := split_ok (⟨#[48, 32, 49, 32, 51, 32, 51, 32, 121, 101, 115, 32, 58, 32, 112, 117, 116, 32, 97, 32, 49, 32, 58, 32, 111, 107]⟩ : ByteArray) (⟨#[32, 58, 32]⟩ : ByteArray) (by decide) (by decide) (by rw [hs]; decide)
  rw [hs] at cs
  simp only [List.map_cons, List.map_nil] at cs
  have hw : (splitL (⟨#[48, 32, 49, 32, 51, 32, 51, 32, 121, 101, 115]⟩ : ByteArray) ⟨#[32]⟩).map AV.str = [.str (⟨#[48]⟩ : ByteArray), .str (⟨#[49]⟩ : ByteArray), .str (⟨#[51]⟩ : ByteArray), .str (⟨#[51]⟩ : ByteArray), .str (⟨#[121, 101, 115]⟩ : ByteArray)] := by rw [splitL_wl]; rfl
  have hl : (splitL (⟨#[48, 32, 49, 32, 51, 32, 51, 32, 121, 101, 115]⟩ : ByteArray) ⟨#[32]⟩).length = 5 := by
    have := congrArg List.length hw
    simpa using this
  have cw := words_ok (⟨#[48, 32, 49, 32, 51, 32, 51, 32, 121, 101, 115]⟩ : ByteArray) (by decide) (by rw [hl]; decide)
  rw [hw] at cw
  have u0 := undec_ok (⟨#[48]⟩ : ByteArray) (by decide)
  have u1 := undec_ok (⟨#[49]⟩ : ByteArray) (by decide)
  have u3 := undec_ok (⟨#[51]⟩ : ByteArray) (by decide)
  have e0 := und_d 0
  have e1 := und_d 1
  have e3 := und_d 3
  simp only [show ((0 : Fin 4).val : Int) = 0 from rfl, show ((1 : Fin 4).val : Int) = 1 from rfl, show ((3 : Fin 4).val : Int) = 3 from rfl] at e0 e1 e3
  rw [d0] at e0
  rw [d1] at e1
  rw [d3] at e3
  rw [e0] at u0
  rw [e1] at u1
  rw [e3] at u3
  have cp := oParse_ok (⟨#[112, 117, 116, 32, 97, 32, 49]⟩ : ByteArray) (by decide)
  rw [← opA_line, parse_line opA opA_right, opA_line] at cp
  have ct := told_a
  have ce := tEvent_a
  have cm := mRight_a
  have cv := valR_ok ⟨#[]⟩
  rw [show decide ((((⟨#[]⟩ : ByteArray).size : Nat) : Int) ≤ 16) = true by decide] at cv
  simp only [ansZ, evtA, opA, Opr.a] at cp ct ce
  have tn0 : Int.toNat 0 = 0 := rfl
  have tn1 : Int.toNat 1 = 1 := rfl
  have tn2 : Int.toNat 2 = 2 := rfl
  have tn3 : Int.toNat 3 = 3 := rfl
  have tn4 : Int.toNat 4 = 4 := rfl
  have l3 : ((3 : Nat) : Int) = 3 := rfl
  have l5 : ((5 : Nat) : Int) = 5 := rfl
  have y1 : ((⟨#[121, 101, 115]⟩ : ByteArray).toList == (⟨#[121, 101, 115]⟩ : ByteArray).toList) = true := beq_self_eq_true _
  (repeat (first | simp (maxSteps := 4000000) only [go_sem, ↓reduceIte, reduceCtorEq, Nat.reduceEqDiff, Nat.reduceBEq, Nat.reduceAdd, Nat.reduceSub, Nat.reduceMul, Nat.reduceLT, Nat.reduceLeDiff, Nat.reduceBNe, Int.reduceBEq, Int.reduceBNe, Int.reduceLT, Int.reduceLE, Msg.a, Par.a, Nd.a, Hld.a, nul, evtA, opA, tn0, tn1, tn2, tn3, tn4, l3, l5, y1, bne_self_eq_false, List.take_succ_cons, List.take_zero, List.take_nil] | refine calling (cs) ?_ | refine callingH (cs) ?_ | refine calling (cw) ?_ | refine callingH (cw) ?_ | refine calling (u0) ?_ | refine callingH (u0) ?_ | refine calling (u1) ?_ | refine callingH (u1) ?_ | refine calling (u3) ?_ | refine callingH (u3) ?_ | refine calling (cp) ?_ | refine callingH (cp) ?_ | refine calling (ct) ?_ | refine callingH (ct) ?_ | refine calling (ce) ?_ | refine callingH (ce) ?_ | refine calling (cm) ?_ | refine callingH (cm) ?_ | refine calling (cv) ?_ | refine callingH (cv) ?_ | refine And.intro (by omega) ?_ | refine And.intro (fun d hd => by (repeat (rcases hd with rfl | hd; · exact ⟨rfl, rfl⟩)); cases hd) ?_))
def ndA : Nd := ⟨1, 0, [], [], ⟨#[109]⟩, false, 2, 2, [], [⟨⟨#[97]⟩, ⟨#[49]⟩⟩]⟩
theorem ndA_fit : ndA.Fit := by
  have hp : ∀ p, p ∈ ndA.rows → p.key.size ≤ 2000 ∧ p.val.size ≤ 2000 := by
    intro p hp
    rw [List.mem_singleton.1 hp]; decide
  refine ⟨⟨by decide, by decide, ⟨by decide, fun z hz => (by cases hz)⟩, ⟨by decide, fun z hz => (by cases hz)⟩, by decide, trivial, by decide, by decide, ⟨by decide, fun z hz => (by cases hz)⟩, ⟨by decide, fun z hz => ?_⟩⟩, fun z hz => (by cases hz), by decide, by decide, by decide, by decide, hp, by decide, fun z hz => (by cases hz)⟩
  obtain ⟨a, b⟩ := hp z hz
  exact ⟨by omega, by omega⟩
theorem ndA_line : ndA.line = (⟨#[110, 111, 100, 101, 32, 49, 32, 48, 32, 50, 32, 50, 32, 109, 32, 58, 32, 114, 111, 119, 115, 32, 49, 32, 97, 61, 49, 32, 58, 32, 109, 115, 103, 115, 32, 48]⟩ : ByteArray) := by
  have e0 : decS ((([] : List Msg).length : Nat) : Int) = (⟨#[48]⟩ : ByteArray) := d0
  have e1 : decS ((([(⟨⟨#[97]⟩, ⟨#[49]⟩⟩ : Par)] : List Par).length : Nat) : Int) = (⟨#[49]⟩ : ByteArray) := d1
  unfold Nd.line Nd.below msgsF pairsF Par.w
  simp only [ndA, e0, e1, d0, d1, d2, Bool.false_eq_true, if_false, if_true, catF]
  decide +kernel
theorem awake46_ok : AFn Tryd.prog 25 [] (.bool true) := by
  refine fn_aw46 rfl ?_
  have c1 := tParse_a
  have c2 := tEvent_a
  have c3 := same38_a
  have c4 := tNode_ok ndA ndA_fit
  rw [ndA_line] at c4
  simp only [evtA] at c1 c2 c3
  simp only [ndA, Nd.a, Par.a, List.map_cons, List.map_nil] at c4
  (repeat (first | simp (maxSteps := 4000000) only [go_sem, ↓reduceIte, reduceCtorEq, Nat.reduceEqDiff, Nat.reduceBEq, Nat.reduceAdd, Nat.reduceSub, Nat.reduceMul, Nat.reduceLT, Nat.reduceLeDiff, Nat.reduceBNe, Int.reduceBEq, Int.reduceBNe, Int.reduceLT, Int.reduceLE, Msg.a, Par.a, Nd.a, Hld.a, nul, beq_self_eq_true] | refine calling (c1) ?_ | refine callingH (c1) ?_ | refine calling (c2) ?_ | refine callingH (c2) ?_ | refine calling (c3) ?_ | refine callingH (c3) ?_ | refine calling (c4) ?_ | refine callingH (c4) ?_ | refine And.intro (by omega) ?_ | refine And.intro (fun d hd => by (repeat (rcases hd with rfl | hd; · exact ⟨rfl, rfl⟩)); cases hd) ?_))
def Msg.long (m : Msg) (n : Int) : Bool := decide ((m.key.size : Int) ≤ n) && decide ((m.hi.size : Int) ≤ n) && decide ((m.val.size : Int) ≤ n)
theorem rLongM_ok (m : Msg) (n : Int) : AFn Tryd.prog 31 [m.a, .int .i64 n] (.bool (m.long n)) := by
  refine fn_rLongM rfl ?_
  unfold Msg.long
  by_cases h1 : (m.key.size : Int) ≤ n <;> by_cases h2 : (m.hi.size : Int) ≤ n <;> by_cases h3 : (m.val.size : Int) ≤ n <;> (simp (maxSteps := 4000000) only [go_sem, ↓reduceIte, reduceCtorEq, Nat.reduceEqDiff, Nat.reduceBEq, Nat.reduceAdd, Nat.reduceSub, Nat.reduceMul, Nat.reduceLT, Nat.reduceLeDiff, Nat.reduceBNe, Int.reduceBEq, Int.reduceBNe, Int.reduceLT, Int.reduceLE, Msg.a, Par.a, Nd.a, Hld.a, nul, h1, h2, h3, decide_true, decide_false, Bool.and_true, Bool.and_false, Bool.and_self, Bool.true_and, Bool.false_and])
theorem fit_of {n : Nd} (ok : n.ok) (h : n.light 2000 = true) : n.Fit := by
  unfold Nd.light at h
  simp only [Bool.and_eq_true, decide_eq_true_eq] at h
  obtain ⟨⟨⟨⟨h1, h2⟩, h3⟩, h4⟩, h5⟩ := h
  have l1 := sumN_len (f := Par.bulk) (fun x => by unfold Par.bulk; omega) n.rows
  have l2 := sumN_len (f := strBulk) (fun x => by unfold strBulk; omega) n.pivots
  have l4 := sumN_len (f := Msg.bulk) (fun x => by unfold Msg.bulk; omega) n.msgs
  refine ⟨ok, fun x hx => ?_, by omega, by omega, by omega, by omega, fun p hp => ?_, by omega, fun m hm => ?_⟩
  · have := sumN_mem (f := strBulk) hx
    unfold strBulk at this l2 h2; omega
  · have := sumN_mem (f := Par.bulk) hp
    have e : p.bulk = 1 + p.key.size + p.val.size := rfl
    omega
  · have := sumN_mem (f := Msg.bulk) hm
    have e : m.bulk = 1 + m.key.size + m.hi.size + m.val.size := rfl
    omega
set_option maxHeartbeats 2000000 in
theorem nodesL_law (n : Nd) (h : Hld) (m : Msg) (on : n.ok) (oh : h.ok) (om : m.ok) : AFn Tryd.prog 8 [n.a, h.a, m.a] (.bool true) := by
  refine fn_nodesL rfl ?_
  have c1 := light_ok [n] 1 2000 (by omega) (by omega) (fun x hx => by rw [List.mem_singleton.1 hx]; exact on) (by simp)
  have c2 := rLongM_ok m 300
  have aw := awake46_ok
  have e1 : lightB [n] 1 2000 = n.light 2000 := by
    unfold lightB
    simp
  rw [e1] at c1
  cases q1 : n.light 2000 with
  | false =>
    rw [q1] at c1
    simp only [List.map_cons, List.map_nil] at c1
    (repeat (first | simp (maxSteps := 4000000) only [go_sem, ↓reduceIte, reduceCtorEq, Nat.reduceEqDiff, Nat.reduceBEq, Nat.reduceAdd, Nat.reduceSub, Nat.reduceMul, Nat.reduceLT, Nat.reduceLeDiff, Nat.reduceBNe, Int.reduceBEq, Int.reduceBNe, Int.reduceLT, Int.reduceLE, Msg.a, Par.a, Nd.a, Hld.a, nul] | refine calling (c1) ?_ | refine callingH (c1) ?_ | refine calling (aw) ?_ | refine callingH (aw) ?_ | refine And.intro (by omega) ?_ | refine And.intro (fun d hd => by (repeat (rcases hd with rfl | hd; · exact ⟨rfl, rfl⟩)); cases hd) ?_))
  | true =>
    rw [q1] at c1
    simp only [List.map_cons, List.map_nil] at c1
    cases q2 : m.long 300 with
    | false =>
      rw [q2] at c2
      (repeat (first | simp (maxSteps := 4000000) only [go_sem, ↓reduceIte, reduceCtorEq, Nat.reduceEqDiff, Nat.reduceBEq, Nat.reduceAdd, Nat.reduceSub, Nat.reduceMul, Nat.reduceLT, Nat.reduceLeDiff, Nat.reduceBNe, Int.reduceBEq, Int.reduceBNe, Int.reduceLT, Int.reduceLE, Msg.a, Par.a, Nd.a, Hld.a, nul] | refine calling (c1) ?_ | refine callingH (c1) ?_ | refine calling (c2) ?_ | refine callingH (c2) ?_ | refine calling (aw) ?_ | refine callingH (aw) ?_ | refine And.intro (by omega) ?_ | refine And.intro (fun d hd => by (repeat (rcases hd with rfl | hd; · exact ⟨rfl, rfl⟩)); cases hd) ?_))
    | true =>
      rw [q2] at c2
      have f := fit_of on q1
      unfold Msg.long at q2
      simp only [Bool.and_eq_true, decide_eq_true_eq] at q2
      obtain ⟨⟨m1, m2⟩, m3⟩ := q2
      have k1 := tNode_ok n f
      have k2 := r46Node_ok n f
      have k3 := tHold_ok h oh
      have k4 := r46Hold_ok h oh
      have k5 := tMsg_ok m om.stamp (by omega) (by omega) (by omega)
      have k6 := r46Msg_ok m om.stamp (by omega) (by omega) (by omega)
      have k7 := tPairs_ok n.rows f.nrow f.rws
      have k8 := r46Pairs_ok n.rows f.nrow f.rws
      generalize n.line = nl at *
      generalize h.line = hl at *
      generalize m.line = ml at *
      generalize pairsF n.rows = pl at *
      (repeat (first | simp (maxSteps := 4000000) only [go_sem, ↓reduceIte, reduceCtorEq, Nat.reduceEqDiff, Nat.reduceBEq, Nat.reduceAdd, Nat.reduceSub, Nat.reduceMul, Nat.reduceLT, Nat.reduceLeDiff, Nat.reduceBNe, Int.reduceBEq, Int.reduceBNe, Int.reduceLT, Int.reduceLE, Msg.a, Par.a, Nd.a, Hld.a, nul, beq_self_eq_true] | refine calling (c1) ?_ | refine callingH (c1) ?_ | refine calling (c2) ?_ | refine callingH (c2) ?_ | refine calling (k1) ?_ | refine callingH (k1) ?_ | refine calling (k2) ?_ | refine callingH (k2) ?_ | refine calling (k3) ?_ | refine callingH (k3) ?_ | refine calling (k4) ?_ | refine callingH (k4) ?_ | refine calling (k5) ?_ | refine callingH (k5) ?_ | refine calling (k6) ?_ | refine callingH (k6) ?_ | refine calling (k7) ?_ | refine callingH (k7) ?_ | refine calling (k8) ?_ | refine callingH (k8) ?_ | refine calling (aw) ?_ | refine callingH (aw) ?_ | refine And.intro (by omega) ?_ | refine And.intro (fun d hd => by (repeat (rcases hd with rfl | hd; · exact ⟨rfl, rfl⟩)); cases hd) ?_))
theorem reads_agg {w : World} {fs : List Ty} {c : Array Value} {ds : List AV} (h : ReadsAs w (.st fs) c.toList ds) : VR (fun b _ => b < w.heap.size) w (.agg ds) (.agg c) := by
  have := VR.agg (Pr := fun b _ => b < w.heap.size) (w := w) ds c.toList h.2.1 h.2.2
  simpa using this
theorem nodesL_walk (c0 c1 c2 : Array Value) (w : World) (hG : Glob w) (f0 : ∃ ds, ReadsAs w NdT c0.toList ds) (f1 : ∃ ds, ReadsAs w HldT c1.toList ds) (f2 : ∃ ds, ReadsAs w MsgT c2.toList ds) :
    Calls Tryd.prog 8 #[.agg c0, .agg c1, .agg c2] w fun e w' => e = .returned (.bool true) ∧ Below w.heap.size w w' := by
  obtain ⟨d0, r0⟩ := f0
  obtain ⟨d1, r1⟩ := f1
  obtain ⟨d2, r2⟩ := f2
  obtain ⟨n, e0, on⟩ := Nd.of r0.1
  obtain ⟨h, e1, oh⟩ := Hld.of r1.1
  obtain ⟨m, e2, om⟩ := Msg.of r2.1
  have v0 := reads_agg r0
  have v1 := reads_agg r1
  have v2 := reads_agg r2
  rw [e0] at v0
  rw [e1] at v1
  rw [e2] at v2
  refine run_args (vs := [.agg c0, .agg c1, .agg c2]) hG rfl (fun j d u hj hu => ?_) (nodesL_law n h m on oh om)
  match j with
  | 0 => cases hj; cases hu; exact v0
  | 1 => cases hj; cases hu; exact v1
  | 2 => cases hj; cases hu; exact v2
  | j + 3 => simp at hj
end Go.Proofs.YtkdbphhekpdmhaaDoor
