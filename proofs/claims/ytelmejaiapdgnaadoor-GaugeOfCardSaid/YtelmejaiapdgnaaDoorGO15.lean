/-
  Part 15 of a proof: GaG, GaA.
-/
import Derived.Test.YtelmejaiapdgnaaDoorGO14
namespace Go.Proofs.YtelmejaiapdgnaaDoor
attribute [local go_sem] ev0 ev1 ev2 ev3 ev4 evA stHOk.eq_1 stHOk.eq_2 stHSt.eq_1 stHSt.eq_2 okV valV fzV okF valF okBld valBld mxOk.eq_1 mxOk.eq_2 mxVal.eq_1 mxVal.eq_2 cellFit.eq_1 cellFit.eq_2 cellFit.eq_3 cellEq.eq_1 cellEq.eq_2 cellEq.eq_3 upd_at AV.flatB AV.flatBs binIok binIV binSok binSV cellsOk.eq_1 cellsOk.eq_2 cellsVal.eq_1 cellsVal.eq_2 objCells.eq_1 objCells.eq_2 objZ.eq_1 objZ.eq_2 objProt.eq_1 objProt.eq_2 oneObj ptrOk.eq_1 ptrOk.eq_2 ptrOk.eq_3 ptrCells.eq_1 ptrCells.eq_2 ptrCells.eq_3 lenOk.eq_1 lenOk.eq_2 lenOk.eq_3 lenOk.eq_4 lenVal.eq_1 lenVal.eq_2 lenVal.eq_3 lenVal.eq_4 faOk.eq_1 faOk.eq_2 faOk.eq_3 faVal.eq_1 faVal.eq_2 faVal.eq_3 iaOk.eq_1 iaOk.eq_2 iaOk.eq_3 iaVal.eq_1 iaVal.eq_2 iaVal.eq_3 slcLen.eq_1 slcLen.eq_2 slcLen.eq_3 slcLen.eq_4 bdOk.eq_1 bdOk.eq_2 bdVal.eq_1 bdVal.eq_2 slcOk.eq_1 slcOk.eq_2 slcOk.eq_3 slcOk.eq_4 slcVal.eq_1 slcVal.eq_2 slcVal.eq_3 slcVal.eq_4 slcFz.eq_1 slcFz.eq_2 loK.eq_1 loK.eq_2 loK.eq_3 rsVal.eq_1 rsVal.eq_2 rsVal.eq_3 byOk.eq_1 byOk.eq_2 byOk.eq_3 byOk.eq_4 byOk.eq_5 byOk.eq_6 byOk.eq_7 byOk.eq_8 byVal.eq_1 byVal.eq_2 byVal.eq_3 byFz.eq_1 byFz.eq_2 byFz.eq_3 byOks byVals byFzs allOne resSt.eq_1 resSt.eq_2 resName.eq_1 resName.eq_2 stOk.eq_1 stOk.eq_2 stArr.eq_1 stArr.eq_2 stSt.eq_1 stSt.eq_2 AV.patch nameOk_none gB.eq_1 gB.eq_2 gB.eq_3 gIs.eq_1 gIs.eq_2 gIs.eq_3 retV resV resVs evalV cellsV St.byval List.getD_cons_zero List.getD_cons_succ List.getD_nil List.map_cons List.map_nil List.length_cons List.length_nil List.take_succ_cons List.take_zero List.drop_succ_cons List.drop_zero List.headD_cons List.set_cons_zero List.append_nil List.nil_append List.cons_append List.contains_cons List.contains_nil List.elem_cons List.elem_nil List.all_cons List.all_nil List.getElem?_cons_zero List.getElem?_cons_succ List.filterMap_cons List.filterMap_nil Option.isSome_some Option.isSome_none Option.map_some Option.map_none Option.some.injEq AV.int.injEq AV.bool.injEq AV.str.injEq AV.tup.injEq AV.agg.injEq AV.sl.injEq List.cons.injEq Bool.false_eq_true Bool.true_eq_false Bool.not_true Bool.not_false Bool.and_true Bool.true_and Bool.or_false Bool.or_true Bool.false_or Bool.true_or Bool.or_self Bool.and_self Bool.not_eq_true' Bool.not_eq_false' Bool.not_not beq_self_eq_true true_and and_true false_and and_false and_self not_true_eq_false not_false_eq_true forall_const true_implies false_implies implies_true imp_self Nat.lt_add_one Nat.le_refl Nat.zero_le Nat.add_zero Nat.zero_add decide_true decide_false decide_eq_true_eq decide_eq_false_iff_not exists_eq_left exists_eq_left' ge_iff_le gt_iff_lt ite_branch ite_branch' nilOk.eq_1 nilOk.eq_2 nilMay.eq_1 nilMay.eq_2 AV.isSl.eq_1 objTy'.eq_1 objTy'.eq_2 apSt.eq_1 apArr.eq_1 apArr.eq_2 apTwo.eq_1 apTwo.eq_2 apSt2.eq_1 apArr2.eq_1 apArr2.eq_2 slOf.eq_1 fitsV List.mem_cons List.not_mem_nil Bool.false_and Bool.and_false primOk.eq_1 primOk.eq_2 primOk.eq_3 primOk.eq_4 primOk.eq_5 primVal.eq_1 primVal.eq_2 primVal.eq_3 primVal.eq_4 primVal.eq_5 mOk.eq_1 mOk.eq_2 mVal.eq_1 mVal.eq_2 mFz.eq_1 mFz.eq_2 mOks mVals mFzs mCalOk.eq_1 mCalOk.eq_2 mFn.eq_1 mFn.eq_2 mArgs.eq_1 mArgs.eq_2 ckOk.eq_1 ckOk.eq_2 cloOk.eq_1 ptrAt.eq_1 sh.eq_1 sh.eq_2 sh.eq_3 sh.eq_4 sh.eq_5 sh.eq_6 retM shH_small evM entOk.eq_1 entOk.eq_2 ents.eq_1 ents.eq_2 kI.eq_1 mpOk.eq_1 mpR.eq_1 lkV.eq_1 lkV.eq_2 remp.eq_2 evP pvOk.eq_1 pvOk.eq_2 pvVal.eq_1 pvVal.eq_2 plOk.eq_1 plOk.eq_2 plOk.eq_3 plV.eq_1 plV.eq_2 plF.eq_1 plF.eq_2 plVal.eq_1 plVal.eq_2 plFz.eq_1 plFz.eq_2 lpOk.eq_1 lpOk.eq_2 lpVal.eq_1 lpVal.eq_2 lpFz.eq_1 lpFz.eq_2 stpOk.eq_1 stpOk.eq_2 stpSt.eq_1 stpSt.eq_2 stpArr.eq_1 keepS.eq_1 keepS.eq_2
section
/-
  A tree in numbers, by the document: walked.
-/
open Go.RowKit
set_option linter.unusedVariables false
set_option linter.unusedSimpArgs false
set_option maxRecDepth 100000
attribute [local go_sem ↓] runOp headOp
/-! ### percolate/percolateref50.Of -/
def t_rOf50_0 : List ROp := [⟨(.alloc 9 37 (.agg [(.int .i64 0), (.int .i64 0), (.int .i64 0), (.int .i64 0), (.int .i64 0), (.int .i64 0), (.int .i64 0), (.cst (.slice none 0 0)), (.cst (.slice none 0 0))])), (some 2), none, [], []⟩]
def r_rOf50_0 : Reg := ⟨[], t_rOf50_0, [2], [], false⟩
def t_rOf50_1 : List ROp := [⟨(.mv (.t 0)), (some 10), none, [3], []⟩, ⟨(.len false (.t 10)), (some 11), none, [3], []⟩, ⟨(.bld [(.int .i64 0), (.int .i64 0), (.int .i64 0), (.int .i64 0), (.int .i64 0), (.int .i64 0), (.int .i64 0), (.cst (.slice none 0 0)), (.cst (.slice none 0 0))] [⟨0, 1, (.t 11)⟩]), (some 12), none, [3], []⟩, ⟨(.alloc 9 37 (.agg [(.int .i64 0), (.int .i64 0), (.int .i64 0), (.int .i64 0), (.int .i64 0), (.int .i64 0), (.int .i64 0), (.cst (.slice none 0 0)), (.cst (.slice none 0 0))])), (some 3), none, [], []⟩, ⟨(.store 9 (.t 3) (.t 12)), none, none, [], []⟩]
def r_rOf50_1 : Reg := ⟨[], t_rOf50_1, [3], [], false⟩
def r_rOf50_2 : Reg := ⟨[], [⟨(.mv (.c (.int .i64 0))), (some 4), none, [], []⟩], [], [], false⟩
def t_rOf50_3 : List ROp := [⟨(.mv (.t 4)), (some 13), none, [], []⟩, ⟨(.mv (.t 0)), (some 14), none, [], []⟩, ⟨(.len false (.t 14)), (some 15), none, [], []⟩, ⟨(.bin .lss (.t 13) (.t 15)), (some 16), none, [], []⟩]
def r_rOf50_3 : Reg := ⟨[], t_rOf50_3, [], [], false⟩
def t_rOf50_4 : List ROp := [⟨(.mv (.t 0)), (some 19), none, [5], []⟩, ⟨(.mv (.t 4)), (some 20), none, [5], []⟩, ⟨(.iaddr 10 (.t 19) (.t 20)), (some 21), none, [5], []⟩, ⟨(.loadp 10 true (.t 21)), (some 22), none, [5], []⟩, ⟨(.alloc 10 34 (.agg [(.int .i64 0), (.int .i64 0), (.cst (.slice none 0 0)), (.cst (.slice none 0 0)), (.str ⟨#[]⟩), (.bool false), (.int .i64 0), (.int .i64 0), (.cst (.slice none 0 0)), (.cst (.slice none 0 0))])), (some 5), none, [], []⟩, ⟨(.store 10 (.t 5) (.t 22)), none, none, [], []⟩]
def r_rOf50_4 : Reg := ⟨[], t_rOf50_4, [5], [], false⟩
def t_rOf50_5 : List ROp := [⟨(.faddr 1 (.t 5)), (some 23), none, [], []⟩, ⟨(.load 1 false (.t 23)), (some 24), none, [], []⟩, ⟨(.faddr 2 (.t 3)), (some 25), none, [], []⟩, ⟨(.load 1 false (.t 25)), (some 26), none, [], []⟩, ⟨(.bin .geq (.t 24) (.t 26)), (some 27), none, [], []⟩, ⟨(.mv (.t 27)), (some 28), none, [], []⟩, ⟨(.faddr 1 (.t 5)), (some 29), (some (28, true)), [], []⟩, ⟨(.load 1 false (.t 29)), (some 30), (some (28, true)), [], []⟩, ⟨(.bin .leq (.t 30) (.c (.int .i64 60))), (some 31), (some (28, true)), [], []⟩, ⟨(.pick (.t 28) (.t 31) (.c (.bool false))), (some 32), none, [], []⟩]
def r_rOf50_5 : Reg := ⟨[], t_rOf50_5, [], [], false⟩
def t_rOf50_6 : List ROp := [⟨(.faddr 1 (.t 5)), (some 33), none, [], []⟩, ⟨(.load 1 false (.t 33)), (some 34), none, [], []⟩, ⟨(.bin .add (.t 34) (.c (.int .i64 1))), (some 35), none, [], []⟩, ⟨(.faddr 2 (.t 3)), (some 36), none, [], []⟩, ⟨(.store 1 (.t 36) (.t 35)), none, none, [], []⟩]
def r_rOf50_6 : Reg := ⟨[], t_rOf50_6, [], [], false⟩
def t_rOf50_7 : List ROp := [⟨(.faddr 3 (.t 3)), (some 37), none, [], []⟩, ⟨(.load 1 false (.t 37)), (some 38), none, [], []⟩, ⟨(.faddr 9 (.t 5)), (some 39), none, [], []⟩, ⟨(.loadp 1 false (.t 39)), (some 40), none, [], []⟩, ⟨(.len false (.t 40)), (some 41), none, [], []⟩, ⟨(.bin .add (.t 38) (.t 41)), (some 42), none, [], []⟩, ⟨(.faddr 3 (.t 3)), (some 43), none, [], []⟩, ⟨(.store 1 (.t 43) (.t 42)), none, none, [], []⟩]
def r_rOf50_7 : Reg := ⟨[], t_rOf50_7, [], [], false⟩
def t_rOf50_8 : List ROp := [⟨(.faddr 4 (.t 3)), (some 44), none, [], []⟩, ⟨(.load 1 false (.t 44)), (some 45), none, [], []⟩, ⟨(.faddr 8 (.t 5)), (some 46), none, [], []⟩, ⟨(.loadp 1 false (.t 46)), (some 47), none, [], []⟩, ⟨(.len false (.t 47)), (some 48), none, [], []⟩, ⟨(.bin .add (.t 45) (.t 48)), (some 49), none, [], []⟩, ⟨(.faddr 4 (.t 3)), (some 50), none, [], []⟩, ⟨(.store 1 (.t 50) (.t 49)), none, none, [], []⟩]
def r_rOf50_8 : Reg := ⟨[], t_rOf50_8, [], [], false⟩
def t_rOf50_9 : List ROp := [⟨(.bin .add (.t 52) (.t 55)), (some 56), none, [], []⟩, ⟨(.faddr 5 (.t 3)), (some 57), none, [], []⟩, ⟨(.store 1 (.t 57) (.t 56)), none, none, [], [3]⟩]
def h_rOf50_9 : List ROp := [⟨(.faddr 5 (.t 3)), (some 51), none, [55], []⟩, ⟨(.load 1 false (.t 51)), (some 52), none, [55], []⟩, ⟨(.faddr 8 (.t 5)), (some 53), none, [55], []⟩, ⟨(.loadp 1 false (.t 53)), (some 54), none, [55], []⟩, ⟨(.callv (.c (.clo 22 [] [])) [(.t 54)]), (some 55), none, [], []⟩]
def r_rOf50_9 : Reg := ⟨h_rOf50_9, t_rOf50_9, [55], [], true⟩
def t_rOf50_10 : List ROp := [⟨(.faddr 1 (.t 5)), (some 58), none, [], []⟩, ⟨(.load 1 false (.t 58)), (some 59), none, [], []⟩, ⟨(.bin .eql (.t 59) (.c (.int .i64 0))), (some 60), none, [], []⟩]
def r_rOf50_10 : Reg := ⟨[], t_rOf50_10, [], [], false⟩
def t_rOf50_11 : List ROp := [⟨(.faddr 1 (.t 3)), (some 61), none, [], []⟩, ⟨(.load 1 false (.t 61)), (some 62), none, [], []⟩, ⟨(.bin .add (.t 62) (.c (.int .i64 1))), (some 63), none, [], []⟩, ⟨(.faddr 1 (.t 3)), (some 64), none, [], []⟩, ⟨(.store 1 (.t 64) (.t 63)), none, none, [], []⟩]
def r_rOf50_11 : Reg := ⟨[], t_rOf50_11, [], [], false⟩
def t_rOf50_12 : List ROp := [⟨(.faddr 1 (.t 5)), (some 65), none, [], []⟩, ⟨(.load 1 false (.t 65)), (some 66), none, [], []⟩, ⟨(.bin .eql (.t 66) (.c (.int .i64 0))), (some 67), none, [], []⟩, ⟨(.mv (.t 67)), (some 68), none, [], []⟩, ⟨(.faddr 9 (.t 5)), (some 69), (some (68, true)), [], []⟩, ⟨(.loadp 1 false (.t 69)), (some 70), (some (68, true)), [], []⟩, ⟨(.len false (.t 70)), (some 71), (some (68, true)), [], []⟩, ⟨(.bin .eql (.t 71) (.c (.int .i64 0))), (some 72), (some (68, true)), [], []⟩, ⟨(.pick (.t 68) (.t 72) (.c (.bool false))), (some 73), none, [], []⟩]
def r_rOf50_12 : Reg := ⟨[], t_rOf50_12, [], [], false⟩
def t_rOf50_13 : List ROp := [⟨(.faddr 6 (.t 3)), (some 74), none, [], []⟩, ⟨(.load 1 false (.t 74)), (some 75), none, [], []⟩, ⟨(.bin .add (.t 75) (.c (.int .i64 1))), (some 76), none, [], []⟩, ⟨(.faddr 6 (.t 3)), (some 77), none, [], []⟩, ⟨(.store 1 (.t 77) (.t 76)), none, none, [], []⟩]
def r_rOf50_13 : Reg := ⟨[], t_rOf50_13, [], [], false⟩
def t_rOf50_14 : List ROp := [⟨(.mv (.t 4)), (some 17), none, [], []⟩, ⟨(.bin .add (.t 17) (.c (.int .i64 1))), (some 18), none, [], []⟩, ⟨(.mv (.t 18)), (some 4), none, [], []⟩]
def r_rOf50_14 : Reg := ⟨[], t_rOf50_14, [], [], false⟩
def r_rOf50_l15 : IR := (.seq (.seq (.reg r_rOf50_3)
  (.cond (.t 16) .skip
  (.exit 0)))
  (.seq (.block 1 (.seq (.seq (.reg r_rOf50_4)
  (.gini [⟨5, 2, 542, 1, 9⟩, ⟨5, 3, 543, 1, 3⟩, ⟨5, 8, 540, 6, 54⟩, ⟨5, 9, 541, 2, 46⟩]))
  (.seq (.seq (.reg r_rOf50_5)
  (.cond (.t 32) (.reg r_rOf50_6)
  .skip))
  (.seq (.reg r_rOf50_7)
  (.seq (.reg r_rOf50_8)
  (.seq (.reg r_rOf50_9)
  (.seq (.seq (.reg r_rOf50_10)
  (.cond (.t 60) (.reg r_rOf50_11)
  .skip))
  (.seq (.reg r_rOf50_12)
  (.cond (.t 73) (.reg r_rOf50_13)
  .skip)))))))))
  (.reg r_rOf50_14)))
def r_rOf50_16 : Reg := ⟨[], [⟨(.mv (.c (.int .i64 0))), (some 6), none, [], []⟩], [], [], false⟩
def t_rOf50_17 : List ROp := [⟨(.mv (.t 6)), (some 78), none, [], []⟩, ⟨(.faddr 2 (.t 3)), (some 79), none, [], []⟩, ⟨(.load 1 false (.t 79)), (some 80), none, [], []⟩, ⟨(.bin .lss (.t 78) (.t 80)), (some 81), none, [], []⟩]
def r_rOf50_17 : Reg := ⟨[], t_rOf50_17, [], [], false⟩
def r_rOf50_18 : Reg := ⟨[], [⟨(.mv (.c (.int .i64 0))), (some 7), none, [], []⟩, ⟨(.mv (.c (.int .i64 0))), (some 8), none, [], []⟩], [], [], false⟩
def r_rOf50_19 : Reg := ⟨[], [⟨(.mv (.c (.int .i64 0))), (some 9), none, [], []⟩], [], [], false⟩
def t_rOf50_20 : List ROp := [⟨(.mv (.t 9)), (some 84), none, [], []⟩, ⟨(.mv (.t 0)), (some 85), none, [], []⟩, ⟨(.len false (.t 85)), (some 86), none, [], []⟩, ⟨(.bin .lss (.t 84) (.t 86)), (some 87), none, [], []⟩]
def r_rOf50_20 : Reg := ⟨[], t_rOf50_20, [], [], false⟩
def t_rOf50_21 : List ROp := [⟨(.mv (.t 0)), (some 90), none, [], []⟩, ⟨(.mv (.t 9)), (some 91), none, [], []⟩, ⟨(.iaddr 10 (.t 90) (.t 91)), (some 92), none, [], []⟩, ⟨(.faddr 1 (.t 92)), (some 93), none, [], []⟩, ⟨(.load 1 false (.t 93)), (some 94), none, [], []⟩, ⟨(.mv (.t 6)), (some 95), none, [], []⟩, ⟨(.bin .eql (.t 94) (.t 95)), (some 96), none, [], []⟩]
def r_rOf50_21 : Reg := ⟨[], t_rOf50_21, [], [], false⟩
def t_rOf50_22 : List ROp := [⟨(.mv (.t 7)), (some 97), none, [], []⟩, ⟨(.bin .add (.t 97) (.c (.int .i64 1))), (some 98), none, [], []⟩, ⟨(.mv (.t 98)), (some 7), none, [], []⟩]
def r_rOf50_22 : Reg := ⟨[], t_rOf50_22, [], [], false⟩
def t_rOf50_23 : List ROp := [⟨(.mv (.t 8)), (some 99), none, [], []⟩, ⟨(.mv (.t 0)), (some 100), none, [], []⟩, ⟨(.mv (.t 9)), (some 101), none, [], []⟩, ⟨(.iaddr 10 (.t 100) (.t 101)), (some 102), none, [], []⟩, ⟨(.faddr 8 (.t 102)), (some 103), none, [], []⟩, ⟨(.loadp 1 false (.t 103)), (some 104), none, [], []⟩, ⟨(.len false (.t 104)), (some 105), none, [], []⟩, ⟨(.bin .add (.t 99) (.t 105)), (some 106), none, [], []⟩, ⟨(.mv (.t 106)), (some 8), none, [], []⟩]
def r_rOf50_23 : Reg := ⟨[], t_rOf50_23, [], [], false⟩
def t_rOf50_24 : List ROp := [⟨(.mv (.t 9)), (some 88), none, [], []⟩, ⟨(.bin .add (.t 88) (.c (.int .i64 1))), (some 89), none, [], []⟩, ⟨(.mv (.t 89)), (some 9), none, [], []⟩]
def r_rOf50_24 : Reg := ⟨[], t_rOf50_24, [], [], false⟩
def r_rOf50_l25 : IR := (.seq (.seq (.reg r_rOf50_20)
  (.cond (.t 87) .skip
  (.exit 4)))
  (.seq (.block 5 (.seq (.reg r_rOf50_21)
  (.cond (.t 96) (.seq (.reg r_rOf50_22)
  (.reg r_rOf50_23))
  .skip)))
  (.reg r_rOf50_24)))
def t_rOf50_26 : List ROp := [⟨(.faddr 7 (.t 3)), (some 107), none, [110], []⟩, ⟨(.loadp 1 false (.t 107)), (some 108), none, [110], []⟩, ⟨(.mv (.t 7)), (some 109), none, [110], []⟩, ⟨(.bsl 1 3 [(.t 109)]), (some 110), none, [], []⟩, ⟨(.append 1 3 8 (.t 108) (.t 110)), (some 111), none, [], []⟩, ⟨(.faddr 7 (.t 3)), (some 112), none, [], []⟩, ⟨(.storep 1 (.t 112) (.t 111)), none, none, [], []⟩]
def r_rOf50_26 : Reg := ⟨[], t_rOf50_26, [110], [], false⟩
def t_rOf50_27 : List ROp := [⟨(.faddr 8 (.t 3)), (some 113), none, [116], []⟩, ⟨(.loadp 1 false (.t 113)), (some 114), none, [116], []⟩, ⟨(.mv (.t 8)), (some 115), none, [116], []⟩, ⟨(.bsl 1 3 [(.t 115)]), (some 116), none, [], []⟩, ⟨(.append 1 3 8 (.t 114) (.t 116)), (some 117), none, [], []⟩, ⟨(.faddr 8 (.t 3)), (some 118), none, [], []⟩, ⟨(.storep 1 (.t 118) (.t 117)), none, none, [], []⟩]
def r_rOf50_27 : Reg := ⟨[], t_rOf50_27, [116], [], false⟩
def t_rOf50_28 : List ROp := [⟨(.mv (.t 6)), (some 82), none, [], []⟩, ⟨(.bin .add (.t 82) (.c (.int .i64 1))), (some 83), none, [], []⟩, ⟨(.mv (.t 83)), (some 6), none, [], []⟩]
def r_rOf50_28 : Reg := ⟨[], t_rOf50_28, [], [], false⟩
def r_rOf50_l29 : IR := (.seq (.seq (.reg r_rOf50_17)
  (.cond (.t 81) .skip
  (.exit 2)))
  (.seq (.block 3 (.seq (.reg r_rOf50_18)
  (.seq (.seq (.reg r_rOf50_19)
  (.block 4 (.loop r_rOf50_l25)))
  (.seq (.reg r_rOf50_26)
  (.reg r_rOf50_27)))))
  (.reg r_rOf50_28)))
def r_rOf50_30 : Reg := ⟨[], [⟨(.loadp 9 true (.t 3)), (some 119), none, [], []⟩, ⟨(.store 9 (.t 2) (.t 119)), none, none, [], []⟩], [], [], false⟩
def ir_rOf50 : IR := (.seq (.seq (.reg r_rOf50_0)
  (.gini [⟨2, 7, 523, 1, 3⟩, ⟨2, 8, 516, 1, 3⟩]))
  (.seq (.seq (.reg r_rOf50_1)
  (.gini [⟨3, 7, 531, 1, 3⟩, ⟨3, 8, 524, 1, 3⟩]))
  (.seq (.seq (.reg r_rOf50_2)
  (.block 0 (.loop r_rOf50_l15)))
  (.seq (.seq (.reg r_rOf50_16)
  (.block 2 (.loop r_rOf50_l29)))
  (.seq (.reg r_rOf50_30)
  .ret)))))
def res_rOf50 : List RDesc := [(.cell 2 9 true)]
theorem e_rOf50_0 (C : FuncId → List AV → AV → Prop) (σ : St) (K : St → Prop) : runReg C r_rOf50_0 σ K = runOps C t_rOf50_0 (σ.kills [2]) K := rfl
theorem e_rOf50_1 (C : FuncId → List AV → AV → Prop) (σ : St) (K : St → Prop) : runReg C r_rOf50_1 σ K = runOps C t_rOf50_1 (σ.kills [3]) K := rfl
theorem e_rOf50_2 (C : FuncId → List AV → AV → Prop) (σ : St) (K : St → Prop) : runReg C r_rOf50_2 σ K = runOps C [⟨(.mv (.c (.int .i64 0))), (some 4), none, [], []⟩] (σ.kills []) K := rfl
theorem e_rOf50_3 (C : FuncId → List AV → AV → Prop) (σ : St) (K : St → Prop) : runReg C r_rOf50_3 σ K = runOps C t_rOf50_3 (σ.kills []) K := rfl
theorem e_rOf50_4 (C : FuncId → List AV → AV → Prop) (σ : St) (K : St → Prop) : runReg C r_rOf50_4 σ K = runOps C t_rOf50_4 (σ.kills [5]) K := rfl
theorem e_rOf50_5 (C : FuncId → List AV → AV → Prop) (σ : St) (K : St → Prop) : runReg C r_rOf50_5 σ K = runOps C t_rOf50_5 (σ.kills []) K := rfl
theorem e_rOf50_6 (C : FuncId → List AV → AV → Prop) (σ : St) (K : St → Prop) : runReg C r_rOf50_6 σ K = runOps C t_rOf50_6 (σ.kills []) K := rfl
theorem e_rOf50_7 (C : FuncId → List AV → AV → Prop) (σ : St) (K : St → Prop) : runReg C r_rOf50_7 σ K = runOps C t_rOf50_7 (σ.kills []) K := rfl
theorem e_rOf50_8 (C : FuncId → List AV → AV → Prop) (σ : St) (K : St → Prop) : runReg C r_rOf50_8 σ K = runOps C t_rOf50_8 (σ.kills []) K := rfl
theorem e_rOf50_9 (C : FuncId → List AV → AV → Prop) (σ : St) (K : St → Prop) : runReg C r_rOf50_9 σ K = runHead C [] t_rOf50_9 h_rOf50_9 (σ.kills [55]) K := rfl
theorem e_rOf50_10 (C : FuncId → List AV → AV → Prop) (σ : St) (K : St → Prop) : runReg C r_rOf50_10 σ K = runOps C t_rOf50_10 (σ.kills []) K := rfl
theorem e_rOf50_11 (C : FuncId → List AV → AV → Prop) (σ : St) (K : St → Prop) : runReg C r_rOf50_11 σ K = runOps C t_rOf50_11 (σ.kills []) K := rfl
theorem e_rOf50_12 (C : FuncId → List AV → AV → Prop) (σ : St) (K : St → Prop) : runReg C r_rOf50_12 σ K = runOps C t_rOf50_12 (σ.kills []) K := rfl
theorem e_rOf50_13 (C : FuncId → List AV → AV → Prop) (σ : St) (K : St → Prop) : runReg C r_rOf50_13 σ K = runOps C t_rOf50_13 (σ.kills []) K := rfl
theorem e_rOf50_14 (C : FuncId → List AV → AV → Prop) (σ : St) (K : St → Prop) : runReg C r_rOf50_14 σ K = runOps C t_rOf50_14 (σ.kills []) K := rfl
theorem e_rOf50_16 (C : FuncId → List AV → AV → Prop) (σ : St) (K : St → Prop) : runReg C r_rOf50_16 σ K = runOps C [⟨(.mv (.c (.int .i64 0))), (some 6), none, [], []⟩] (σ.kills []) K := rfl
theorem e_rOf50_17 (C : FuncId → List AV → AV → Prop) (σ : St) (K : St → Prop) : runReg C r_rOf50_17 σ K = runOps C t_rOf50_17 (σ.kills []) K := rfl
theorem e_rOf50_18 (C : FuncId → List AV → AV → Prop) (σ : St) (K : St → Prop) : runReg C r_rOf50_18 σ K = runOps C [⟨(.mv (.c (.int .i64 0))), (some 7), none, [], []⟩, ⟨(.mv (.c (.int .i64 0))), (some 8), none, [], []⟩] (σ.kills []) K := rfl
theorem e_rOf50_19 (C : FuncId → List AV → AV → Prop) (σ : St) (K : St → Prop) : runReg C r_rOf50_19 σ K = runOps C [⟨(.mv (.c (.int .i64 0))), (some 9), none, [], []⟩] (σ.kills []) K := rfl
theorem e_rOf50_20 (C : FuncId → List AV → AV → Prop) (σ : St) (K : St → Prop) : runReg C r_rOf50_20 σ K = runOps C t_rOf50_20 (σ.kills []) K := rfl
theorem e_rOf50_21 (C : FuncId → List AV → AV → Prop) (σ : St) (K : St → Prop) : runReg C r_rOf50_21 σ K = runOps C t_rOf50_21 (σ.kills []) K := rfl
theorem e_rOf50_22 (C : FuncId → List AV → AV → Prop) (σ : St) (K : St → Prop) : runReg C r_rOf50_22 σ K = runOps C t_rOf50_22 (σ.kills []) K := rfl
theorem e_rOf50_23 (C : FuncId → List AV → AV → Prop) (σ : St) (K : St → Prop) : runReg C r_rOf50_23 σ K = runOps C t_rOf50_23 (σ.kills []) K := rfl
theorem e_rOf50_24 (C : FuncId → List AV → AV → Prop) (σ : St) (K : St → Prop) : runReg C r_rOf50_24 σ K = runOps C t_rOf50_24 (σ.kills []) K := rfl
theorem e_rOf50_26 (C : FuncId → List AV → AV → Prop) (σ : St) (K : St → Prop) : runReg C r_rOf50_26 σ K = runOps C t_rOf50_26 (σ.kills [110]) K := rfl
theorem e_rOf50_27 (C : FuncId → List AV → AV → Prop) (σ : St) (K : St → Prop) : runReg C r_rOf50_27 σ K = runOps C t_rOf50_27 (σ.kills [116]) K := rfl
theorem e_rOf50_28 (C : FuncId → List AV → AV → Prop) (σ : St) (K : St → Prop) : runReg C r_rOf50_28 σ K = runOps C t_rOf50_28 (σ.kills []) K := rfl
theorem e_rOf50_30 (C : FuncId → List AV → AV → Prop) (σ : St) (K : St → Prop) : runReg C r_rOf50_30 σ K = runOps C [⟨(.loadp 9 true (.t 3)), (some 119), none, [], []⟩, ⟨(.store 9 (.t 2) (.t 119)), none, none, [], []⟩] (σ.kills []) K := rfl
theorem fn_rOf50 {args : List AV} {r : AV} (ha : args.length.ble Tryd.f12.ntmps = true) (h : run (AFn Tryd.prog) ir_rOf50 (endQ res_rOf50 r) (initSt args)) : AFn Tryd.prog 12 args r :=
  AFn.of_code (pv := true) (hint := fun _ => []) (c := Tryd.f12.body.getD .skip) (by kernel_rfl) (by kernel_rfl) Tryd.func12 (by kernel_rfl) (by kernel_rfl) (by kernel_rfl) (of_decide_eq_true (by kernel_rfl)) (Nat.le_of_ble_eq_true ha) (Nat.le_of_ble_eq_true (by kernel_rfl)) (run_ok h)
attribute [local go_sem ↓] ir_rOf50
attribute [local go_sem] res_rOf50 e_rOf50_0 t_rOf50_0 e_rOf50_1 t_rOf50_1 e_rOf50_2 e_rOf50_3 t_rOf50_3 e_rOf50_4 t_rOf50_4 e_rOf50_5 t_rOf50_5 e_rOf50_6 t_rOf50_6 e_rOf50_7 t_rOf50_7 e_rOf50_8 t_rOf50_8 e_rOf50_9 t_rOf50_9 h_rOf50_9 e_rOf50_10 t_rOf50_10 e_rOf50_11 t_rOf50_11 e_rOf50_12 t_rOf50_12 e_rOf50_13 t_rOf50_13 e_rOf50_14 t_rOf50_14 e_rOf50_16 e_rOf50_17 t_rOf50_17 e_rOf50_18 e_rOf50_19 e_rOf50_20 t_rOf50_20 e_rOf50_21 t_rOf50_21 e_rOf50_22 t_rOf50_22 e_rOf50_23 t_rOf50_23 e_rOf50_24 t_rOf50_24 e_rOf50_26 t_rOf50_26 e_rOf50_27 t_rOf50_27 e_rOf50_28 t_rOf50_28 e_rOf50_30
theorem hiG_snoc (x : Nd) : ∀ (l : List Nd) (h : Nat), hiG h (l ++ [x]) = hiS (hiG h l) x
  | [], h => rfl
  | n :: l, h => by
    show hiG (hiS h n) (l ++ [x]) = _
    rw [hiG_snoc x l]; rfl
theorem rngI_snoc (j : Nat) (f : Nat → Nat) : rngI (j + 1) f = rngI j f ++ [(f j : Int)] := by
  unfold rngI
  rw [List.range_succ, List.map_append]; rfl
def r1I (l : List Nd) (k : Nat) (σ : St) : Prop :=
  ∃ i : Nat, i ≤ l.length ∧ k = l.length - i ∧ σ.T 0 = .sl (l.map Nd.a) ∧ σ.T 2 = .ptr 2 0 0 ∧ σ.T 3 = .ptr 3 0 0 ∧ σ.T 4 = .int .i64 i ∧ σ.H 2 = some ⟨9, 37, [cell0], 0⟩ ∧ σ.H 3 = some ⟨9, 37, [cellG l.length (hiG 0 (l.take i)) (l.take i) (.slice none 0 0) (.slice none 0 0)], 0⟩ ∧
    σ.T 1307 = .vrs 531 0 0 (.slice none 0 0) ∧ σ.T 1308 = .vrs 524 0 0 (.slice none 0 0) ∧ σ.H 531 = some ⟨1, 3, [], 0⟩ ∧ σ.H 524 = some ⟨1, 3, [], 0⟩
set_option maxHeartbeats 16000000 in
theorem r1_loop (l : List Nd) (hl : l.length ≤ 60) (hg : ∀ x, x ∈ l → x.Gd) (Q : XK → St → Prop)
    (hEnd : ∀ σ, σ.T 0 = .sl (l.map Nd.a) → σ.T 2 = .ptr 2 0 0 → σ.T 3 = .ptr 3 0 0 → σ.H 2 = some ⟨9, 37, [cell0], 0⟩ → σ.H 3 = some ⟨9, 37, [cellG l.length (hiG 0 l) l (.slice none 0 0) (.slice none 0 0)], 0⟩ → σ.T 1307 = .vrs 531 0 0 (.slice none 0 0) → σ.T 1308 = .vrs 524 0 0 (.slice none 0 0) → σ.H 531 = some ⟨1, 3, [], 0⟩ → σ.H 524 = some ⟨1, 3, [], 0⟩ → Q (.exit 0) σ) (k : Nat) (σ : St) (hI : r1I l k σ) :
    run (AFn Tryd.prog) r_rOf50_l15 (thenQ (fun σ' => ∃ m, m < k ∧ r1I l m σ') Q) σ := by
  obtain ⟨i, hi, rfl, t0, t2, t3, t4, h2, h3, g7, g8, h13, h16⟩ := hI
  simp only [r_rOf50_l15]
  by_cases hlt : i < l.length
  case neg =>
    have hlt' : ¬ (i : Int) < (l.length : Int) := by omega
    have e : l.take i = l := List.take_of_length_le (by omega)
    rw [e] at h3
    simp (maxSteps := 4000000) only [go_sem, ↓reduceIte, reduceCtorEq, Nat.reduceEqDiff, Nat.reduceBEq, Nat.reduceAdd, Nat.reduceSub, Nat.reduceMul, Nat.reduceLT, Nat.reduceLeDiff, Nat.reduceBNe, Int.reduceBEq, Int.reduceBNe, Int.reduceLT, Int.reduceLE, Msg.a, Par.a, evG, evP, Nat.reduceMod, Nat.reduceDiv, Nat.reduceSub, Nat.reduceLeDiff, Nat.reduceMul, Nat.reduceAdd, t0, t4, hlt', List.length_map]
    refine hEnd _ ?_ ?_ ?_ ?_ ?_ ?_ ?_ ?_ ?_
    · simp (maxSteps := 4000000) only [go_sem, ↓reduceIte, reduceCtorEq, Nat.reduceEqDiff, Nat.reduceBEq, Nat.reduceAdd, Nat.reduceSub, Nat.reduceMul, Nat.reduceLT, Nat.reduceLeDiff, Nat.reduceBNe, Int.reduceBEq, Int.reduceBNe, Int.reduceLT, Int.reduceLE, Msg.a, Par.a, evG, evP, Nat.reduceMod, Nat.reduceDiv, Nat.reduceSub, Nat.reduceLeDiff, Nat.reduceMul, Nat.reduceAdd, t0]
    · simp (maxSteps := 4000000) only [go_sem, ↓reduceIte, reduceCtorEq, Nat.reduceEqDiff, Nat.reduceBEq, Nat.reduceAdd, Nat.reduceSub, Nat.reduceMul, Nat.reduceLT, Nat.reduceLeDiff, Nat.reduceBNe, Int.reduceBEq, Int.reduceBNe, Int.reduceLT, Int.reduceLE, Msg.a, Par.a, evG, evP, Nat.reduceMod, Nat.reduceDiv, Nat.reduceSub, Nat.reduceLeDiff, Nat.reduceMul, Nat.reduceAdd, t2]
    · simp (maxSteps := 4000000) only [go_sem, ↓reduceIte, reduceCtorEq, Nat.reduceEqDiff, Nat.reduceBEq, Nat.reduceAdd, Nat.reduceSub, Nat.reduceMul, Nat.reduceLT, Nat.reduceLeDiff, Nat.reduceBNe, Int.reduceBEq, Int.reduceBNe, Int.reduceLT, Int.reduceLE, Msg.a, Par.a, evG, evP, Nat.reduceMod, Nat.reduceDiv, Nat.reduceSub, Nat.reduceLeDiff, Nat.reduceMul, Nat.reduceAdd, t3]
    · simp (maxSteps := 4000000) only [go_sem, ↓reduceIte, reduceCtorEq, Nat.reduceEqDiff, Nat.reduceBEq, Nat.reduceAdd, Nat.reduceSub, Nat.reduceMul, Nat.reduceLT, Nat.reduceLeDiff, Nat.reduceBNe, Int.reduceBEq, Int.reduceBNe, Int.reduceLT, Int.reduceLE, Msg.a, Par.a, evG, evP, Nat.reduceMod, Nat.reduceDiv, Nat.reduceSub, Nat.reduceLeDiff, Nat.reduceMul, Nat.reduceAdd, h2]
    · simp (maxSteps := 4000000) only [go_sem, ↓reduceIte, reduceCtorEq, Nat.reduceEqDiff, Nat.reduceBEq, Nat.reduceAdd, Nat.reduceSub, Nat.reduceMul, Nat.reduceLT, Nat.reduceLeDiff, Nat.reduceBNe, Int.reduceBEq, Int.reduceBNe, Int.reduceLT, Int.reduceLE, Msg.a, Par.a, evG, evP, Nat.reduceMod, Nat.reduceDiv, Nat.reduceSub, Nat.reduceLeDiff, Nat.reduceMul, Nat.reduceAdd, h3]
    · simp (maxSteps := 4000000) only [go_sem, ↓reduceIte, reduceCtorEq, Nat.reduceEqDiff, Nat.reduceBEq, Nat.reduceAdd, Nat.reduceSub, Nat.reduceMul, Nat.reduceLT, Nat.reduceLeDiff, Nat.reduceBNe, Int.reduceBEq, Int.reduceBNe, Int.reduceLT, Int.reduceLE, Msg.a, Par.a, evG, evP, Nat.reduceMod, Nat.reduceDiv, Nat.reduceSub, Nat.reduceLeDiff, Nat.reduceMul, Nat.reduceAdd, g7]
    · simp (maxSteps := 4000000) only [go_sem, ↓reduceIte, reduceCtorEq, Nat.reduceEqDiff, Nat.reduceBEq, Nat.reduceAdd, Nat.reduceSub, Nat.reduceMul, Nat.reduceLT, Nat.reduceLeDiff, Nat.reduceBNe, Int.reduceBEq, Int.reduceBNe, Int.reduceLT, Int.reduceLE, Msg.a, Par.a, evG, evP, Nat.reduceMod, Nat.reduceDiv, Nat.reduceSub, Nat.reduceLeDiff, Nat.reduceMul, Nat.reduceAdd, g8]
    · simp (maxSteps := 4000000) only [go_sem, ↓reduceIte, reduceCtorEq, Nat.reduceEqDiff, Nat.reduceBEq, Nat.reduceAdd, Nat.reduceSub, Nat.reduceMul, Nat.reduceLT, Nat.reduceLeDiff, Nat.reduceBNe, Int.reduceBEq, Int.reduceBNe, Int.reduceLT, Int.reduceLE, Msg.a, Par.a, evG, evP, Nat.reduceMod, Nat.reduceDiv, Nat.reduceSub, Nat.reduceLeDiff, Nat.reduceMul, Nat.reduceAdd, h13]
    · simp (maxSteps := 4000000) only [go_sem, ↓reduceIte, reduceCtorEq, Nat.reduceEqDiff, Nat.reduceBEq, Nat.reduceAdd, Nat.reduceSub, Nat.reduceMul, Nat.reduceLT, Nat.reduceLeDiff, Nat.reduceBNe, Int.reduceBEq, Int.reduceBNe, Int.reduceLT, Int.reduceLE, Msg.a, Par.a, evG, evP, Nat.reduceMod, Nat.reduceDiv, Nat.reduceSub, Nat.reduceLeDiff, Nat.reduceMul, Nat.reduceAdd, h16]
  unfold cell0 at h2
  unfold cellG at h3
  have hlt' : (i : Int) < (l.length : Int) := by omega
  obtain ⟨x, hx⟩ := get_lt hlt
  obtain ⟨gr, gm, gk⟩ := hg x (List.mem_of_getElem? hx)
  have hge := at_map (f := Nd.a) hx
  simp only [Nd.a] at hge
  have cb := ref18Size x.msgs gk
  have tk : l.take (i + 1) = l.take i ++ [x] := by rw [List.take_add_one, hx]; rfl
  have hpl : (l.take i).length ≤ 60 := by rw [List.length_take]; omega
  have hgp : ∀ y, y ∈ l.take i → y.Gd := fun y hy => hg y (List.mem_of_mem_take hy)
  have b3 : rwsN (l.take i) ≤ 60 * 1000 := Nat.le_trans (sumN_le fun y hy => (hgp y hy).rows) (Nat.mul_le_mul_right _ hpl)
  have b4 : msgN (l.take i) ≤ 60 * 1000 := Nat.le_trans (sumN_le fun y hy => (hgp y hy).msgs) (Nat.mul_le_mul_right _ hpl)
  have sz : ∀ y : Nd, y.Gd → sizes y.msgs ≤ 2000036000000 := fun y hy => by
    have := sizes_take hy.kok y.msgs.length
    rwa [List.take_length] at this
  have b5 : bytN (l.take i) ≤ 60 * 2000036000000 := Nat.le_trans (sumN_le fun y hy => sz y (hgp y hy)) (Nat.mul_le_mul_right _ hpl)
  have b1 : lvs (l.take i) ≤ 60 := Nat.le_trans List.countP_le_length hpl
  have b6 : emp (l.take i) ≤ 60 := Nat.le_trans List.countP_le_length hpl
  have bx := sz x ⟨gr, gm, gk⟩
  have bH := hiG_le (l.take i) (Nat.zero_le 61)
  have w0 := wrapS (j := i) (by omega)
  have wN : ∀ a b : Nat, a + b ≤ 1000000000000000 → IntKind.i64.wrap ((a : Int) + (b : Int)) = ((a + b : Nat) : Int) := fun a b h => by rw [IntWalk.i64_in _ (by omega)]; omega
  have w3 := wN (rwsN (l.take i)) x.rows.length (by omega)
  have w4 := wN (msgN (l.take i)) x.msgs.length (by omega)
  have w5 := wN (bytN (l.take i)) (sizes x.msgs) (by omega)
  have w1 := wrapS (j := lvs (l.take i)) (by omega)
  have w2 := wrapS (j := emp (l.take i)) (by omega)
  have n3 : rwsN (l.take i ++ [x]) = rwsN (l.take i) + x.rows.length := sumN_snoc _ _ _
  have n4 : msgN (l.take i ++ [x]) = msgN (l.take i) + x.msgs.length := sumN_snoc _ _ _
  have n5 : bytN (l.take i ++ [x]) = bytN (l.take i) + sizes x.msgs := sumN_snoc _ _ _
  have nS := hiG_snoc x (l.take i) 0
  generalize hiG 0 (l.take i) = H at *
  have fin : ∀ (σ' : St), σ'.T 0 = .sl (l.map Nd.a) → σ'.T 2 = .ptr 2 0 0 → σ'.T 3 = .ptr 3 0 0 → σ'.T 4 = .int .i64 ((i + 1 : Nat) : Int) → σ'.H 2 = some ⟨9, 37, [cell0], 0⟩ → σ'.H 3 = some ⟨9, 37, [cellG l.length (hiG 0 (l.take (i + 1))) (l.take (i + 1)) (.slice none 0 0) (.slice none 0 0)], 0⟩ →
    σ'.T 1307 = .vrs 531 0 0 (.slice none 0 0) → σ'.T 1308 = .vrs 524 0 0 (.slice none 0 0) → σ'.H 531 = some ⟨1, 3, [], 0⟩ → σ'.H 524 = some ⟨1, 3, [], 0⟩ → ∃ m, m < l.length - i ∧ r1I l m σ' := fun σ' a1 a2 a3 a4 a5 a6 a7 a8 a9 c1 =>
    ⟨l.length - (i + 1), by omega, i + 1, by omega, rfl, a1, a2, a3, a4, a5, a6, a7, a8, a9, c1⟩
  by_cases hz : x.level = 0
  case neg =>
    have q0 : (x.level == 0) = false := by simpa using hz
    have n1 : lvs (l.take i ++ [x]) = lvs (l.take i) := by unfold lvs; rw [List.countP_append, List.countP_singleton, q0]; rfl
    have n6 : emp (l.take i ++ [x]) = emp (l.take i) := by unfold emp; rw [List.countP_append, List.countP_singleton, q0]; rfl
    by_cases hh : (H : Int) ≤ x.level
    case neg =>
      have hh' : ¬ x.level ≥ (H : Int) := hh
      have n2 : hiG 0 (l.take i ++ [x]) = H := by rw [nS]; unfold hiS; split <;> omega
      (repeat (first | simp (maxSteps := 4000000) only [go_sem, ↓reduceIte, reduceCtorEq, Nat.reduceEqDiff, Nat.reduceBEq, Nat.reduceAdd, Nat.reduceSub, Nat.reduceMul, Nat.reduceLT, Nat.reduceLeDiff, Nat.reduceBNe, Int.reduceBEq, Int.reduceBNe, Int.reduceLT, Int.reduceLE, Msg.a, Par.a, evG, evP, Nat.reduceMod, Nat.reduceDiv, Nat.reduceSub, Nat.reduceLeDiff, Nat.reduceMul, Nat.reduceAdd, t0, t2, t3, t4, h2, h3, g7, g8, h13, h16, hlt', hlt, hge, w0, w1, w2, w3, w4, w5, q0, hh, hh', List.length_map, Int.toNat_natCast] | refine calling (cb) ?_ | refine callingH (cb) ?_ | refine And.intro (by omega) ?_ | refine And.intro (fun d hd => by (repeat (rcases hd with rfl | hd; · exact ⟨rfl, rfl⟩)); cases hd) ?_))
      (repeat refine And.intro (by omega) ?_)
      refine fin _ ?_ ?_ ?_ ?_ ?_ ?_ ?_ ?_ ?_ ?_
      · simp (maxSteps := 4000000) only [go_sem, ↓reduceIte, reduceCtorEq, Nat.reduceEqDiff, Nat.reduceBEq, Nat.reduceAdd, Nat.reduceSub, Nat.reduceMul, Nat.reduceLT, Nat.reduceLeDiff, Nat.reduceBNe, Int.reduceBEq, Int.reduceBNe, Int.reduceLT, Int.reduceLE, Msg.a, Par.a, evG, evP, Nat.reduceMod, Nat.reduceDiv, Nat.reduceSub, Nat.reduceLeDiff, Nat.reduceMul, Nat.reduceAdd, t0]
      · simp (maxSteps := 4000000) only [go_sem, ↓reduceIte, reduceCtorEq, Nat.reduceEqDiff, Nat.reduceBEq, Nat.reduceAdd, Nat.reduceSub, Nat.reduceMul, Nat.reduceLT, Nat.reduceLeDiff, Nat.reduceBNe, Int.reduceBEq, Int.reduceBNe, Int.reduceLT, Int.reduceLE, Msg.a, Par.a, evG, evP, Nat.reduceMod, Nat.reduceDiv, Nat.reduceSub, Nat.reduceLeDiff, Nat.reduceMul, Nat.reduceAdd, t2]
      · simp (maxSteps := 4000000) only [go_sem, ↓reduceIte, reduceCtorEq, Nat.reduceEqDiff, Nat.reduceBEq, Nat.reduceAdd, Nat.reduceSub, Nat.reduceMul, Nat.reduceLT, Nat.reduceLeDiff, Nat.reduceBNe, Int.reduceBEq, Int.reduceBNe, Int.reduceLT, Int.reduceLE, Msg.a, Par.a, evG, evP, Nat.reduceMod, Nat.reduceDiv, Nat.reduceSub, Nat.reduceLeDiff, Nat.reduceMul, Nat.reduceAdd, t3]
      · simp (maxSteps := 4000000) only [go_sem, ↓reduceIte, reduceCtorEq, Nat.reduceEqDiff, Nat.reduceBEq, Nat.reduceAdd, Nat.reduceSub, Nat.reduceMul, Nat.reduceLT, Nat.reduceLeDiff, Nat.reduceBNe, Int.reduceBEq, Int.reduceBNe, Int.reduceLT, Int.reduceLE, Msg.a, Par.a, evG, evP, Nat.reduceMod, Nat.reduceDiv, Nat.reduceSub, Nat.reduceLeDiff, Nat.reduceMul, Nat.reduceAdd]
      · (simp (maxSteps := 4000000) only [go_sem, ↓reduceIte, reduceCtorEq, Nat.reduceEqDiff, Nat.reduceBEq, Nat.reduceAdd, Nat.reduceSub, Nat.reduceMul, Nat.reduceLT, Nat.reduceLeDiff, Nat.reduceBNe, Int.reduceBEq, Int.reduceBNe, Int.reduceLT, Int.reduceLE, Msg.a, Par.a, evG, evP, Nat.reduceMod, Nat.reduceDiv, Nat.reduceSub, Nat.reduceLeDiff, Nat.reduceMul, Nat.reduceAdd, h2]) <;> rfl
      · rw [tk]; unfold cellG; rw [n1, n2, n3, n4, n5, n6]; (simp (maxSteps := 4000000) only [go_sem, ↓reduceIte, reduceCtorEq, Nat.reduceEqDiff, Nat.reduceBEq, Nat.reduceAdd, Nat.reduceSub, Nat.reduceMul, Nat.reduceLT, Nat.reduceLeDiff, Nat.reduceBNe, Int.reduceBEq, Int.reduceBNe, Int.reduceLT, Int.reduceLE, Msg.a, Par.a, evG, evP, Nat.reduceMod, Nat.reduceDiv, Nat.reduceSub, Nat.reduceLeDiff, Nat.reduceMul, Nat.reduceAdd, h3]) <;> rfl
      · simp (maxSteps := 4000000) only [go_sem, ↓reduceIte, reduceCtorEq, Nat.reduceEqDiff, Nat.reduceBEq, Nat.reduceAdd, Nat.reduceSub, Nat.reduceMul, Nat.reduceLT, Nat.reduceLeDiff, Nat.reduceBNe, Int.reduceBEq, Int.reduceBNe, Int.reduceLT, Int.reduceLE, Msg.a, Par.a, evG, evP, Nat.reduceMod, Nat.reduceDiv, Nat.reduceSub, Nat.reduceLeDiff, Nat.reduceMul, Nat.reduceAdd, g7]
      · simp (maxSteps := 4000000) only [go_sem, ↓reduceIte, reduceCtorEq, Nat.reduceEqDiff, Nat.reduceBEq, Nat.reduceAdd, Nat.reduceSub, Nat.reduceMul, Nat.reduceLT, Nat.reduceLeDiff, Nat.reduceBNe, Int.reduceBEq, Int.reduceBNe, Int.reduceLT, Int.reduceLE, Msg.a, Par.a, evG, evP, Nat.reduceMod, Nat.reduceDiv, Nat.reduceSub, Nat.reduceLeDiff, Nat.reduceMul, Nat.reduceAdd, g8]
      · simp (maxSteps := 4000000) only [go_sem, ↓reduceIte, reduceCtorEq, Nat.reduceEqDiff, Nat.reduceBEq, Nat.reduceAdd, Nat.reduceSub, Nat.reduceMul, Nat.reduceLT, Nat.reduceLeDiff, Nat.reduceBNe, Int.reduceBEq, Int.reduceBNe, Int.reduceLT, Int.reduceLE, Msg.a, Par.a, evG, evP, Nat.reduceMod, Nat.reduceDiv, Nat.reduceSub, Nat.reduceLeDiff, Nat.reduceMul, Nat.reduceAdd, h13]
      · simp (maxSteps := 4000000) only [go_sem, ↓reduceIte, reduceCtorEq, Nat.reduceEqDiff, Nat.reduceBEq, Nat.reduceAdd, Nat.reduceSub, Nat.reduceMul, Nat.reduceLT, Nat.reduceLeDiff, Nat.reduceBNe, Int.reduceBEq, Int.reduceBNe, Int.reduceLT, Int.reduceLE, Msg.a, Par.a, evG, evP, Nat.reduceMod, Nat.reduceDiv, Nat.reduceSub, Nat.reduceLeDiff, Nat.reduceMul, Nat.reduceAdd, h16]
    have hh' : x.level ≥ (H : Int) := hh
    by_cases h6 : x.level ≤ 60
    · obtain ⟨q, hq⟩ : ∃ q : Nat, x.level = (q : Int) := ⟨x.level.toNat, by omega⟩
      have n2 : hiG 0 (l.take i ++ [x]) = q + 1 := by rw [nS]; unfold hiS; rw [if_pos ⟨by omega, h6⟩]; omega
      rw [hq] at hge hh hh' h6 q0
      have w6 := wrapS (j := q) (by omega)
      (repeat (first | simp (maxSteps := 4000000) only [go_sem, ↓reduceIte, reduceCtorEq, Nat.reduceEqDiff, Nat.reduceBEq, Nat.reduceAdd, Nat.reduceSub, Nat.reduceMul, Nat.reduceLT, Nat.reduceLeDiff, Nat.reduceBNe, Int.reduceBEq, Int.reduceBNe, Int.reduceLT, Int.reduceLE, Msg.a, Par.a, evG, evP, Nat.reduceMod, Nat.reduceDiv, Nat.reduceSub, Nat.reduceLeDiff, Nat.reduceMul, Nat.reduceAdd, t0, t2, t3, t4, h2, h3, g7, g8, h13, h16, hlt', hlt, hge, w0, w1, w2, w3, w4, w5, w6, q0, hh, hh', h6, List.length_map, Int.toNat_natCast] | refine calling (cb) ?_ | refine callingH (cb) ?_ | refine And.intro (by omega) ?_ | refine And.intro (fun d hd => by (repeat (rcases hd with rfl | hd; · exact ⟨rfl, rfl⟩)); cases hd) ?_))
      (repeat refine And.intro (by omega) ?_)
      refine fin _ ?_ ?_ ?_ ?_ ?_ ?_ ?_ ?_ ?_ ?_
      · simp (maxSteps := 4000000) only [go_sem, ↓reduceIte, reduceCtorEq, Nat.reduceEqDiff, Nat.reduceBEq, Nat.reduceAdd, Nat.reduceSub, Nat.reduceMul, Nat.reduceLT, Nat.reduceLeDiff, Nat.reduceBNe, Int.reduceBEq, Int.reduceBNe, Int.reduceLT, Int.reduceLE, Msg.a, Par.a, evG, evP, Nat.reduceMod, Nat.reduceDiv, Nat.reduceSub, Nat.reduceLeDiff, Nat.reduceMul, Nat.reduceAdd, t0]
      · simp (maxSteps := 4000000) only [go_sem, ↓reduceIte, reduceCtorEq, Nat.reduceEqDiff, Nat.reduceBEq, Nat.reduceAdd, Nat.reduceSub, Nat.reduceMul, Nat.reduceLT, Nat.reduceLeDiff, Nat.reduceBNe, Int.reduceBEq, Int.reduceBNe, Int.reduceLT, Int.reduceLE, Msg.a, Par.a, evG, evP, Nat.reduceMod, Nat.reduceDiv, Nat.reduceSub, Nat.reduceLeDiff, Nat.reduceMul, Nat.reduceAdd, t2]
      · simp (maxSteps := 4000000) only [go_sem, ↓reduceIte, reduceCtorEq, Nat.reduceEqDiff, Nat.reduceBEq, Nat.reduceAdd, Nat.reduceSub, Nat.reduceMul, Nat.reduceLT, Nat.reduceLeDiff, Nat.reduceBNe, Int.reduceBEq, Int.reduceBNe, Int.reduceLT, Int.reduceLE, Msg.a, Par.a, evG, evP, Nat.reduceMod, Nat.reduceDiv, Nat.reduceSub, Nat.reduceLeDiff, Nat.reduceMul, Nat.reduceAdd, t3]
      · simp (maxSteps := 4000000) only [go_sem, ↓reduceIte, reduceCtorEq, Nat.reduceEqDiff, Nat.reduceBEq, Nat.reduceAdd, Nat.reduceSub, Nat.reduceMul, Nat.reduceLT, Nat.reduceLeDiff, Nat.reduceBNe, Int.reduceBEq, Int.reduceBNe, Int.reduceLT, Int.reduceLE, Msg.a, Par.a, evG, evP, Nat.reduceMod, Nat.reduceDiv, Nat.reduceSub, Nat.reduceLeDiff, Nat.reduceMul, Nat.reduceAdd]
      · (simp (maxSteps := 4000000) only [go_sem, ↓reduceIte, reduceCtorEq, Nat.reduceEqDiff, Nat.reduceBEq, Nat.reduceAdd, Nat.reduceSub, Nat.reduceMul, Nat.reduceLT, Nat.reduceLeDiff, Nat.reduceBNe, Int.reduceBEq, Int.reduceBNe, Int.reduceLT, Int.reduceLE, Msg.a, Par.a, evG, evP, Nat.reduceMod, Nat.reduceDiv, Nat.reduceSub, Nat.reduceLeDiff, Nat.reduceMul, Nat.reduceAdd, h2]) <;> rfl
      · rw [tk]; unfold cellG; rw [n1, n2, n3, n4, n5, n6]; (simp (maxSteps := 4000000) only [go_sem, ↓reduceIte, reduceCtorEq, Nat.reduceEqDiff, Nat.reduceBEq, Nat.reduceAdd, Nat.reduceSub, Nat.reduceMul, Nat.reduceLT, Nat.reduceLeDiff, Nat.reduceBNe, Int.reduceBEq, Int.reduceBNe, Int.reduceLT, Int.reduceLE, Msg.a, Par.a, evG, evP, Nat.reduceMod, Nat.reduceDiv, Nat.reduceSub, Nat.reduceLeDiff, Nat.reduceMul, Nat.reduceAdd, h3]) <;> rfl
      · simp (maxSteps := 4000000) only [go_sem, ↓reduceIte, reduceCtorEq, Nat.reduceEqDiff, Nat.reduceBEq, Nat.reduceAdd, Nat.reduceSub, Nat.reduceMul, Nat.reduceLT, Nat.reduceLeDiff, Nat.reduceBNe, Int.reduceBEq, Int.reduceBNe, Int.reduceLT, Int.reduceLE, Msg.a, Par.a, evG, evP, Nat.reduceMod, Nat.reduceDiv, Nat.reduceSub, Nat.reduceLeDiff, Nat.reduceMul, Nat.reduceAdd, g7]
      · simp (maxSteps := 4000000) only [go_sem, ↓reduceIte, reduceCtorEq, Nat.reduceEqDiff, Nat.reduceBEq, Nat.reduceAdd, Nat.reduceSub, Nat.reduceMul, Nat.reduceLT, Nat.reduceLeDiff, Nat.reduceBNe, Int.reduceBEq, Int.reduceBNe, Int.reduceLT, Int.reduceLE, Msg.a, Par.a, evG, evP, Nat.reduceMod, Nat.reduceDiv, Nat.reduceSub, Nat.reduceLeDiff, Nat.reduceMul, Nat.reduceAdd, g8]
      · simp (maxSteps := 4000000) only [go_sem, ↓reduceIte, reduceCtorEq, Nat.reduceEqDiff, Nat.reduceBEq, Nat.reduceAdd, Nat.reduceSub, Nat.reduceMul, Nat.reduceLT, Nat.reduceLeDiff, Nat.reduceBNe, Int.reduceBEq, Int.reduceBNe, Int.reduceLT, Int.reduceLE, Msg.a, Par.a, evG, evP, Nat.reduceMod, Nat.reduceDiv, Nat.reduceSub, Nat.reduceLeDiff, Nat.reduceMul, Nat.reduceAdd, h13]
      · simp (maxSteps := 4000000) only [go_sem, ↓reduceIte, reduceCtorEq, Nat.reduceEqDiff, Nat.reduceBEq, Nat.reduceAdd, Nat.reduceSub, Nat.reduceMul, Nat.reduceLT, Nat.reduceLeDiff, Nat.reduceBNe, Int.reduceBEq, Int.reduceBNe, Int.reduceLT, Int.reduceLE, Msg.a, Par.a, evG, evP, Nat.reduceMod, Nat.reduceDiv, Nat.reduceSub, Nat.reduceLeDiff, Nat.reduceMul, Nat.reduceAdd, h16]
    · have n2 : hiG 0 (l.take i ++ [x]) = H := by rw [nS]; unfold hiS; rw [if_neg (by omega)]
      (repeat (first | simp (maxSteps := 4000000) only [go_sem, ↓reduceIte, reduceCtorEq, Nat.reduceEqDiff, Nat.reduceBEq, Nat.reduceAdd, Nat.reduceSub, Nat.reduceMul, Nat.reduceLT, Nat.reduceLeDiff, Nat.reduceBNe, Int.reduceBEq, Int.reduceBNe, Int.reduceLT, Int.reduceLE, Msg.a, Par.a, evG, evP, Nat.reduceMod, Nat.reduceDiv, Nat.reduceSub, Nat.reduceLeDiff, Nat.reduceMul, Nat.reduceAdd, t0, t2, t3, t4, h2, h3, g7, g8, h13, h16, hlt', hlt, hge, w0, w1, w2, w3, w4, w5, q0, hh, hh', h6, List.length_map, Int.toNat_natCast] | refine calling (cb) ?_ | refine callingH (cb) ?_ | refine And.intro (by omega) ?_ | refine And.intro (fun d hd => by (repeat (rcases hd with rfl | hd; · exact ⟨rfl, rfl⟩)); cases hd) ?_))
      (repeat refine And.intro (by omega) ?_)
      refine fin _ ?_ ?_ ?_ ?_ ?_ ?_ ?_ ?_ ?_ ?_
      · simp (maxSteps := 4000000) only [go_sem, ↓reduceIte, reduceCtorEq, Nat.reduceEqDiff, Nat.reduceBEq, Nat.reduceAdd, Nat.reduceSub, Nat.reduceMul, Nat.reduceLT, Nat.reduceLeDiff, Nat.reduceBNe, Int.reduceBEq, Int.reduceBNe, Int.reduceLT, Int.reduceLE, Msg.a, Par.a, evG, evP, Nat.reduceMod, Nat.reduceDiv, Nat.reduceSub, Nat.reduceLeDiff, Nat.reduceMul, Nat.reduceAdd, t0]
      · simp (maxSteps := 4000000) only [go_sem, ↓reduceIte, reduceCtorEq, Nat.reduceEqDiff, Nat.reduceBEq, Nat.reduceAdd, Nat.reduceSub, Nat.reduceMul, Nat.reduceLT, Nat.reduceLeDiff, Nat.reduceBNe, Int.reduceBEq, Int.reduceBNe, Int.reduceLT, Int.reduceLE, Msg.a, Par.a, evG, evP, Nat.reduceMod, Nat.reduceDiv, Nat.reduceSub, Nat.reduceLeDiff, Nat.reduceMul, Nat.reduceAdd, t2]
      · simp (maxSteps := 4000000) only [go_sem, ↓reduceIte, reduceCtorEq, Nat.reduceEqDiff, Nat.reduceBEq, Nat.reduceAdd, Nat.reduceSub, Nat.reduceMul, Nat.reduceLT, Nat.reduceLeDiff, Nat.reduceBNe, Int.reduceBEq, Int.reduceBNe, Int.reduceLT, Int.reduceLE, Msg.a, Par.a, evG, evP, Nat.reduceMod, Nat.reduceDiv, Nat.reduceSub, Nat.reduceLeDiff, Nat.reduceMul, Nat.reduceAdd, t3]
      · simp (maxSteps := 4000000) only [go_sem, ↓reduceIte, reduceCtorEq, Nat.reduceEqDiff, Nat.reduceBEq, Nat.reduceAdd, Nat.reduceSub, Nat.reduceMul, Nat.reduceLT, Nat.reduceLeDiff, Nat.reduceBNe, Int.reduceBEq, Int.reduceBNe, Int.reduceLT, Int.reduceLE, Msg.a, Par.a, evG, evP, Nat.reduceMod, Nat.reduceDiv, Nat.reduceSub, Nat.reduceLeDiff, Nat.reduceMul, Nat.reduceAdd]
      · (simp (maxSteps := 4000000) only [go_sem, ↓reduceIte, reduceCtorEq, Nat.reduceEqDiff, Nat.reduceBEq, Nat.reduceAdd, Nat.reduceSub, Nat.reduceMul, Nat.reduceLT, Nat.reduceLeDiff, Nat.reduceBNe, Int.reduceBEq, Int.reduceBNe, Int.reduceLT, Int.reduceLE, Msg.a, Par.a, evG, evP, Nat.reduceMod, Nat.reduceDiv, Nat.reduceSub, Nat.reduceLeDiff, Nat.reduceMul, Nat.reduceAdd, h2]) <;> rfl
      · rw [tk]; unfold cellG; rw [n1, n2, n3, n4, n5, n6]; (simp (maxSteps := 4000000) only [go_sem, ↓reduceIte, reduceCtorEq, Nat.reduceEqDiff, Nat.reduceBEq, Nat.reduceAdd, Nat.reduceSub, Nat.reduceMul, Nat.reduceLT, Nat.reduceLeDiff, Nat.reduceBNe, Int.reduceBEq, Int.reduceBNe, Int.reduceLT, Int.reduceLE, Msg.a, Par.a, evG, evP, Nat.reduceMod, Nat.reduceDiv, Nat.reduceSub, Nat.reduceLeDiff, Nat.reduceMul, Nat.reduceAdd, h3]) <;> rfl
      · simp (maxSteps := 4000000) only [go_sem, ↓reduceIte, reduceCtorEq, Nat.reduceEqDiff, Nat.reduceBEq, Nat.reduceAdd, Nat.reduceSub, Nat.reduceMul, Nat.reduceLT, Nat.reduceLeDiff, Nat.reduceBNe, Int.reduceBEq, Int.reduceBNe, Int.reduceLT, Int.reduceLE, Msg.a, Par.a, evG, evP, Nat.reduceMod, Nat.reduceDiv, Nat.reduceSub, Nat.reduceLeDiff, Nat.reduceMul, Nat.reduceAdd, g7]
      · simp (maxSteps := 4000000) only [go_sem, ↓reduceIte, reduceCtorEq, Nat.reduceEqDiff, Nat.reduceBEq, Nat.reduceAdd, Nat.reduceSub, Nat.reduceMul, Nat.reduceLT, Nat.reduceLeDiff, Nat.reduceBNe, Int.reduceBEq, Int.reduceBNe, Int.reduceLT, Int.reduceLE, Msg.a, Par.a, evG, evP, Nat.reduceMod, Nat.reduceDiv, Nat.reduceSub, Nat.reduceLeDiff, Nat.reduceMul, Nat.reduceAdd, g8]
      · simp (maxSteps := 4000000) only [go_sem, ↓reduceIte, reduceCtorEq, Nat.reduceEqDiff, Nat.reduceBEq, Nat.reduceAdd, Nat.reduceSub, Nat.reduceMul, Nat.reduceLT, Nat.reduceLeDiff, Nat.reduceBNe, Int.reduceBEq, Int.reduceBNe, Int.reduceLT, Int.reduceLE, Msg.a, Par.a, evG, evP, Nat.reduceMod, Nat.reduceDiv, Nat.reduceSub, Nat.reduceLeDiff, Nat.reduceMul, Nat.reduceAdd, h13]
      · simp (maxSteps := 4000000) only [go_sem, ↓reduceIte, reduceCtorEq, Nat.reduceEqDiff, Nat.reduceBEq, Nat.reduceAdd, Nat.reduceSub, Nat.reduceMul, Nat.reduceLT, Nat.reduceLeDiff, Nat.reduceBNe, Int.reduceBEq, Int.reduceBNe, Int.reduceLT, Int.reduceLE, Msg.a, Par.a, evG, evP, Nat.reduceMod, Nat.reduceDiv, Nat.reduceSub, Nat.reduceLeDiff, Nat.reduceMul, Nat.reduceAdd, h16]
  have q0 : (x.level == 0) = true := by simp [hz]
  have n1 : lvs (l.take i ++ [x]) = lvs (l.take i) + 1 := by unfold lvs; rw [List.countP_append, List.countP_singleton, q0]; rfl
  rw [hz] at hge
  have z0 : ((0 : Int) == 0) = true := rfl
  have z6 : (0 : Int) ≤ 60 := by decide
  have wz : IntKind.i64.wrap ((0 : Int) + 1) = 1 := rfl
  by_cases hrw : x.rows.length = 0
  · have r0 : ((x.rows.length : Int) == 0) = true := by rw [hrw]; rfl
    have r0' : (x.rows.length == 0) = true := beq_iff_eq.2 hrw
    have n6 : emp (l.take i ++ [x]) = emp (l.take i) + 1 := by
      unfold emp
      rw [List.countP_append, List.countP_singleton, q0, r0']; rfl
    by_cases hh : 0 < H
    · have hh' : ¬ (0 : Int) ≥ (H : Int) := by omega
      have hh2 : ¬ (H : Int) ≤ (0 : Int) := by omega
      have n2 : hiG 0 (l.take i ++ [x]) = H := by rw [nS]; unfold hiS; split <;> omega
      (repeat (first | simp (maxSteps := 4000000) only [go_sem, ↓reduceIte, reduceCtorEq, Nat.reduceEqDiff, Nat.reduceBEq, Nat.reduceAdd, Nat.reduceSub, Nat.reduceMul, Nat.reduceLT, Nat.reduceLeDiff, Nat.reduceBNe, Int.reduceBEq, Int.reduceBNe, Int.reduceLT, Int.reduceLE, Msg.a, Par.a, evG, evP, Nat.reduceMod, Nat.reduceDiv, Nat.reduceSub, Nat.reduceLeDiff, Nat.reduceMul, Nat.reduceAdd, t0, t2, t3, t4, h2, h3, g7, g8, h13, h16, hlt', hlt, hge, w0, w1, w2, w3, w4, w5, z0, z6, r0, hh', hh2, List.length_map, Int.toNat_natCast] | refine calling (cb) ?_ | refine callingH (cb) ?_ | refine And.intro (by omega) ?_ | refine And.intro (fun d hd => by (repeat (rcases hd with rfl | hd; · exact ⟨rfl, rfl⟩)); cases hd) ?_))
      (repeat refine And.intro (by omega) ?_)
      refine fin _ ?_ ?_ ?_ ?_ ?_ ?_ ?_ ?_ ?_ ?_
      · simp (maxSteps := 4000000) only [go_sem, ↓reduceIte, reduceCtorEq, Nat.reduceEqDiff, Nat.reduceBEq, Nat.reduceAdd, Nat.reduceSub, Nat.reduceMul, Nat.reduceLT, Nat.reduceLeDiff, Nat.reduceBNe, Int.reduceBEq, Int.reduceBNe, Int.reduceLT, Int.reduceLE, Msg.a, Par.a, evG, evP, Nat.reduceMod, Nat.reduceDiv, Nat.reduceSub, Nat.reduceLeDiff, Nat.reduceMul, Nat.reduceAdd, t0]
      · simp (maxSteps := 4000000) only [go_sem, ↓reduceIte, reduceCtorEq, Nat.reduceEqDiff, Nat.reduceBEq, Nat.reduceAdd, Nat.reduceSub, Nat.reduceMul, Nat.reduceLT, Nat.reduceLeDiff, Nat.reduceBNe, Int.reduceBEq, Int.reduceBNe, Int.reduceLT, Int.reduceLE, Msg.a, Par.a, evG, evP, Nat.reduceMod, Nat.reduceDiv, Nat.reduceSub, Nat.reduceLeDiff, Nat.reduceMul, Nat.reduceAdd, t2]
      · simp (maxSteps := 4000000) only [go_sem, ↓reduceIte, reduceCtorEq, Nat.reduceEqDiff, Nat.reduceBEq, Nat.reduceAdd, Nat.reduceSub, Nat.reduceMul, Nat.reduceLT, Nat.reduceLeDiff, Nat.reduceBNe, Int.reduceBEq, Int.reduceBNe, Int.reduceLT, Int.reduceLE, Msg.a, Par.a, evG, evP, Nat.reduceMod, Nat.reduceDiv, Nat.reduceSub, Nat.reduceLeDiff, Nat.reduceMul, Nat.reduceAdd, t3]
      · simp (maxSteps := 4000000) only [go_sem, ↓reduceIte, reduceCtorEq, Nat.reduceEqDiff, Nat.reduceBEq, Nat.reduceAdd, Nat.reduceSub, Nat.reduceMul, Nat.reduceLT, Nat.reduceLeDiff, Nat.reduceBNe, Int.reduceBEq, Int.reduceBNe, Int.reduceLT, Int.reduceLE, Msg.a, Par.a, evG, evP, Nat.reduceMod, Nat.reduceDiv, Nat.reduceSub, Nat.reduceLeDiff, Nat.reduceMul, Nat.reduceAdd]
      · (simp (maxSteps := 4000000) only [go_sem, ↓reduceIte, reduceCtorEq, Nat.reduceEqDiff, Nat.reduceBEq, Nat.reduceAdd, Nat.reduceSub, Nat.reduceMul, Nat.reduceLT, Nat.reduceLeDiff, Nat.reduceBNe, Int.reduceBEq, Int.reduceBNe, Int.reduceLT, Int.reduceLE, Msg.a, Par.a, evG, evP, Nat.reduceMod, Nat.reduceDiv, Nat.reduceSub, Nat.reduceLeDiff, Nat.reduceMul, Nat.reduceAdd, h2]) <;> rfl
      · rw [tk]; unfold cellG; rw [n1, n2, n3, n4, n5, n6]; (simp (maxSteps := 4000000) only [go_sem, ↓reduceIte, reduceCtorEq, Nat.reduceEqDiff, Nat.reduceBEq, Nat.reduceAdd, Nat.reduceSub, Nat.reduceMul, Nat.reduceLT, Nat.reduceLeDiff, Nat.reduceBNe, Int.reduceBEq, Int.reduceBNe, Int.reduceLT, Int.reduceLE, Msg.a, Par.a, evG, evP, Nat.reduceMod, Nat.reduceDiv, Nat.reduceSub, Nat.reduceLeDiff, Nat.reduceMul, Nat.reduceAdd, h3]) <;> rfl
      · simp (maxSteps := 4000000) only [go_sem, ↓reduceIte, reduceCtorEq, Nat.reduceEqDiff, Nat.reduceBEq, Nat.reduceAdd, Nat.reduceSub, Nat.reduceMul, Nat.reduceLT, Nat.reduceLeDiff, Nat.reduceBNe, Int.reduceBEq, Int.reduceBNe, Int.reduceLT, Int.reduceLE, Msg.a, Par.a, evG, evP, Nat.reduceMod, Nat.reduceDiv, Nat.reduceSub, Nat.reduceLeDiff, Nat.reduceMul, Nat.reduceAdd, g7]
      · simp (maxSteps := 4000000) only [go_sem, ↓reduceIte, reduceCtorEq, Nat.reduceEqDiff, Nat.reduceBEq, Nat.reduceAdd, Nat.reduceSub, Nat.reduceMul, Nat.reduceLT, Nat.reduceLeDiff, Nat.reduceBNe, Int.reduceBEq, Int.reduceBNe, Int.reduceLT, Int.reduceLE, Msg.a, Par.a, evG, evP, Nat.reduceMod, Nat.reduceDiv, Nat.reduceSub, Nat.reduceLeDiff, Nat.reduceMul, Nat.reduceAdd, g8]
      · simp (maxSteps := 4000000) only [go_sem, ↓reduceIte, reduceCtorEq, Nat.reduceEqDiff, Nat.reduceBEq, Nat.reduceAdd, Nat.reduceSub, Nat.reduceMul, Nat.reduceLT, Nat.reduceLeDiff, Nat.reduceBNe, Int.reduceBEq, Int.reduceBNe, Int.reduceLT, Int.reduceLE, Msg.a, Par.a, evG, evP, Nat.reduceMod, Nat.reduceDiv, Nat.reduceSub, Nat.reduceLeDiff, Nat.reduceMul, Nat.reduceAdd, h13]
      · simp (maxSteps := 4000000) only [go_sem, ↓reduceIte, reduceCtorEq, Nat.reduceEqDiff, Nat.reduceBEq, Nat.reduceAdd, Nat.reduceSub, Nat.reduceMul, Nat.reduceLT, Nat.reduceLeDiff, Nat.reduceBNe, Int.reduceBEq, Int.reduceBNe, Int.reduceLT, Int.reduceLE, Msg.a, Par.a, evG, evP, Nat.reduceMod, Nat.reduceDiv, Nat.reduceSub, Nat.reduceLeDiff, Nat.reduceMul, Nat.reduceAdd, h16]
    · have hh' : (0 : Int) ≥ (H : Int) := by omega
      have hh2 : (H : Int) ≤ (0 : Int) := by omega
      have n2 : hiG 0 (l.take i ++ [x]) = 1 := by rw [nS]; unfold hiS; rw [hz, if_pos ⟨Int.le_refl 0, z6⟩]; show max H (0 + 1) = 1; omega
      (repeat (first | simp (maxSteps := 4000000) only [go_sem, ↓reduceIte, reduceCtorEq, Nat.reduceEqDiff, Nat.reduceBEq, Nat.reduceAdd, Nat.reduceSub, Nat.reduceMul, Nat.reduceLT, Nat.reduceLeDiff, Nat.reduceBNe, Int.reduceBEq, Int.reduceBNe, Int.reduceLT, Int.reduceLE, Msg.a, Par.a, evG, evP, Nat.reduceMod, Nat.reduceDiv, Nat.reduceSub, Nat.reduceLeDiff, Nat.reduceMul, Nat.reduceAdd, t0, t2, t3, t4, h2, h3, g7, g8, h13, h16, hlt', hlt, hge, w0, w1, w2, w3, w4, w5, z0, z6, wz, r0, hh', hh2, List.length_map, Int.toNat_natCast] | refine calling (cb) ?_ | refine callingH (cb) ?_ | refine And.intro (by omega) ?_ | refine And.intro (fun d hd => by (repeat (rcases hd with rfl | hd; · exact ⟨rfl, rfl⟩)); cases hd) ?_))
      (repeat refine And.intro (by omega) ?_)
      refine fin _ ?_ ?_ ?_ ?_ ?_ ?_ ?_ ?_ ?_ ?_
      · simp (maxSteps := 4000000) only [go_sem, ↓reduceIte, reduceCtorEq, Nat.reduceEqDiff, Nat.reduceBEq, Nat.reduceAdd, Nat.reduceSub, Nat.reduceMul, Nat.reduceLT, Nat.reduceLeDiff, Nat.reduceBNe, Int.reduceBEq, Int.reduceBNe, Int.reduceLT, Int.reduceLE, Msg.a, Par.a, evG, evP, Nat.reduceMod, Nat.reduceDiv, Nat.reduceSub, Nat.reduceLeDiff, Nat.reduceMul, Nat.reduceAdd, t0]
      · simp (maxSteps := 4000000) only [go_sem, ↓reduceIte, reduceCtorEq, Nat.reduceEqDiff, Nat.reduceBEq, Nat.reduceAdd, Nat.reduceSub, Nat.reduceMul, Nat.reduceLT, Nat.reduceLeDiff, Nat.reduceBNe, Int.reduceBEq, Int.reduceBNe, Int.reduceLT, Int.reduceLE, Msg.a, Par.a, evG, evP, Nat.reduceMod, Nat.reduceDiv, Nat.reduceSub, Nat.reduceLeDiff, Nat.reduceMul, Nat.reduceAdd, t2]
      · simp (maxSteps := 4000000) only [go_sem, ↓reduceIte, reduceCtorEq, Nat.reduceEqDiff, Nat.reduceBEq, Nat.reduceAdd, Nat.reduceSub, Nat.reduceMul, Nat.reduceLT, Nat.reduceLeDiff, Nat.reduceBNe, Int.reduceBEq, Int.reduceBNe, Int.reduceLT, Int.reduceLE, Msg.a, Par.a, evG, evP, Nat.reduceMod, Nat.reduceDiv, Nat.reduceSub, Nat.reduceLeDiff, Nat.reduceMul, Nat.reduceAdd, t3]
      · simp (maxSteps := 4000000) only [go_sem, ↓reduceIte, reduceCtorEq, Nat.reduceEqDiff, Nat.reduceBEq, Nat.reduceAdd, Nat.reduceSub, Nat.reduceMul, Nat.reduceLT, Nat.reduceLeDiff, Nat.reduceBNe, Int.reduceBEq, Int.reduceBNe, Int.reduceLT, Int.reduceLE, Msg.a, Par.a, evG, evP, Nat.reduceMod, Nat.reduceDiv, Nat.reduceSub, Nat.reduceLeDiff, Nat.reduceMul, Nat.reduceAdd]
      · (simp (maxSteps := 4000000) only [go_sem, ↓reduceIte, reduceCtorEq, Nat.reduceEqDiff, Nat.reduceBEq, Nat.reduceAdd, Nat.reduceSub, Nat.reduceMul, Nat.reduceLT, Nat.reduceLeDiff, Nat.reduceBNe, Int.reduceBEq, Int.reduceBNe, Int.reduceLT, Int.reduceLE, Msg.a, Par.a, evG, evP, Nat.reduceMod, Nat.reduceDiv, Nat.reduceSub, Nat.reduceLeDiff, Nat.reduceMul, Nat.reduceAdd, h2]) <;> rfl
      · rw [tk]; unfold cellG; rw [n1, n2, n3, n4, n5, n6]; (simp (maxSteps := 4000000) only [go_sem, ↓reduceIte, reduceCtorEq, Nat.reduceEqDiff, Nat.reduceBEq, Nat.reduceAdd, Nat.reduceSub, Nat.reduceMul, Nat.reduceLT, Nat.reduceLeDiff, Nat.reduceBNe, Int.reduceBEq, Int.reduceBNe, Int.reduceLT, Int.reduceLE, Msg.a, Par.a, evG, evP, Nat.reduceMod, Nat.reduceDiv, Nat.reduceSub, Nat.reduceLeDiff, Nat.reduceMul, Nat.reduceAdd, h3]) <;> rfl
      · simp (maxSteps := 4000000) only [go_sem, ↓reduceIte, reduceCtorEq, Nat.reduceEqDiff, Nat.reduceBEq, Nat.reduceAdd, Nat.reduceSub, Nat.reduceMul, Nat.reduceLT, Nat.reduceLeDiff, Nat.reduceBNe, Int.reduceBEq, Int.reduceBNe, Int.reduceLT, Int.reduceLE, Msg.a, Par.a, evG, evP, Nat.reduceMod, Nat.reduceDiv, Nat.reduceSub, Nat.reduceLeDiff, Nat.reduceMul, Nat.reduceAdd, g7]
      · simp (maxSteps := 4000000) only [go_sem, ↓reduceIte, reduceCtorEq, Nat.reduceEqDiff, Nat.reduceBEq, Nat.reduceAdd, Nat.reduceSub, Nat.reduceMul, Nat.reduceLT, Nat.reduceLeDiff, Nat.reduceBNe, Int.reduceBEq, Int.reduceBNe, Int.reduceLT, Int.reduceLE, Msg.a, Par.a, evG, evP, Nat.reduceMod, Nat.reduceDiv, Nat.reduceSub, Nat.reduceLeDiff, Nat.reduceMul, Nat.reduceAdd, g8]
      · simp (maxSteps := 4000000) only [go_sem, ↓reduceIte, reduceCtorEq, Nat.reduceEqDiff, Nat.reduceBEq, Nat.reduceAdd, Nat.reduceSub, Nat.reduceMul, Nat.reduceLT, Nat.reduceLeDiff, Nat.reduceBNe, Int.reduceBEq, Int.reduceBNe, Int.reduceLT, Int.reduceLE, Msg.a, Par.a, evG, evP, Nat.reduceMod, Nat.reduceDiv, Nat.reduceSub, Nat.reduceLeDiff, Nat.reduceMul, Nat.reduceAdd, h13]
      · simp (maxSteps := 4000000) only [go_sem, ↓reduceIte, reduceCtorEq, Nat.reduceEqDiff, Nat.reduceBEq, Nat.reduceAdd, Nat.reduceSub, Nat.reduceMul, Nat.reduceLT, Nat.reduceLeDiff, Nat.reduceBNe, Int.reduceBEq, Int.reduceBNe, Int.reduceLT, Int.reduceLE, Msg.a, Par.a, evG, evP, Nat.reduceMod, Nat.reduceDiv, Nat.reduceSub, Nat.reduceLeDiff, Nat.reduceMul, Nat.reduceAdd, h16]
  · have r0 : ((x.rows.length : Int) == 0) = false := beq_eq_false_iff_ne.2 (by omega)
    have r0' : (x.rows.length == 0) = false := beq_eq_false_iff_ne.2 hrw
    have n6 : emp (l.take i ++ [x]) = emp (l.take i) := by
      unfold emp
      rw [List.countP_append, List.countP_singleton, q0, r0']; rfl
    by_cases hh : 0 < H
    · have hh' : ¬ (0 : Int) ≥ (H : Int) := by omega
      have hh2 : ¬ (H : Int) ≤ (0 : Int) := by omega
      have n2 : hiG 0 (l.take i ++ [x]) = H := by rw [nS]; unfold hiS; split <;> omega
      (repeat (first | simp (maxSteps := 4000000) only [go_sem, ↓reduceIte, reduceCtorEq, Nat.reduceEqDiff, Nat.reduceBEq, Nat.reduceAdd, Nat.reduceSub, Nat.reduceMul, Nat.reduceLT, Nat.reduceLeDiff, Nat.reduceBNe, Int.reduceBEq, Int.reduceBNe, Int.reduceLT, Int.reduceLE, Msg.a, Par.a, evG, evP, Nat.reduceMod, Nat.reduceDiv, Nat.reduceSub, Nat.reduceLeDiff, Nat.reduceMul, Nat.reduceAdd, t0, t2, t3, t4, h2, h3, g7, g8, h13, h16, hlt', hlt, hge, w0, w1, w2, w3, w4, w5, z0, z6, r0, hh', hh2, List.length_map, Int.toNat_natCast] | refine calling (cb) ?_ | refine callingH (cb) ?_ | refine And.intro (by omega) ?_ | refine And.intro (fun d hd => by (repeat (rcases hd with rfl | hd; · exact ⟨rfl, rfl⟩)); cases hd) ?_))
      (repeat refine And.intro (by omega) ?_)
      refine fin _ ?_ ?_ ?_ ?_ ?_ ?_ ?_ ?_ ?_ ?_
      · simp (maxSteps := 4000000) only [go_sem, ↓reduceIte, reduceCtorEq, Nat.reduceEqDiff, Nat.reduceBEq, Nat.reduceAdd, Nat.reduceSub, Nat.reduceMul, Nat.reduceLT, Nat.reduceLeDiff, Nat.reduceBNe, Int.reduceBEq, Int.reduceBNe, Int.reduceLT, Int.reduceLE, Msg.a, Par.a, evG, evP, Nat.reduceMod, Nat.reduceDiv, Nat.reduceSub, Nat.reduceLeDiff, Nat.reduceMul, Nat.reduceAdd, t0]
      · simp (maxSteps := 4000000) only [go_sem, ↓reduceIte, reduceCtorEq, Nat.reduceEqDiff, Nat.reduceBEq, Nat.reduceAdd, Nat.reduceSub, Nat.reduceMul, Nat.reduceLT, Nat.reduceLeDiff, Nat.reduceBNe, Int.reduceBEq, Int.reduceBNe, Int.reduceLT, Int.reduceLE, Msg.a, Par.a, evG, evP, Nat.reduceMod, Nat.reduceDiv, Nat.reduceSub, Nat.reduceLeDiff, Nat.reduceMul, Nat.reduceAdd, t2]
      · simp (maxSteps := 4000000) only [go_sem, ↓reduceIte, reduceCtorEq, Nat.reduceEqDiff, Nat.reduceBEq, Nat.reduceAdd, Nat.reduceSub, Nat.reduceMul, Nat.reduceLT, Nat.reduceLeDiff, Nat.reduceBNe, Int.reduceBEq, Int.reduceBNe, Int.reduceLT, Int.reduceLE, Msg.a, Par.a, evG, evP, Nat.reduceMod, Nat.reduceDiv, Nat.reduceSub, Nat.reduceLeDiff, Nat.reduceMul, Nat.reduceAdd, t3]
      · simp (maxSteps := 4000000) only [go_sem, ↓reduceIte, reduceCtorEq, Nat.reduceEqDiff, Nat.reduceBEq, Nat.reduceAdd, Nat.reduceSub, Nat.reduceMul, Nat.reduceLT, Nat.reduceLeDiff, Nat.reduceBNe, Int.reduceBEq, Int.reduceBNe, Int.reduceLT, Int.reduceLE, Msg.a, Par.a, evG, evP, Nat.reduceMod, Nat.reduceDiv, Nat.reduceSub, Nat.reduceLeDiff, Nat.reduceMul, Nat.reduceAdd]
      · (simp (maxSteps := 4000000) only [go_sem, ↓reduceIte, reduceCtorEq, Nat.reduceEqDiff, Nat.reduceBEq, Nat.reduceAdd, Nat.reduceSub, Nat.reduceMul, Nat.reduceLT, Nat.reduceLeDiff, Nat.reduceBNe, Int.reduceBEq, Int.reduceBNe, Int.reduceLT, Int.reduceLE, Msg.a, Par.a, evG, evP, Nat.reduceMod, Nat.reduceDiv, Nat.reduceSub, Nat.reduceLeDiff, Nat.reduceMul, Nat.reduceAdd, h2]) <;> rfl
      · rw [tk]; unfold cellG; rw [n1, n2, n3, n4, n5, n6]; (simp (maxSteps := 4000000) only [go_sem, ↓reduceIte, reduceCtorEq, Nat.reduceEqDiff, Nat.reduceBEq, Nat.reduceAdd, Nat.reduceSub, Nat.reduceMul, Nat.reduceLT, Nat.reduceLeDiff, Nat.reduceBNe, Int.reduceBEq, Int.reduceBNe, Int.reduceLT, Int.reduceLE, Msg.a, Par.a, evG, evP, Nat.reduceMod, Nat.reduceDiv, Nat.reduceSub, Nat.reduceLeDiff, Nat.reduceMul, Nat.reduceAdd, h3]) <;> rfl
      · simp (maxSteps := 4000000) only [go_sem, ↓reduceIte, reduceCtorEq, Nat.reduceEqDiff, Nat.reduceBEq, Nat.reduceAdd, Nat.reduceSub, Nat.reduceMul, Nat.reduceLT, Nat.reduceLeDiff, Nat.reduceBNe, Int.reduceBEq, Int.reduceBNe, Int.reduceLT, Int.reduceLE, Msg.a, Par.a, evG, evP, Nat.reduceMod, Nat.reduceDiv, Nat.reduceSub, Nat.reduceLeDiff, Nat.reduceMul, Nat.reduceAdd, g7]
      · simp (maxSteps := 4000000) only [go_sem, ↓reduceIte, reduceCtorEq, Nat.reduceEqDiff, Nat.reduceBEq, Nat.reduceAdd, Nat.reduceSub, Nat.reduceMul, Nat.reduceLT, Nat.reduceLeDiff, Nat.reduceBNe, Int.reduceBEq, Int.reduceBNe, Int.reduceLT, Int.reduceLE, Msg.a, Par.a, evG, evP, Nat.reduceMod, Nat.reduceDiv, Nat.reduceSub, Nat.reduceLeDiff, Nat.reduceMul, Nat.reduceAdd, g8]
      · simp (maxSteps := 4000000) only [go_sem, ↓reduceIte, reduceCtorEq, Nat.reduceEqDiff, Nat.reduceBEq, Nat.reduceAdd, Nat.reduceSub, Nat.reduceMul, Nat.reduceLT, Nat.reduceLeDiff, Nat.reduceBNe, Int.reduceBEq, Int.reduceBNe, Int.reduceLT, Int.reduceLE, Msg.a, Par.a, evG, evP, Nat.reduceMod, Nat.reduceDiv, Nat.reduceSub, Nat.reduceLeDiff, Nat.reduceMul, Nat.reduceAdd, h13]
      · simp (maxSteps := 4000000) only [go_sem, ↓reduceIte, reduceCtorEq, Nat.reduceEqDiff, Nat.reduceBEq, Nat.reduceAdd, Nat.reduceSub, Nat.reduceMul, Nat.reduceLT, Nat.reduceLeDiff, Nat.reduceBNe, Int.reduceBEq, Int.reduceBNe, Int.reduceLT, Int.reduceLE, Msg.a, Par.a, evG, evP, Nat.reduceMod, Nat.reduceDiv, Nat.reduceSub, Nat.reduceLeDiff, Nat.reduceMul, Nat.reduceAdd, h16]
    · have hh' : (0 : Int) ≥ (H : Int) := by omega
      have hh2 : (H : Int) ≤ (0 : Int) := by omega
      have n2 : hiG 0 (l.take i ++ [x]) = 1 := by rw [nS]; unfold hiS; rw [hz, if_pos ⟨Int.le_refl 0, z6⟩]; show max H (0 + 1) = 1; omega
      (repeat (first | simp (maxSteps := 4000000) only [go_sem, ↓reduceIte, reduceCtorEq, Nat.reduceEqDiff, Nat.reduceBEq, Nat.reduceAdd, Nat.reduceSub, Nat.reduceMul, Nat.reduceLT, Nat.reduceLeDiff, Nat.reduceBNe, Int.reduceBEq, Int.reduceBNe, Int.reduceLT, Int.reduceLE, Msg.a, Par.a, evG, evP, Nat.reduceMod, Nat.reduceDiv, Nat.reduceSub, Nat.reduceLeDiff, Nat.reduceMul, Nat.reduceAdd, t0, t2, t3, t4, h2, h3, g7, g8, h13, h16, hlt', hlt, hge, w0, w1, w2, w3, w4, w5, z0, z6, wz, r0, hh', hh2, List.length_map, Int.toNat_natCast] | refine calling (cb) ?_ | refine callingH (cb) ?_ | refine And.intro (by omega) ?_ | refine And.intro (fun d hd => by (repeat (rcases hd with rfl | hd; · exact ⟨rfl, rfl⟩)); cases hd) ?_))
      (repeat refine And.intro (by omega) ?_)
      refine fin _ ?_ ?_ ?_ ?_ ?_ ?_ ?_ ?_ ?_ ?_
      · simp (maxSteps := 4000000) only [go_sem, ↓reduceIte, reduceCtorEq, Nat.reduceEqDiff, Nat.reduceBEq, Nat.reduceAdd, Nat.reduceSub, Nat.reduceMul, Nat.reduceLT, Nat.reduceLeDiff, Nat.reduceBNe, Int.reduceBEq, Int.reduceBNe, Int.reduceLT, Int.reduceLE, Msg.a, Par.a, evG, evP, Nat.reduceMod, Nat.reduceDiv, Nat.reduceSub, Nat.reduceLeDiff, Nat.reduceMul, Nat.reduceAdd, t0]
      · simp (maxSteps := 4000000) only [go_sem, ↓reduceIte, reduceCtorEq, Nat.reduceEqDiff, Nat.reduceBEq, Nat.reduceAdd, Nat.reduceSub, Nat.reduceMul, Nat.reduceLT, Nat.reduceLeDiff, Nat.reduceBNe, Int.reduceBEq, Int.reduceBNe, Int.reduceLT, Int.reduceLE, Msg.a, Par.a, evG, evP, Nat.reduceMod, Nat.reduceDiv, Nat.reduceSub, Nat.reduceLeDiff, Nat.reduceMul, Nat.reduceAdd, t2]
      · simp (maxSteps := 4000000) only [go_sem, ↓reduceIte, reduceCtorEq, Nat.reduceEqDiff, Nat.reduceBEq, Nat.reduceAdd, Nat.reduceSub, Nat.reduceMul, Nat.reduceLT, Nat.reduceLeDiff, Nat.reduceBNe, Int.reduceBEq, Int.reduceBNe, Int.reduceLT, Int.reduceLE, Msg.a, Par.a, evG, evP, Nat.reduceMod, Nat.reduceDiv, Nat.reduceSub, Nat.reduceLeDiff, Nat.reduceMul, Nat.reduceAdd, t3]
      · simp (maxSteps := 4000000) only [go_sem, ↓reduceIte, reduceCtorEq, Nat.reduceEqDiff, Nat.reduceBEq, Nat.reduceAdd, Nat.reduceSub, Nat.reduceMul, Nat.reduceLT, Nat.reduceLeDiff, Nat.reduceBNe, Int.reduceBEq, Int.reduceBNe, Int.reduceLT, Int.reduceLE, Msg.a, Par.a, evG, evP, Nat.reduceMod, Nat.reduceDiv, Nat.reduceSub, Nat.reduceLeDiff, Nat.reduceMul, Nat.reduceAdd]
      · (simp (maxSteps := 4000000) only [go_sem, ↓reduceIte, reduceCtorEq, Nat.reduceEqDiff, Nat.reduceBEq, Nat.reduceAdd, Nat.reduceSub, Nat.reduceMul, Nat.reduceLT, Nat.reduceLeDiff, Nat.reduceBNe, Int.reduceBEq, Int.reduceBNe, Int.reduceLT, Int.reduceLE, Msg.a, Par.a, evG, evP, Nat.reduceMod, Nat.reduceDiv, Nat.reduceSub, Nat.reduceLeDiff, Nat.reduceMul, Nat.reduceAdd, h2]) <;> rfl
      · rw [tk]; unfold cellG; rw [n1, n2, n3, n4, n5, n6]; (simp (maxSteps := 4000000) only [go_sem, ↓reduceIte, reduceCtorEq, Nat.reduceEqDiff, Nat.reduceBEq, Nat.reduceAdd, Nat.reduceSub, Nat.reduceMul, Nat.reduceLT, Nat.reduceLeDiff, Nat.reduceBNe, Int.reduceBEq, Int.reduceBNe, Int.reduceLT, Int.reduceLE, Msg.a, Par.a, evG, evP, Nat.reduceMod, Nat.reduceDiv, Nat.reduceSub, Nat.reduceLeDiff, Nat.reduceMul, Nat.reduceAdd, h3]) <;> rfl
      · simp (maxSteps := 4000000) only [go_sem, ↓reduceIte, reduceCtorEq, Nat.reduceEqDiff, Nat.reduceBEq, Nat.reduceAdd, Nat.reduceSub, Nat.reduceMul, Nat.reduceLT, Nat.reduceLeDiff, Nat.reduceBNe, Int.reduceBEq, Int.reduceBNe, Int.reduceLT, Int.reduceLE, Msg.a, Par.a, evG, evP, Nat.reduceMod, Nat.reduceDiv, Nat.reduceSub, Nat.reduceLeDiff, Nat.reduceMul, Nat.reduceAdd, g7]
      · simp (maxSteps := 4000000) only [go_sem, ↓reduceIte, reduceCtorEq, Nat.reduceEqDiff, Nat.reduceBEq, Nat.reduceAdd, Nat.reduceSub, Nat.reduceMul, Nat.reduceLT, Nat.reduceLeDiff, Nat.reduceBNe, Int.reduceBEq, Int.reduceBNe, Int.reduceLT, Int.reduceLE, Msg.a, Par.a, evG, evP, Nat.reduceMod, Nat.reduceDiv, Nat.reduceSub, Nat.reduceLeDiff, Nat.reduceMul, Nat.reduceAdd, g8]
      · simp (maxSteps := 4000000) only [go_sem, ↓reduceIte, reduceCtorEq, Nat.reduceEqDiff, Nat.reduceBEq, Nat.reduceAdd, Nat.reduceSub, Nat.reduceMul, Nat.reduceLT, Nat.reduceLeDiff, Nat.reduceBNe, Int.reduceBEq, Int.reduceBNe, Int.reduceLT, Int.reduceLE, Msg.a, Par.a, evG, evP, Nat.reduceMod, Nat.reduceDiv, Nat.reduceSub, Nat.reduceLeDiff, Nat.reduceMul, Nat.reduceAdd, h13]
      · simp (maxSteps := 4000000) only [go_sem, ↓reduceIte, reduceCtorEq, Nat.reduceEqDiff, Nat.reduceBEq, Nat.reduceAdd, Nat.reduceSub, Nat.reduceMul, Nat.reduceLT, Nat.reduceLeDiff, Nat.reduceBNe, Int.reduceBEq, Int.reduceBNe, Int.reduceLT, Int.reduceLE, Msg.a, Par.a, evG, evP, Nat.reduceMod, Nat.reduceDiv, Nat.reduceSub, Nat.reduceLeDiff, Nat.reduceMul, Nat.reduceAdd, h16]
def r2I (l : List Nd) (H : Nat) (k : Nat) (σ : St) : Prop :=
  ∃ (j : Nat) (u7 u8 : Value), j ≤ H ∧ k = H - j ∧ σ.T 0 = .sl (l.map Nd.a) ∧ σ.T 2 = .ptr 2 0 0 ∧ σ.T 3 = .ptr 3 0 0 ∧ σ.T 6 = .int .i64 j ∧ σ.H 2 = some ⟨9, 37, [cell0], 0⟩ ∧ σ.H 3 = some ⟨9, 37, [cellG l.length H l u7 u8], 0⟩ ∧
    σ.T 1307 = .vrs 531 0 j u7 ∧ σ.T 1308 = .vrs 524 0 j u8 ∧ σ.H 531 = some ⟨1, 3, (rngI j (cntL l)).map (AV.int .i64), 0⟩ ∧ σ.H 524 = some ⟨1, 3, (rngI j (msgL l)).map (AV.int .i64), 0⟩
def r3I (l : List Nd) (H j : Nat) (u7 u8 : Value) (k : Nat) (σ : St) : Prop :=
  ∃ i : Nat, i ≤ l.length ∧ k = l.length - i ∧ σ.T 0 = .sl (l.map Nd.a) ∧ σ.T 2 = .ptr 2 0 0 ∧ σ.T 3 = .ptr 3 0 0 ∧ σ.T 6 = .int .i64 j ∧ σ.T 7 = .int .i64 (cntL (l.take i) j : Nat) ∧ σ.T 8 = .int .i64 (msgL (l.take i) j : Nat) ∧ σ.T 9 = .int .i64 i ∧ σ.H 2 = some ⟨9, 37, [cell0], 0⟩ ∧ σ.H 3 = some ⟨9, 37, [cellG l.length H l u7 u8], 0⟩ ∧
    σ.T 1307 = .vrs 531 0 j u7 ∧ σ.T 1308 = .vrs 524 0 j u8 ∧ σ.H 531 = some ⟨1, 3, (rngI j (cntL l)).map (AV.int .i64), 0⟩ ∧ σ.H 524 = some ⟨1, 3, (rngI j (msgL l)).map (AV.int .i64), 0⟩
set_option maxHeartbeats 16000000 in
theorem r3_loop (l : List Nd) (hl : l.length ≤ 60) (hg : ∀ x, x ∈ l → x.Gd) (H j : Nat) (u7 u8 : Value) (Q : XK → St → Prop)
    (hEnd : ∀ σ, σ.T 0 = .sl (l.map Nd.a) → σ.T 2 = .ptr 2 0 0 → σ.T 3 = .ptr 3 0 0 → σ.T 6 = .int .i64 j → σ.T 7 = .int .i64 (cntL l j : Nat) → σ.T 8 = .int .i64 (msgL l j : Nat) → σ.H 2 = some ⟨9, 37, [cell0], 0⟩ → σ.H 3 = some ⟨9, 37, [cellG l.length H l u7 u8], 0⟩ → σ.T 1307 = .vrs 531 0 j u7 → σ.T 1308 = .vrs 524 0 j u8 → σ.H 531 = some ⟨1, 3, (rngI j (cntL l)).map (AV.int .i64), 0⟩ → σ.H 524 = some ⟨1, 3, (rngI j (msgL l)).map (AV.int .i64), 0⟩ → Q (.exit 4) σ) (k : Nat) (σ : St) (hI : r3I l H j u7 u8 k σ) :
    run (AFn Tryd.prog) r_rOf50_l25 (thenQ (fun σ' => ∃ m, m < k ∧ r3I l H j u7 u8 m σ') Q) σ := by
  obtain ⟨i, hi, rfl, t0, t2, t3, t6, t7, t8, t9, h2, h3, g7, g8, h13, h16⟩ := hI
  simp only [r_rOf50_l25]
  by_cases hlt : i < l.length
  case neg =>
    have hlt' : ¬ (i : Int) < (l.length : Int) := by omega
    have e : l.take i = l := List.take_of_length_le (by omega)
    rw [e] at t7 t8
    simp (maxSteps := 4000000) only [go_sem, ↓reduceIte, reduceCtorEq, Nat.reduceEqDiff, Nat.reduceBEq, Nat.reduceAdd, Nat.reduceSub, Nat.reduceMul, Nat.reduceLT, Nat.reduceLeDiff, Nat.reduceBNe, Int.reduceBEq, Int.reduceBNe, Int.reduceLT, Int.reduceLE, Msg.a, Par.a, evG, evP, Nat.reduceMod, Nat.reduceDiv, Nat.reduceSub, Nat.reduceLeDiff, Nat.reduceMul, Nat.reduceAdd, t0, t9, hlt', List.length_map]
    refine hEnd _ ?_ ?_ ?_ ?_ ?_ ?_ ?_ ?_ ?_ ?_ ?_ ?_
    · simp (maxSteps := 4000000) only [go_sem, ↓reduceIte, reduceCtorEq, Nat.reduceEqDiff, Nat.reduceBEq, Nat.reduceAdd, Nat.reduceSub, Nat.reduceMul, Nat.reduceLT, Nat.reduceLeDiff, Nat.reduceBNe, Int.reduceBEq, Int.reduceBNe, Int.reduceLT, Int.reduceLE, Msg.a, Par.a, evG, evP, Nat.reduceMod, Nat.reduceDiv, Nat.reduceSub, Nat.reduceLeDiff, Nat.reduceMul, Nat.reduceAdd, t0]
    · simp (maxSteps := 4000000) only [go_sem, ↓reduceIte, reduceCtorEq, Nat.reduceEqDiff, Nat.reduceBEq, Nat.reduceAdd, Nat.reduceSub, Nat.reduceMul, Nat.reduceLT, Nat.reduceLeDiff, Nat.reduceBNe, Int.reduceBEq, Int.reduceBNe, Int.reduceLT, Int.reduceLE, Msg.a, Par.a, evG, evP, Nat.reduceMod, Nat.reduceDiv, Nat.reduceSub, Nat.reduceLeDiff, Nat.reduceMul, Nat.reduceAdd, t2]
    · simp (maxSteps := 4000000) only [go_sem, ↓reduceIte, reduceCtorEq, Nat.reduceEqDiff, Nat.reduceBEq, Nat.reduceAdd, Nat.reduceSub, Nat.reduceMul, Nat.reduceLT, Nat.reduceLeDiff, Nat.reduceBNe, Int.reduceBEq, Int.reduceBNe, Int.reduceLT, Int.reduceLE, Msg.a, Par.a, evG, evP, Nat.reduceMod, Nat.reduceDiv, Nat.reduceSub, Nat.reduceLeDiff, Nat.reduceMul, Nat.reduceAdd, t3]
    · simp (maxSteps := 4000000) only [go_sem, ↓reduceIte, reduceCtorEq, Nat.reduceEqDiff, Nat.reduceBEq, Nat.reduceAdd, Nat.reduceSub, Nat.reduceMul, Nat.reduceLT, Nat.reduceLeDiff, Nat.reduceBNe, Int.reduceBEq, Int.reduceBNe, Int.reduceLT, Int.reduceLE, Msg.a, Par.a, evG, evP, Nat.reduceMod, Nat.reduceDiv, Nat.reduceSub, Nat.reduceLeDiff, Nat.reduceMul, Nat.reduceAdd, t6]
    · simp (maxSteps := 4000000) only [go_sem, ↓reduceIte, reduceCtorEq, Nat.reduceEqDiff, Nat.reduceBEq, Nat.reduceAdd, Nat.reduceSub, Nat.reduceMul, Nat.reduceLT, Nat.reduceLeDiff, Nat.reduceBNe, Int.reduceBEq, Int.reduceBNe, Int.reduceLT, Int.reduceLE, Msg.a, Par.a, evG, evP, Nat.reduceMod, Nat.reduceDiv, Nat.reduceSub, Nat.reduceLeDiff, Nat.reduceMul, Nat.reduceAdd, t7]
    · simp (maxSteps := 4000000) only [go_sem, ↓reduceIte, reduceCtorEq, Nat.reduceEqDiff, Nat.reduceBEq, Nat.reduceAdd, Nat.reduceSub, Nat.reduceMul, Nat.reduceLT, Nat.reduceLeDiff, Nat.reduceBNe, Int.reduceBEq, Int.reduceBNe, Int.reduceLT, Int.reduceLE, Msg.a, Par.a, evG, evP, Nat.reduceMod, Nat.reduceDiv, Nat.reduceSub, Nat.reduceLeDiff, Nat.reduceMul, Nat.reduceAdd, t8]
    · simp (maxSteps := 4000000) only [go_sem, ↓reduceIte, reduceCtorEq, Nat.reduceEqDiff, Nat.reduceBEq, Nat.reduceAdd, Nat.reduceSub, Nat.reduceMul, Nat.reduceLT, Nat.reduceLeDiff, Nat.reduceBNe, Int.reduceBEq, Int.reduceBNe, Int.reduceLT, Int.reduceLE, Msg.a, Par.a, evG, evP, Nat.reduceMod, Nat.reduceDiv, Nat.reduceSub, Nat.reduceLeDiff, Nat.reduceMul, Nat.reduceAdd, h2]
    · simp (maxSteps := 4000000) only [go_sem, ↓reduceIte, reduceCtorEq, Nat.reduceEqDiff, Nat.reduceBEq, Nat.reduceAdd, Nat.reduceSub, Nat.reduceMul, Nat.reduceLT, Nat.reduceLeDiff, Nat.reduceBNe, Int.reduceBEq, Int.reduceBNe, Int.reduceLT, Int.reduceLE, Msg.a, Par.a, evG, evP, Nat.reduceMod, Nat.reduceDiv, Nat.reduceSub, Nat.reduceLeDiff, Nat.reduceMul, Nat.reduceAdd, h3]
    · simp (maxSteps := 4000000) only [go_sem, ↓reduceIte, reduceCtorEq, Nat.reduceEqDiff, Nat.reduceBEq, Nat.reduceAdd, Nat.reduceSub, Nat.reduceMul, Nat.reduceLT, Nat.reduceLeDiff, Nat.reduceBNe, Int.reduceBEq, Int.reduceBNe, Int.reduceLT, Int.reduceLE, Msg.a, Par.a, evG, evP, Nat.reduceMod, Nat.reduceDiv, Nat.reduceSub, Nat.reduceLeDiff, Nat.reduceMul, Nat.reduceAdd, g7]
    · simp (maxSteps := 4000000) only [go_sem, ↓reduceIte, reduceCtorEq, Nat.reduceEqDiff, Nat.reduceBEq, Nat.reduceAdd, Nat.reduceSub, Nat.reduceMul, Nat.reduceLT, Nat.reduceLeDiff, Nat.reduceBNe, Int.reduceBEq, Int.reduceBNe, Int.reduceLT, Int.reduceLE, Msg.a, Par.a, evG, evP, Nat.reduceMod, Nat.reduceDiv, Nat.reduceSub, Nat.reduceLeDiff, Nat.reduceMul, Nat.reduceAdd, g8]
    · simp (maxSteps := 4000000) only [go_sem, ↓reduceIte, reduceCtorEq, Nat.reduceEqDiff, Nat.reduceBEq, Nat.reduceAdd, Nat.reduceSub, Nat.reduceMul, Nat.reduceLT, Nat.reduceLeDiff, Nat.reduceBNe, Int.reduceBEq, Int.reduceBNe, Int.reduceLT, Int.reduceLE, Msg.a, Par.a, evG, evP, Nat.reduceMod, Nat.reduceDiv, Nat.reduceSub, Nat.reduceLeDiff, Nat.reduceMul, Nat.reduceAdd, h13]
    · simp (maxSteps := 4000000) only [go_sem, ↓reduceIte, reduceCtorEq, Nat.reduceEqDiff, Nat.reduceBEq, Nat.reduceAdd, Nat.reduceSub, Nat.reduceMul, Nat.reduceLT, Nat.reduceLeDiff, Nat.reduceBNe, Int.reduceBEq, Int.reduceBNe, Int.reduceLT, Int.reduceLE, Msg.a, Par.a, evG, evP, Nat.reduceMod, Nat.reduceDiv, Nat.reduceSub, Nat.reduceLeDiff, Nat.reduceMul, Nat.reduceAdd, h16]
  have hlt' : (i : Int) < (l.length : Int) := by omega
  obtain ⟨x, hx⟩ := get_lt hlt
  obtain ⟨gr, gm, gk⟩ := hg x (List.mem_of_getElem? hx)
  have hge := at_map (f := Nd.a) hx
  simp only [Nd.a] at hge
  have tk : l.take (i + 1) = l.take i ++ [x] := by rw [List.take_add_one, hx]; rfl
  have hpl : (l.take i).length ≤ 60 := by rw [List.length_take]; omega
  have hgp : ∀ y, y ∈ l.take i → y.Gd := fun y hy => hg y (List.mem_of_mem_take hy)
  have c1 : cntL (l.take i) j ≤ 60 := Nat.le_trans List.countP_le_length hpl
  have c2 : msgL (l.take i) j ≤ 60 * 1000 := Nat.le_trans (sumN_le fun y hy => by
    split
    · exact (hgp y hy).msgs
    · omega) (Nat.mul_le_mul_right _ hpl)
  have w0 := wrapS (j := i) (by omega)
  have w1 := wrapS (j := cntL (l.take i) j) (by omega)
  have w2 : IntKind.i64.wrap ((msgL (l.take i) j : Int) + (x.msgs.length : Int)) = ((msgL (l.take i) j + x.msgs.length : Nat) : Int) := by rw [IntWalk.i64_in _ (by omega)]; omega
  have fin : ∀ (σ' : St), σ'.T 0 = .sl (l.map Nd.a) → σ'.T 2 = .ptr 2 0 0 → σ'.T 3 = .ptr 3 0 0 → σ'.T 6 = .int .i64 j → σ'.T 7 = .int .i64 (cntL (l.take (i + 1)) j : Nat) → σ'.T 8 = .int .i64 (msgL (l.take (i + 1)) j : Nat) → σ'.T 9 = .int .i64 ((i + 1 : Nat) : Int) → σ'.H 2 = some ⟨9, 37, [cell0], 0⟩ → σ'.H 3 = some ⟨9, 37, [cellG l.length H l u7 u8], 0⟩ → σ'.T 1307 = .vrs 531 0 j u7 → σ'.T 1308 = .vrs 524 0 j u8 → σ'.H 531 = some ⟨1, 3, (rngI j (cntL l)).map (AV.int .i64), 0⟩ → σ'.H 524 = some ⟨1, 3, (rngI j (msgL l)).map (AV.int .i64), 0⟩ → ∃ m, m < l.length - i ∧ r3I l H j u7 u8 m σ' := fun σ' a0 a1 a2 a3 a4 a5 a6 a7 a8 a9 b1 b2 b3 =>
    ⟨l.length - (i + 1), by omega, i + 1, by omega, rfl, a0, a1, a2, a3, a4, a5, a6, a7, a8, a9, b1, b2, b3⟩
  cases hq : x.level == (j : Int) with
  | true =>
    have k1 : cntL (l.take (i + 1)) j = cntL (l.take i) j + 1 := by rw [tk, cntL_snoc, hq]; rfl
    have k2 : msgL (l.take (i + 1)) j = msgL (l.take i) j + x.msgs.length := by rw [tk, msgL_snoc, hq]; rfl
    simp (maxSteps := 4000000) only [go_sem, ↓reduceIte, reduceCtorEq, Nat.reduceEqDiff, Nat.reduceBEq, Nat.reduceAdd, Nat.reduceSub, Nat.reduceMul, Nat.reduceLT, Nat.reduceLeDiff, Nat.reduceBNe, Int.reduceBEq, Int.reduceBNe, Int.reduceLT, Int.reduceLE, Msg.a, Par.a, evG, evP, Nat.reduceMod, Nat.reduceDiv, Nat.reduceSub, Nat.reduceLeDiff, Nat.reduceMul, Nat.reduceAdd, t0, t6, t7, t8, t9, hlt', hlt, hge, hq, w0, w1, w2, List.length_map, Int.toNat_natCast]
    (repeat refine And.intro (by omega) ?_)
    refine fin _ ?_ ?_ ?_ ?_ ?_ ?_ ?_ ?_ ?_ ?_ ?_ ?_ ?_
    · simp (maxSteps := 4000000) only [go_sem, ↓reduceIte, reduceCtorEq, Nat.reduceEqDiff, Nat.reduceBEq, Nat.reduceAdd, Nat.reduceSub, Nat.reduceMul, Nat.reduceLT, Nat.reduceLeDiff, Nat.reduceBNe, Int.reduceBEq, Int.reduceBNe, Int.reduceLT, Int.reduceLE, Msg.a, Par.a, evG, evP, Nat.reduceMod, Nat.reduceDiv, Nat.reduceSub, Nat.reduceLeDiff, Nat.reduceMul, Nat.reduceAdd, t0]
    · simp (maxSteps := 4000000) only [go_sem, ↓reduceIte, reduceCtorEq, Nat.reduceEqDiff, Nat.reduceBEq, Nat.reduceAdd, Nat.reduceSub, Nat.reduceMul, Nat.reduceLT, Nat.reduceLeDiff, Nat.reduceBNe, Int.reduceBEq, Int.reduceBNe, Int.reduceLT, Int.reduceLE, Msg.a, Par.a, evG, evP, Nat.reduceMod, Nat.reduceDiv, Nat.reduceSub, Nat.reduceLeDiff, Nat.reduceMul, Nat.reduceAdd, t2]
    · simp (maxSteps := 4000000) only [go_sem, ↓reduceIte, reduceCtorEq, Nat.reduceEqDiff, Nat.reduceBEq, Nat.reduceAdd, Nat.reduceSub, Nat.reduceMul, Nat.reduceLT, Nat.reduceLeDiff, Nat.reduceBNe, Int.reduceBEq, Int.reduceBNe, Int.reduceLT, Int.reduceLE, Msg.a, Par.a, evG, evP, Nat.reduceMod, Nat.reduceDiv, Nat.reduceSub, Nat.reduceLeDiff, Nat.reduceMul, Nat.reduceAdd, t3]
    · simp (maxSteps := 4000000) only [go_sem, ↓reduceIte, reduceCtorEq, Nat.reduceEqDiff, Nat.reduceBEq, Nat.reduceAdd, Nat.reduceSub, Nat.reduceMul, Nat.reduceLT, Nat.reduceLeDiff, Nat.reduceBNe, Int.reduceBEq, Int.reduceBNe, Int.reduceLT, Int.reduceLE, Msg.a, Par.a, evG, evP, Nat.reduceMod, Nat.reduceDiv, Nat.reduceSub, Nat.reduceLeDiff, Nat.reduceMul, Nat.reduceAdd, t6]
    · rw [k1]; simp (maxSteps := 4000000) only [go_sem, ↓reduceIte, reduceCtorEq, Nat.reduceEqDiff, Nat.reduceBEq, Nat.reduceAdd, Nat.reduceSub, Nat.reduceMul, Nat.reduceLT, Nat.reduceLeDiff, Nat.reduceBNe, Int.reduceBEq, Int.reduceBNe, Int.reduceLT, Int.reduceLE, Msg.a, Par.a, evG, evP, Nat.reduceMod, Nat.reduceDiv, Nat.reduceSub, Nat.reduceLeDiff, Nat.reduceMul, Nat.reduceAdd]
    · rw [k2]; simp (maxSteps := 4000000) only [go_sem, ↓reduceIte, reduceCtorEq, Nat.reduceEqDiff, Nat.reduceBEq, Nat.reduceAdd, Nat.reduceSub, Nat.reduceMul, Nat.reduceLT, Nat.reduceLeDiff, Nat.reduceBNe, Int.reduceBEq, Int.reduceBNe, Int.reduceLT, Int.reduceLE, Msg.a, Par.a, evG, evP, Nat.reduceMod, Nat.reduceDiv, Nat.reduceSub, Nat.reduceLeDiff, Nat.reduceMul, Nat.reduceAdd]
    · simp (maxSteps := 4000000) only [go_sem, ↓reduceIte, reduceCtorEq, Nat.reduceEqDiff, Nat.reduceBEq, Nat.reduceAdd, Nat.reduceSub, Nat.reduceMul, Nat.reduceLT, Nat.reduceLeDiff, Nat.reduceBNe, Int.reduceBEq, Int.reduceBNe, Int.reduceLT, Int.reduceLE, Msg.a, Par.a, evG, evP, Nat.reduceMod, Nat.reduceDiv, Nat.reduceSub, Nat.reduceLeDiff, Nat.reduceMul, Nat.reduceAdd]
    · simp (maxSteps := 4000000) only [go_sem, ↓reduceIte, reduceCtorEq, Nat.reduceEqDiff, Nat.reduceBEq, Nat.reduceAdd, Nat.reduceSub, Nat.reduceMul, Nat.reduceLT, Nat.reduceLeDiff, Nat.reduceBNe, Int.reduceBEq, Int.reduceBNe, Int.reduceLT, Int.reduceLE, Msg.a, Par.a, evG, evP, Nat.reduceMod, Nat.reduceDiv, Nat.reduceSub, Nat.reduceLeDiff, Nat.reduceMul, Nat.reduceAdd, h2]
    · simp (maxSteps := 4000000) only [go_sem, ↓reduceIte, reduceCtorEq, Nat.reduceEqDiff, Nat.reduceBEq, Nat.reduceAdd, Nat.reduceSub, Nat.reduceMul, Nat.reduceLT, Nat.reduceLeDiff, Nat.reduceBNe, Int.reduceBEq, Int.reduceBNe, Int.reduceLT, Int.reduceLE, Msg.a, Par.a, evG, evP, Nat.reduceMod, Nat.reduceDiv, Nat.reduceSub, Nat.reduceLeDiff, Nat.reduceMul, Nat.reduceAdd, h3]
    · simp (maxSteps := 4000000) only [go_sem, ↓reduceIte, reduceCtorEq, Nat.reduceEqDiff, Nat.reduceBEq, Nat.reduceAdd, Nat.reduceSub, Nat.reduceMul, Nat.reduceLT, Nat.reduceLeDiff, Nat.reduceBNe, Int.reduceBEq, Int.reduceBNe, Int.reduceLT, Int.reduceLE, Msg.a, Par.a, evG, evP, Nat.reduceMod, Nat.reduceDiv, Nat.reduceSub, Nat.reduceLeDiff, Nat.reduceMul, Nat.reduceAdd, g7]
    · simp (maxSteps := 4000000) only [go_sem, ↓reduceIte, reduceCtorEq, Nat.reduceEqDiff, Nat.reduceBEq, Nat.reduceAdd, Nat.reduceSub, Nat.reduceMul, Nat.reduceLT, Nat.reduceLeDiff, Nat.reduceBNe, Int.reduceBEq, Int.reduceBNe, Int.reduceLT, Int.reduceLE, Msg.a, Par.a, evG, evP, Nat.reduceMod, Nat.reduceDiv, Nat.reduceSub, Nat.reduceLeDiff, Nat.reduceMul, Nat.reduceAdd, g8]
    · simp (maxSteps := 4000000) only [go_sem, ↓reduceIte, reduceCtorEq, Nat.reduceEqDiff, Nat.reduceBEq, Nat.reduceAdd, Nat.reduceSub, Nat.reduceMul, Nat.reduceLT, Nat.reduceLeDiff, Nat.reduceBNe, Int.reduceBEq, Int.reduceBNe, Int.reduceLT, Int.reduceLE, Msg.a, Par.a, evG, evP, Nat.reduceMod, Nat.reduceDiv, Nat.reduceSub, Nat.reduceLeDiff, Nat.reduceMul, Nat.reduceAdd, h13]
    · simp (maxSteps := 4000000) only [go_sem, ↓reduceIte, reduceCtorEq, Nat.reduceEqDiff, Nat.reduceBEq, Nat.reduceAdd, Nat.reduceSub, Nat.reduceMul, Nat.reduceLT, Nat.reduceLeDiff, Nat.reduceBNe, Int.reduceBEq, Int.reduceBNe, Int.reduceLT, Int.reduceLE, Msg.a, Par.a, evG, evP, Nat.reduceMod, Nat.reduceDiv, Nat.reduceSub, Nat.reduceLeDiff, Nat.reduceMul, Nat.reduceAdd, h16]
  | false =>
    have k1 : cntL (l.take (i + 1)) j = cntL (l.take i) j := by rw [tk, cntL_snoc, hq]; rfl
    have k2 : msgL (l.take (i + 1)) j = msgL (l.take i) j := by rw [tk, msgL_snoc, hq]; rfl
    simp (maxSteps := 4000000) only [go_sem, ↓reduceIte, reduceCtorEq, Nat.reduceEqDiff, Nat.reduceBEq, Nat.reduceAdd, Nat.reduceSub, Nat.reduceMul, Nat.reduceLT, Nat.reduceLeDiff, Nat.reduceBNe, Int.reduceBEq, Int.reduceBNe, Int.reduceLT, Int.reduceLE, Msg.a, Par.a, evG, evP, Nat.reduceMod, Nat.reduceDiv, Nat.reduceSub, Nat.reduceLeDiff, Nat.reduceMul, Nat.reduceAdd, t0, t6, t7, t8, t9, hlt', hlt, hge, hq, w0, List.length_map, Int.toNat_natCast]
    (repeat refine And.intro (by omega) ?_)
    refine fin _ ?_ ?_ ?_ ?_ ?_ ?_ ?_ ?_ ?_ ?_ ?_ ?_ ?_
    · simp (maxSteps := 4000000) only [go_sem, ↓reduceIte, reduceCtorEq, Nat.reduceEqDiff, Nat.reduceBEq, Nat.reduceAdd, Nat.reduceSub, Nat.reduceMul, Nat.reduceLT, Nat.reduceLeDiff, Nat.reduceBNe, Int.reduceBEq, Int.reduceBNe, Int.reduceLT, Int.reduceLE, Msg.a, Par.a, evG, evP, Nat.reduceMod, Nat.reduceDiv, Nat.reduceSub, Nat.reduceLeDiff, Nat.reduceMul, Nat.reduceAdd, t0]
    · simp (maxSteps := 4000000) only [go_sem, ↓reduceIte, reduceCtorEq, Nat.reduceEqDiff, Nat.reduceBEq, Nat.reduceAdd, Nat.reduceSub, Nat.reduceMul, Nat.reduceLT, Nat.reduceLeDiff, Nat.reduceBNe, Int.reduceBEq, Int.reduceBNe, Int.reduceLT, Int.reduceLE, Msg.a, Par.a, evG, evP, Nat.reduceMod, Nat.reduceDiv, Nat.reduceSub, Nat.reduceLeDiff, Nat.reduceMul, Nat.reduceAdd, t2]
    · simp (maxSteps := 4000000) only [go_sem, ↓reduceIte, reduceCtorEq, Nat.reduceEqDiff, Nat.reduceBEq, Nat.reduceAdd, Nat.reduceSub, Nat.reduceMul, Nat.reduceLT, Nat.reduceLeDiff, Nat.reduceBNe, Int.reduceBEq, Int.reduceBNe, Int.reduceLT, Int.reduceLE, Msg.a, Par.a, evG, evP, Nat.reduceMod, Nat.reduceDiv, Nat.reduceSub, Nat.reduceLeDiff, Nat.reduceMul, Nat.reduceAdd, t3]
    · simp (maxSteps := 4000000) only [go_sem, ↓reduceIte, reduceCtorEq, Nat.reduceEqDiff, Nat.reduceBEq, Nat.reduceAdd, Nat.reduceSub, Nat.reduceMul, Nat.reduceLT, Nat.reduceLeDiff, Nat.reduceBNe, Int.reduceBEq, Int.reduceBNe, Int.reduceLT, Int.reduceLE, Msg.a, Par.a, evG, evP, Nat.reduceMod, Nat.reduceDiv, Nat.reduceSub, Nat.reduceLeDiff, Nat.reduceMul, Nat.reduceAdd, t6]
    · rw [k1]; simp (maxSteps := 4000000) only [go_sem, ↓reduceIte, reduceCtorEq, Nat.reduceEqDiff, Nat.reduceBEq, Nat.reduceAdd, Nat.reduceSub, Nat.reduceMul, Nat.reduceLT, Nat.reduceLeDiff, Nat.reduceBNe, Int.reduceBEq, Int.reduceBNe, Int.reduceLT, Int.reduceLE, Msg.a, Par.a, evG, evP, Nat.reduceMod, Nat.reduceDiv, Nat.reduceSub, Nat.reduceLeDiff, Nat.reduceMul, Nat.reduceAdd, t7]
    · rw [k2]; simp (maxSteps := 4000000) only [go_sem, ↓reduceIte, reduceCtorEq, Nat.reduceEqDiff, Nat.reduceBEq, Nat.reduceAdd, Nat.reduceSub, Nat.reduceMul, Nat.reduceLT, Nat.reduceLeDiff, Nat.reduceBNe, Int.reduceBEq, Int.reduceBNe, Int.reduceLT, Int.reduceLE, Msg.a, Par.a, evG, evP, Nat.reduceMod, Nat.reduceDiv, Nat.reduceSub, Nat.reduceLeDiff, Nat.reduceMul, Nat.reduceAdd, t8]
    · simp (maxSteps := 4000000) only [go_sem, ↓reduceIte, reduceCtorEq, Nat.reduceEqDiff, Nat.reduceBEq, Nat.reduceAdd, Nat.reduceSub, Nat.reduceMul, Nat.reduceLT, Nat.reduceLeDiff, Nat.reduceBNe, Int.reduceBEq, Int.reduceBNe, Int.reduceLT, Int.reduceLE, Msg.a, Par.a, evG, evP, Nat.reduceMod, Nat.reduceDiv, Nat.reduceSub, Nat.reduceLeDiff, Nat.reduceMul, Nat.reduceAdd]
    · simp (maxSteps := 4000000) only [go_sem, ↓reduceIte, reduceCtorEq, Nat.reduceEqDiff, Nat.reduceBEq, Nat.reduceAdd, Nat.reduceSub, Nat.reduceMul, Nat.reduceLT, Nat.reduceLeDiff, Nat.reduceBNe, Int.reduceBEq, Int.reduceBNe, Int.reduceLT, Int.reduceLE, Msg.a, Par.a, evG, evP, Nat.reduceMod, Nat.reduceDiv, Nat.reduceSub, Nat.reduceLeDiff, Nat.reduceMul, Nat.reduceAdd, h2]
    · simp (maxSteps := 4000000) only [go_sem, ↓reduceIte, reduceCtorEq, Nat.reduceEqDiff, Nat.reduceBEq, Nat.reduceAdd, Nat.reduceSub, Nat.reduceMul, Nat.reduceLT, Nat.reduceLeDiff, Nat.reduceBNe, Int.reduceBEq, Int.reduceBNe, Int.reduceLT, Int.reduceLE, Msg.a, Par.a, evG, evP, Nat.reduceMod, Nat.reduceDiv, Nat.reduceSub, Nat.reduceLeDiff, Nat.reduceMul, Nat.reduceAdd, h3]
    · simp (maxSteps := 4000000) only [go_sem, ↓reduceIte, reduceCtorEq, Nat.reduceEqDiff, Nat.reduceBEq, Nat.reduceAdd, Nat.reduceSub, Nat.reduceMul, Nat.reduceLT, Nat.reduceLeDiff, Nat.reduceBNe, Int.reduceBEq, Int.reduceBNe, Int.reduceLT, Int.reduceLE, Msg.a, Par.a, evG, evP, Nat.reduceMod, Nat.reduceDiv, Nat.reduceSub, Nat.reduceLeDiff, Nat.reduceMul, Nat.reduceAdd, g7]
    · simp (maxSteps := 4000000) only [go_sem, ↓reduceIte, reduceCtorEq, Nat.reduceEqDiff, Nat.reduceBEq, Nat.reduceAdd, Nat.reduceSub, Nat.reduceMul, Nat.reduceLT, Nat.reduceLeDiff, Nat.reduceBNe, Int.reduceBEq, Int.reduceBNe, Int.reduceLT, Int.reduceLE, Msg.a, Par.a, evG, evP, Nat.reduceMod, Nat.reduceDiv, Nat.reduceSub, Nat.reduceLeDiff, Nat.reduceMul, Nat.reduceAdd, g8]
    · simp (maxSteps := 4000000) only [go_sem, ↓reduceIte, reduceCtorEq, Nat.reduceEqDiff, Nat.reduceBEq, Nat.reduceAdd, Nat.reduceSub, Nat.reduceMul, Nat.reduceLT, Nat.reduceLeDiff, Nat.reduceBNe, Int.reduceBEq, Int.reduceBNe, Int.reduceLT, Int.reduceLE, Msg.a, Par.a, evG, evP, Nat.reduceMod, Nat.reduceDiv, Nat.reduceSub, Nat.reduceLeDiff, Nat.reduceMul, Nat.reduceAdd, h13]
    · simp (maxSteps := 4000000) only [go_sem, ↓reduceIte, reduceCtorEq, Nat.reduceEqDiff, Nat.reduceBEq, Nat.reduceAdd, Nat.reduceSub, Nat.reduceMul, Nat.reduceLT, Nat.reduceLeDiff, Nat.reduceBNe, Int.reduceBEq, Int.reduceBNe, Int.reduceLT, Int.reduceLE, Msg.a, Par.a, evG, evP, Nat.reduceMod, Nat.reduceDiv, Nat.reduceSub, Nat.reduceLeDiff, Nat.reduceMul, Nat.reduceAdd, h16]
set_option maxHeartbeats 16000000 in
theorem rOf50_ok (l : List Nd) (hl : l.length ≤ 60) (hg : ∀ x, x ∈ l → x.Gd) : AFn Tryd.prog 12 [.sl (l.map Nd.a)] (ofG (hiG 0 l) l.length l).a := by
  refine fn_rOf50 rfl ?_
  simp (maxSteps := 4000000) only [go_sem, ↓reduceIte, reduceCtorEq, Nat.reduceEqDiff, Nat.reduceBEq, Nat.reduceAdd, Nat.reduceSub, Nat.reduceMul, Nat.reduceLT, Nat.reduceLeDiff, Nat.reduceBNe, Int.reduceBEq, Int.reduceBNe, Int.reduceLT, Int.reduceLE, Msg.a, Par.a, evG, evP, Nat.reduceMod, Nat.reduceDiv, Nat.reduceSub, Nat.reduceLeDiff, Nat.reduceMul, Nat.reduceAdd, List.length_map]
  refine run_loop (r1I l) (k := l.length) ⟨0, Nat.zero_le _, rfl, ?_, ?_, ?_, ?_, ?_, ?_, ?_, ?_, ?_, ?_⟩ (r1_loop l hl hg _ ?_)
  · simp (maxSteps := 4000000) only [go_sem, ↓reduceIte, reduceCtorEq, Nat.reduceEqDiff, Nat.reduceBEq, Nat.reduceAdd, Nat.reduceSub, Nat.reduceMul, Nat.reduceLT, Nat.reduceLeDiff, Nat.reduceBNe, Int.reduceBEq, Int.reduceBNe, Int.reduceLT, Int.reduceLE, Msg.a, Par.a, evG, evP, Nat.reduceMod, Nat.reduceDiv, Nat.reduceSub, Nat.reduceLeDiff, Nat.reduceMul, Nat.reduceAdd]
  · simp (maxSteps := 4000000) only [go_sem, ↓reduceIte, reduceCtorEq, Nat.reduceEqDiff, Nat.reduceBEq, Nat.reduceAdd, Nat.reduceSub, Nat.reduceMul, Nat.reduceLT, Nat.reduceLeDiff, Nat.reduceBNe, Int.reduceBEq, Int.reduceBNe, Int.reduceLT, Int.reduceLE, Msg.a, Par.a, evG, evP, Nat.reduceMod, Nat.reduceDiv, Nat.reduceSub, Nat.reduceLeDiff, Nat.reduceMul, Nat.reduceAdd]
  · simp (maxSteps := 4000000) only [go_sem, ↓reduceIte, reduceCtorEq, Nat.reduceEqDiff, Nat.reduceBEq, Nat.reduceAdd, Nat.reduceSub, Nat.reduceMul, Nat.reduceLT, Nat.reduceLeDiff, Nat.reduceBNe, Int.reduceBEq, Int.reduceBNe, Int.reduceLT, Int.reduceLE, Msg.a, Par.a, evG, evP, Nat.reduceMod, Nat.reduceDiv, Nat.reduceSub, Nat.reduceLeDiff, Nat.reduceMul, Nat.reduceAdd]
  · (simp (maxSteps := 4000000) only [go_sem, ↓reduceIte, reduceCtorEq, Nat.reduceEqDiff, Nat.reduceBEq, Nat.reduceAdd, Nat.reduceSub, Nat.reduceMul, Nat.reduceLT, Nat.reduceLeDiff, Nat.reduceBNe, Int.reduceBEq, Int.reduceBNe, Int.reduceLT, Int.reduceLE, Msg.a, Par.a, evG, evP, Nat.reduceMod, Nat.reduceDiv, Nat.reduceSub, Nat.reduceLeDiff, Nat.reduceMul, Nat.reduceAdd]) <;> rfl
  · (simp (maxSteps := 4000000) only [go_sem, ↓reduceIte, reduceCtorEq, Nat.reduceEqDiff, Nat.reduceBEq, Nat.reduceAdd, Nat.reduceSub, Nat.reduceMul, Nat.reduceLT, Nat.reduceLeDiff, Nat.reduceBNe, Int.reduceBEq, Int.reduceBNe, Int.reduceLT, Int.reduceLE, Msg.a, Par.a, evG, evP, Nat.reduceMod, Nat.reduceDiv, Nat.reduceSub, Nat.reduceLeDiff, Nat.reduceMul, Nat.reduceAdd]) <;> rfl
  · (simp (maxSteps := 4000000) only [go_sem, ↓reduceIte, reduceCtorEq, Nat.reduceEqDiff, Nat.reduceBEq, Nat.reduceAdd, Nat.reduceSub, Nat.reduceMul, Nat.reduceLT, Nat.reduceLeDiff, Nat.reduceBNe, Int.reduceBEq, Int.reduceBNe, Int.reduceLT, Int.reduceLE, Msg.a, Par.a, evG, evP, Nat.reduceMod, Nat.reduceDiv, Nat.reduceSub, Nat.reduceLeDiff, Nat.reduceMul, Nat.reduceAdd]) <;> rfl
  · simp (maxSteps := 4000000) only [go_sem, ↓reduceIte, reduceCtorEq, Nat.reduceEqDiff, Nat.reduceBEq, Nat.reduceAdd, Nat.reduceSub, Nat.reduceMul, Nat.reduceLT, Nat.reduceLeDiff, Nat.reduceBNe, Int.reduceBEq, Int.reduceBNe, Int.reduceLT, Int.reduceLE, Msg.a, Par.a, evG, evP, Nat.reduceMod, Nat.reduceDiv, Nat.reduceSub, Nat.reduceLeDiff, Nat.reduceMul, Nat.reduceAdd]
  · simp (maxSteps := 4000000) only [go_sem, ↓reduceIte, reduceCtorEq, Nat.reduceEqDiff, Nat.reduceBEq, Nat.reduceAdd, Nat.reduceSub, Nat.reduceMul, Nat.reduceLT, Nat.reduceLeDiff, Nat.reduceBNe, Int.reduceBEq, Int.reduceBNe, Int.reduceLT, Int.reduceLE, Msg.a, Par.a, evG, evP, Nat.reduceMod, Nat.reduceDiv, Nat.reduceSub, Nat.reduceLeDiff, Nat.reduceMul, Nat.reduceAdd]
  · simp (maxSteps := 4000000) only [go_sem, ↓reduceIte, reduceCtorEq, Nat.reduceEqDiff, Nat.reduceBEq, Nat.reduceAdd, Nat.reduceSub, Nat.reduceMul, Nat.reduceLT, Nat.reduceLeDiff, Nat.reduceBNe, Int.reduceBEq, Int.reduceBNe, Int.reduceLT, Int.reduceLE, Msg.a, Par.a, evG, evP, Nat.reduceMod, Nat.reduceDiv, Nat.reduceSub, Nat.reduceLeDiff, Nat.reduceMul, Nat.reduceAdd]
  · simp (maxSteps := 4000000) only [go_sem, ↓reduceIte, reduceCtorEq, Nat.reduceEqDiff, Nat.reduceBEq, Nat.reduceAdd, Nat.reduceSub, Nat.reduceMul, Nat.reduceLT, Nat.reduceLeDiff, Nat.reduceBNe, Int.reduceBEq, Int.reduceBNe, Int.reduceLT, Int.reduceLE, Msg.a, Par.a, evG, evP, Nat.reduceMod, Nat.reduceDiv, Nat.reduceSub, Nat.reduceLeDiff, Nat.reduceMul, Nat.reduceAdd]
  intro σ t0 t2 t3 h2 h3 g7 g8 h13 h16
  have hH := hiG_le l (Nat.zero_le 61)
  generalize hiG 0 l = H at *
  simp (maxSteps := 4000000) only [go_sem, ↓reduceIte, reduceCtorEq, Nat.reduceEqDiff, Nat.reduceBEq, Nat.reduceAdd, Nat.reduceSub, Nat.reduceMul, Nat.reduceLT, Nat.reduceLeDiff, Nat.reduceBNe, Int.reduceBEq, Int.reduceBNe, Int.reduceLT, Int.reduceLE, Msg.a, Par.a, evG, evP, Nat.reduceMod, Nat.reduceDiv, Nat.reduceSub, Nat.reduceLeDiff, Nat.reduceMul, Nat.reduceAdd, t0]
  refine run_loop (r2I l H) (k := H) ⟨0, .slice none 0 0, .slice none 0 0, Nat.zero_le _, rfl, ?_, ?_, ?_, ?_, ?_, ?_, ?_, ?_, ?_, ?_⟩ ?_
  · simp (maxSteps := 4000000) only [go_sem, ↓reduceIte, reduceCtorEq, Nat.reduceEqDiff, Nat.reduceBEq, Nat.reduceAdd, Nat.reduceSub, Nat.reduceMul, Nat.reduceLT, Nat.reduceLeDiff, Nat.reduceBNe, Int.reduceBEq, Int.reduceBNe, Int.reduceLT, Int.reduceLE, Msg.a, Par.a, evG, evP, Nat.reduceMod, Nat.reduceDiv, Nat.reduceSub, Nat.reduceLeDiff, Nat.reduceMul, Nat.reduceAdd, t0]
  · simp (maxSteps := 4000000) only [go_sem, ↓reduceIte, reduceCtorEq, Nat.reduceEqDiff, Nat.reduceBEq, Nat.reduceAdd, Nat.reduceSub, Nat.reduceMul, Nat.reduceLT, Nat.reduceLeDiff, Nat.reduceBNe, Int.reduceBEq, Int.reduceBNe, Int.reduceLT, Int.reduceLE, Msg.a, Par.a, evG, evP, Nat.reduceMod, Nat.reduceDiv, Nat.reduceSub, Nat.reduceLeDiff, Nat.reduceMul, Nat.reduceAdd, t2]
  · simp (maxSteps := 4000000) only [go_sem, ↓reduceIte, reduceCtorEq, Nat.reduceEqDiff, Nat.reduceBEq, Nat.reduceAdd, Nat.reduceSub, Nat.reduceMul, Nat.reduceLT, Nat.reduceLeDiff, Nat.reduceBNe, Int.reduceBEq, Int.reduceBNe, Int.reduceLT, Int.reduceLE, Msg.a, Par.a, evG, evP, Nat.reduceMod, Nat.reduceDiv, Nat.reduceSub, Nat.reduceLeDiff, Nat.reduceMul, Nat.reduceAdd, t3]
  · (simp (maxSteps := 4000000) only [go_sem, ↓reduceIte, reduceCtorEq, Nat.reduceEqDiff, Nat.reduceBEq, Nat.reduceAdd, Nat.reduceSub, Nat.reduceMul, Nat.reduceLT, Nat.reduceLeDiff, Nat.reduceBNe, Int.reduceBEq, Int.reduceBNe, Int.reduceLT, Int.reduceLE, Msg.a, Par.a, evG, evP, Nat.reduceMod, Nat.reduceDiv, Nat.reduceSub, Nat.reduceLeDiff, Nat.reduceMul, Nat.reduceAdd]) <;> rfl
  · simp (maxSteps := 4000000) only [go_sem, ↓reduceIte, reduceCtorEq, Nat.reduceEqDiff, Nat.reduceBEq, Nat.reduceAdd, Nat.reduceSub, Nat.reduceMul, Nat.reduceLT, Nat.reduceLeDiff, Nat.reduceBNe, Int.reduceBEq, Int.reduceBNe, Int.reduceLT, Int.reduceLE, Msg.a, Par.a, evG, evP, Nat.reduceMod, Nat.reduceDiv, Nat.reduceSub, Nat.reduceLeDiff, Nat.reduceMul, Nat.reduceAdd, h2]
  · simp (maxSteps := 4000000) only [go_sem, ↓reduceIte, reduceCtorEq, Nat.reduceEqDiff, Nat.reduceBEq, Nat.reduceAdd, Nat.reduceSub, Nat.reduceMul, Nat.reduceLT, Nat.reduceLeDiff, Nat.reduceBNe, Int.reduceBEq, Int.reduceBNe, Int.reduceLT, Int.reduceLE, Msg.a, Par.a, evG, evP, Nat.reduceMod, Nat.reduceDiv, Nat.reduceSub, Nat.reduceLeDiff, Nat.reduceMul, Nat.reduceAdd, h3]
  · simp (maxSteps := 4000000) only [go_sem, ↓reduceIte, reduceCtorEq, Nat.reduceEqDiff, Nat.reduceBEq, Nat.reduceAdd, Nat.reduceSub, Nat.reduceMul, Nat.reduceLT, Nat.reduceLeDiff, Nat.reduceBNe, Int.reduceBEq, Int.reduceBNe, Int.reduceLT, Int.reduceLE, Msg.a, Par.a, evG, evP, Nat.reduceMod, Nat.reduceDiv, Nat.reduceSub, Nat.reduceLeDiff, Nat.reduceMul, Nat.reduceAdd, g7]
  · simp (maxSteps := 4000000) only [go_sem, ↓reduceIte, reduceCtorEq, Nat.reduceEqDiff, Nat.reduceBEq, Nat.reduceAdd, Nat.reduceSub, Nat.reduceMul, Nat.reduceLT, Nat.reduceLeDiff, Nat.reduceBNe, Int.reduceBEq, Int.reduceBNe, Int.reduceLT, Int.reduceLE, Msg.a, Par.a, evG, evP, Nat.reduceMod, Nat.reduceDiv, Nat.reduceSub, Nat.reduceLeDiff, Nat.reduceMul, Nat.reduceAdd, g8]
  · (simp (maxSteps := 4000000) only [go_sem, ↓reduceIte, reduceCtorEq, Nat.reduceEqDiff, Nat.reduceBEq, Nat.reduceAdd, Nat.reduceSub, Nat.reduceMul, Nat.reduceLT, Nat.reduceLeDiff, Nat.reduceBNe, Int.reduceBEq, Int.reduceBNe, Int.reduceLT, Int.reduceLE, Msg.a, Par.a, evG, evP, Nat.reduceMod, Nat.reduceDiv, Nat.reduceSub, Nat.reduceLeDiff, Nat.reduceMul, Nat.reduceAdd, h13]) <;> rfl
  · (simp (maxSteps := 4000000) only [go_sem, ↓reduceIte, reduceCtorEq, Nat.reduceEqDiff, Nat.reduceBEq, Nat.reduceAdd, Nat.reduceSub, Nat.reduceMul, Nat.reduceLT, Nat.reduceLeDiff, Nat.reduceBNe, Int.reduceBEq, Int.reduceBNe, Int.reduceLT, Int.reduceLE, Msg.a, Par.a, evG, evP, Nat.reduceMod, Nat.reduceDiv, Nat.reduceSub, Nat.reduceLeDiff, Nat.reduceMul, Nat.reduceAdd, h16]) <;> rfl
  clear t0 t2 t3 h2 h3 g7 g8 h13 h16
  rintro k σ ⟨j, u7, u8, hj, rfl, t0, t2, t3, t6, h2, h3, g7, g8, h13, h16⟩
  have h2' := h2
  have h3' := h3
  unfold cell0 at h2'
  unfold cellG at h3'
  simp only [r_rOf50_l29]
  by_cases hlt : j < H
  case neg =>
    have hlt' : ¬ (j : Int) < (H : Int) := by omega
    have e : j = H := by omega
    subst e
    have tk1 : List.take j ((rngI j (cntL l)).map (AV.int .i64)) = (rngI j (cntL l)).map (AV.int .i64) := List.take_of_length_le (by rw [List.length_map, rngI_len]; exact Nat.le_refl _)
    have tk2 : List.take j ((rngI j (msgL l)).map (AV.int .i64)) = (rngI j (msgL l)).map (AV.int .i64) := List.take_of_length_le (by rw [List.length_map, rngI_len]; exact Nat.le_refl _)
    rw [ofG_eq]
    simp (maxSteps := 4000000) only [go_sem, ↓reduceIte, reduceCtorEq, Nat.reduceEqDiff, Nat.reduceBEq, Nat.reduceAdd, Nat.reduceSub, Nat.reduceMul, Nat.reduceLT, Nat.reduceLeDiff, Nat.reduceBNe, Int.reduceBEq, Int.reduceBNe, Int.reduceLT, Int.reduceLE, Msg.a, Par.a, evG, evP, Nat.reduceMod, Nat.reduceDiv, Nat.reduceSub, Nat.reduceLeDiff, Nat.reduceMul, Nat.reduceAdd, t2, t3, t6, h2', h3', g7, g8, h13, h16, hlt', tk1, tk2, List.drop_zero]
  have hlt' : (j : Int) < (H : Int) := by omega
  simp (maxSteps := 4000000) only [go_sem, ↓reduceIte, reduceCtorEq, Nat.reduceEqDiff, Nat.reduceBEq, Nat.reduceAdd, Nat.reduceSub, Nat.reduceMul, Nat.reduceLT, Nat.reduceLeDiff, Nat.reduceBNe, Int.reduceBEq, Int.reduceBNe, Int.reduceLT, Int.reduceLE, Msg.a, Par.a, evG, evP, Nat.reduceMod, Nat.reduceDiv, Nat.reduceSub, Nat.reduceLeDiff, Nat.reduceMul, Nat.reduceAdd, t2, t3, t6, h3', hlt']
  refine run_loop (r3I l H j u7 u8) (k := l.length) ⟨0, Nat.zero_le _, rfl, ?_, ?_, ?_, ?_, ?_, ?_, ?_, ?_, ?_, ?_, ?_, ?_, ?_⟩ (r3_loop l hl hg H j u7 u8 _ ?_)
  · simp (maxSteps := 4000000) only [go_sem, ↓reduceIte, reduceCtorEq, Nat.reduceEqDiff, Nat.reduceBEq, Nat.reduceAdd, Nat.reduceSub, Nat.reduceMul, Nat.reduceLT, Nat.reduceLeDiff, Nat.reduceBNe, Int.reduceBEq, Int.reduceBNe, Int.reduceLT, Int.reduceLE, Msg.a, Par.a, evG, evP, Nat.reduceMod, Nat.reduceDiv, Nat.reduceSub, Nat.reduceLeDiff, Nat.reduceMul, Nat.reduceAdd, t0]
  · simp (maxSteps := 4000000) only [go_sem, ↓reduceIte, reduceCtorEq, Nat.reduceEqDiff, Nat.reduceBEq, Nat.reduceAdd, Nat.reduceSub, Nat.reduceMul, Nat.reduceLT, Nat.reduceLeDiff, Nat.reduceBNe, Int.reduceBEq, Int.reduceBNe, Int.reduceLT, Int.reduceLE, Msg.a, Par.a, evG, evP, Nat.reduceMod, Nat.reduceDiv, Nat.reduceSub, Nat.reduceLeDiff, Nat.reduceMul, Nat.reduceAdd, t2]
  · simp (maxSteps := 4000000) only [go_sem, ↓reduceIte, reduceCtorEq, Nat.reduceEqDiff, Nat.reduceBEq, Nat.reduceAdd, Nat.reduceSub, Nat.reduceMul, Nat.reduceLT, Nat.reduceLeDiff, Nat.reduceBNe, Int.reduceBEq, Int.reduceBNe, Int.reduceLT, Int.reduceLE, Msg.a, Par.a, evG, evP, Nat.reduceMod, Nat.reduceDiv, Nat.reduceSub, Nat.reduceLeDiff, Nat.reduceMul, Nat.reduceAdd, t3]
  · simp (maxSteps := 4000000) only [go_sem, ↓reduceIte, reduceCtorEq, Nat.reduceEqDiff, Nat.reduceBEq, Nat.reduceAdd, Nat.reduceSub, Nat.reduceMul, Nat.reduceLT, Nat.reduceLeDiff, Nat.reduceBNe, Int.reduceBEq, Int.reduceBNe, Int.reduceLT, Int.reduceLE, Msg.a, Par.a, evG, evP, Nat.reduceMod, Nat.reduceDiv, Nat.reduceSub, Nat.reduceLeDiff, Nat.reduceMul, Nat.reduceAdd, t6]
  · (simp (maxSteps := 4000000) only [go_sem, ↓reduceIte, reduceCtorEq, Nat.reduceEqDiff, Nat.reduceBEq, Nat.reduceAdd, Nat.reduceSub, Nat.reduceMul, Nat.reduceLT, Nat.reduceLeDiff, Nat.reduceBNe, Int.reduceBEq, Int.reduceBNe, Int.reduceLT, Int.reduceLE, Msg.a, Par.a, evG, evP, Nat.reduceMod, Nat.reduceDiv, Nat.reduceSub, Nat.reduceLeDiff, Nat.reduceMul, Nat.reduceAdd]) <;> rfl
  · (simp (maxSteps := 4000000) only [go_sem, ↓reduceIte, reduceCtorEq, Nat.reduceEqDiff, Nat.reduceBEq, Nat.reduceAdd, Nat.reduceSub, Nat.reduceMul, Nat.reduceLT, Nat.reduceLeDiff, Nat.reduceBNe, Int.reduceBEq, Int.reduceBNe, Int.reduceLT, Int.reduceLE, Msg.a, Par.a, evG, evP, Nat.reduceMod, Nat.reduceDiv, Nat.reduceSub, Nat.reduceLeDiff, Nat.reduceMul, Nat.reduceAdd]) <;> rfl
  · (simp (maxSteps := 4000000) only [go_sem, ↓reduceIte, reduceCtorEq, Nat.reduceEqDiff, Nat.reduceBEq, Nat.reduceAdd, Nat.reduceSub, Nat.reduceMul, Nat.reduceLT, Nat.reduceLeDiff, Nat.reduceBNe, Int.reduceBEq, Int.reduceBNe, Int.reduceLT, Int.reduceLE, Msg.a, Par.a, evG, evP, Nat.reduceMod, Nat.reduceDiv, Nat.reduceSub, Nat.reduceLeDiff, Nat.reduceMul, Nat.reduceAdd]) <;> rfl
  · simp (maxSteps := 4000000) only [go_sem, ↓reduceIte, reduceCtorEq, Nat.reduceEqDiff, Nat.reduceBEq, Nat.reduceAdd, Nat.reduceSub, Nat.reduceMul, Nat.reduceLT, Nat.reduceLeDiff, Nat.reduceBNe, Int.reduceBEq, Int.reduceBNe, Int.reduceLT, Int.reduceLE, Msg.a, Par.a, evG, evP, Nat.reduceMod, Nat.reduceDiv, Nat.reduceSub, Nat.reduceLeDiff, Nat.reduceMul, Nat.reduceAdd, h2]
  · simp (maxSteps := 4000000) only [go_sem, ↓reduceIte, reduceCtorEq, Nat.reduceEqDiff, Nat.reduceBEq, Nat.reduceAdd, Nat.reduceSub, Nat.reduceMul, Nat.reduceLT, Nat.reduceLeDiff, Nat.reduceBNe, Int.reduceBEq, Int.reduceBNe, Int.reduceLT, Int.reduceLE, Msg.a, Par.a, evG, evP, Nat.reduceMod, Nat.reduceDiv, Nat.reduceSub, Nat.reduceLeDiff, Nat.reduceMul, Nat.reduceAdd, h3]
  · simp (maxSteps := 4000000) only [go_sem, ↓reduceIte, reduceCtorEq, Nat.reduceEqDiff, Nat.reduceBEq, Nat.reduceAdd, Nat.reduceSub, Nat.reduceMul, Nat.reduceLT, Nat.reduceLeDiff, Nat.reduceBNe, Int.reduceBEq, Int.reduceBNe, Int.reduceLT, Int.reduceLE, Msg.a, Par.a, evG, evP, Nat.reduceMod, Nat.reduceDiv, Nat.reduceSub, Nat.reduceLeDiff, Nat.reduceMul, Nat.reduceAdd, g7]
  · simp (maxSteps := 4000000) only [go_sem, ↓reduceIte, reduceCtorEq, Nat.reduceEqDiff, Nat.reduceBEq, Nat.reduceAdd, Nat.reduceSub, Nat.reduceMul, Nat.reduceLT, Nat.reduceLeDiff, Nat.reduceBNe, Int.reduceBEq, Int.reduceBNe, Int.reduceLT, Int.reduceLE, Msg.a, Par.a, evG, evP, Nat.reduceMod, Nat.reduceDiv, Nat.reduceSub, Nat.reduceLeDiff, Nat.reduceMul, Nat.reduceAdd, g8]
  · simp (maxSteps := 4000000) only [go_sem, ↓reduceIte, reduceCtorEq, Nat.reduceEqDiff, Nat.reduceBEq, Nat.reduceAdd, Nat.reduceSub, Nat.reduceMul, Nat.reduceLT, Nat.reduceLeDiff, Nat.reduceBNe, Int.reduceBEq, Int.reduceBNe, Int.reduceLT, Int.reduceLE, Msg.a, Par.a, evG, evP, Nat.reduceMod, Nat.reduceDiv, Nat.reduceSub, Nat.reduceLeDiff, Nat.reduceMul, Nat.reduceAdd, h13]
  · simp (maxSteps := 4000000) only [go_sem, ↓reduceIte, reduceCtorEq, Nat.reduceEqDiff, Nat.reduceBEq, Nat.reduceAdd, Nat.reduceSub, Nat.reduceMul, Nat.reduceLT, Nat.reduceLeDiff, Nat.reduceBNe, Int.reduceBEq, Int.reduceBNe, Int.reduceLT, Int.reduceLE, Msg.a, Par.a, evG, evP, Nat.reduceMod, Nat.reduceDiv, Nat.reduceSub, Nat.reduceLeDiff, Nat.reduceMul, Nat.reduceAdd, h16]
  clear t0 t2 t3 t6 h2 h3 g7 g8 h13 h16 h2' h3'
  intro σ t0 t2 t3 t6 t7 t8 h2 h3 g7 g8 h13 h16
  have h2' := h2
  have h3' := h3
  unfold cell0 at h2'
  unfold cellG at h3'
  have e1 : (rngI (j + 1) (cntL l)).map (AV.int .i64) = (rngI j (cntL l)).map (AV.int .i64) ++ [.int .i64 (cntL l j : Nat)] := by rw [rngI_snoc, List.map_append]; rfl
  have e2 : (rngI (j + 1) (msgL l)).map (AV.int .i64) = (rngI j (msgL l)).map (AV.int .i64) ++ [.int .i64 (msgL l j : Nat)] := by rw [rngI_snoc, List.map_append]; rfl
  have tk1 : List.take j ((rngI j (cntL l)).map (AV.int .i64)) = (rngI j (cntL l)).map (AV.int .i64) := List.take_of_length_le (by rw [List.length_map, rngI_len]; exact Nat.le_refl _)
  have tk2 : List.take j ((rngI j (msgL l)).map (AV.int .i64)) = (rngI j (msgL l)).map (AV.int .i64) := List.take_of_length_le (by rw [List.length_map, rngI_len]; exact Nat.le_refl _)
  have w0 := wrapS (j := j) (by omega)
  simp (maxSteps := 4000000) only [go_sem, ↓reduceIte, reduceCtorEq, Nat.reduceEqDiff, Nat.reduceBEq, Nat.reduceAdd, Nat.reduceSub, Nat.reduceMul, Nat.reduceLT, Nat.reduceLeDiff, Nat.reduceBNe, Int.reduceBEq, Int.reduceBNe, Int.reduceLT, Int.reduceLE, Msg.a, Par.a, evG, evP, Nat.reduceMod, Nat.reduceDiv, Nat.reduceSub, Nat.reduceLeDiff, Nat.reduceMul, Nat.reduceAdd, t2, t3, t6, t7, t8, h3', g7, g8, h13, h16, tk1, tk2, w0]
  refine ⟨⟨by omega, fun d hd => by (rcases hd with rfl | hd; · exact ⟨rfl, rfl⟩); cases hd⟩, ?_⟩
  intro u9 hu9
  refine ⟨⟨by omega, fun d hd => by (rcases hd with rfl | hd; · exact ⟨rfl, rfl⟩); cases hd⟩, ?_⟩
  intro u10 hu10
  refine ⟨H - (j + 1), by omega, j + 1, u9, u10, by omega, rfl, ?_, ?_, ?_, ?_, ?_, ?_, ?_, ?_, ?_, ?_⟩
  · simp (maxSteps := 4000000) only [go_sem, ↓reduceIte, reduceCtorEq, Nat.reduceEqDiff, Nat.reduceBEq, Nat.reduceAdd, Nat.reduceSub, Nat.reduceMul, Nat.reduceLT, Nat.reduceLeDiff, Nat.reduceBNe, Int.reduceBEq, Int.reduceBNe, Int.reduceLT, Int.reduceLE, Msg.a, Par.a, evG, evP, Nat.reduceMod, Nat.reduceDiv, Nat.reduceSub, Nat.reduceLeDiff, Nat.reduceMul, Nat.reduceAdd, t0]
  · simp (maxSteps := 4000000) only [go_sem, ↓reduceIte, reduceCtorEq, Nat.reduceEqDiff, Nat.reduceBEq, Nat.reduceAdd, Nat.reduceSub, Nat.reduceMul, Nat.reduceLT, Nat.reduceLeDiff, Nat.reduceBNe, Int.reduceBEq, Int.reduceBNe, Int.reduceLT, Int.reduceLE, Msg.a, Par.a, evG, evP, Nat.reduceMod, Nat.reduceDiv, Nat.reduceSub, Nat.reduceLeDiff, Nat.reduceMul, Nat.reduceAdd, t2]
  · simp (maxSteps := 4000000) only [go_sem, ↓reduceIte, reduceCtorEq, Nat.reduceEqDiff, Nat.reduceBEq, Nat.reduceAdd, Nat.reduceSub, Nat.reduceMul, Nat.reduceLT, Nat.reduceLeDiff, Nat.reduceBNe, Int.reduceBEq, Int.reduceBNe, Int.reduceLT, Int.reduceLE, Msg.a, Par.a, evG, evP, Nat.reduceMod, Nat.reduceDiv, Nat.reduceSub, Nat.reduceLeDiff, Nat.reduceMul, Nat.reduceAdd, t3]
  · (simp (maxSteps := 4000000) only [go_sem, ↓reduceIte, reduceCtorEq, Nat.reduceEqDiff, Nat.reduceBEq, Nat.reduceAdd, Nat.reduceSub, Nat.reduceMul, Nat.reduceLT, Nat.reduceLeDiff, Nat.reduceBNe, Int.reduceBEq, Int.reduceBNe, Int.reduceLT, Int.reduceLE, Msg.a, Par.a, evG, evP, Nat.reduceMod, Nat.reduceDiv, Nat.reduceSub, Nat.reduceLeDiff, Nat.reduceMul, Nat.reduceAdd]) <;> rfl
  · simp (maxSteps := 4000000) only [go_sem, ↓reduceIte, reduceCtorEq, Nat.reduceEqDiff, Nat.reduceBEq, Nat.reduceAdd, Nat.reduceSub, Nat.reduceMul, Nat.reduceLT, Nat.reduceLeDiff, Nat.reduceBNe, Int.reduceBEq, Int.reduceBNe, Int.reduceLT, Int.reduceLE, Msg.a, Par.a, evG, evP, Nat.reduceMod, Nat.reduceDiv, Nat.reduceSub, Nat.reduceLeDiff, Nat.reduceMul, Nat.reduceAdd, h2]
  · (simp (maxSteps := 4000000) only [go_sem, ↓reduceIte, reduceCtorEq, Nat.reduceEqDiff, Nat.reduceBEq, Nat.reduceAdd, Nat.reduceSub, Nat.reduceMul, Nat.reduceLT, Nat.reduceLeDiff, Nat.reduceBNe, Int.reduceBEq, Int.reduceBNe, Int.reduceLT, Int.reduceLE, Msg.a, Par.a, evG, evP, Nat.reduceMod, Nat.reduceDiv, Nat.reduceSub, Nat.reduceLeDiff, Nat.reduceMul, Nat.reduceAdd]) <;> rfl
  · (simp (maxSteps := 4000000) only [go_sem, ↓reduceIte, reduceCtorEq, Nat.reduceEqDiff, Nat.reduceBEq, Nat.reduceAdd, Nat.reduceSub, Nat.reduceMul, Nat.reduceLT, Nat.reduceLeDiff, Nat.reduceBNe, Int.reduceBEq, Int.reduceBNe, Int.reduceLT, Int.reduceLE, Msg.a, Par.a, evG, evP, Nat.reduceMod, Nat.reduceDiv, Nat.reduceSub, Nat.reduceLeDiff, Nat.reduceMul, Nat.reduceAdd, g7]) <;> rfl
  · (simp (maxSteps := 4000000) only [go_sem, ↓reduceIte, reduceCtorEq, Nat.reduceEqDiff, Nat.reduceBEq, Nat.reduceAdd, Nat.reduceSub, Nat.reduceMul, Nat.reduceLT, Nat.reduceLeDiff, Nat.reduceBNe, Int.reduceBEq, Int.reduceBNe, Int.reduceLT, Int.reduceLE, Msg.a, Par.a, evG, evP, Nat.reduceMod, Nat.reduceDiv, Nat.reduceSub, Nat.reduceLeDiff, Nat.reduceMul, Nat.reduceAdd, g8]) <;> rfl
  · rw [e1]; simp (maxSteps := 4000000) only [go_sem, ↓reduceIte, reduceCtorEq, Nat.reduceEqDiff, Nat.reduceBEq, Nat.reduceAdd, Nat.reduceSub, Nat.reduceMul, Nat.reduceLT, Nat.reduceLeDiff, Nat.reduceBNe, Int.reduceBEq, Int.reduceBNe, Int.reduceLT, Int.reduceLE, Msg.a, Par.a, evG, evP, Nat.reduceMod, Nat.reduceDiv, Nat.reduceSub, Nat.reduceLeDiff, Nat.reduceMul, Nat.reduceAdd, h13]
  · rw [e2]; simp (maxSteps := 4000000) only [go_sem, ↓reduceIte, reduceCtorEq, Nat.reduceEqDiff, Nat.reduceBEq, Nat.reduceAdd, Nat.reduceSub, Nat.reduceMul, Nat.reduceLT, Nat.reduceLeDiff, Nat.reduceBNe, Int.reduceBEq, Int.reduceBNe, Int.reduceLT, Int.reduceLE, Msg.a, Par.a, evG, evP, Nat.reduceMod, Nat.reduceDiv, Nat.reduceSub, Nat.reduceLeDiff, Nat.reduceMul, Nat.reduceAdd, h16]
end
section
/-
  How full leaves are, and how many are needed: the plain law.
-/
open Go.RowKit
set_option linter.unusedVariables false
set_option linter.unusedSimpArgs false
theorem fill_law {L c R : Int} (hL : 1 ≤ L) (hc : 1 ≤ c) (hR : 0 ≤ R) : (R * 100).tdiv (L * c) * L * c ≤ R * 100 ∧ R * 100 < ((R * 100).tdiv (L * c) + 1) * L * c ∧ 0 ≤ (R * 100).tdiv (L * c) ∧ (R * 100).tdiv (L * c) ≤ R * 100 := by
  have hd : 0 < L * c := Int.mul_pos (by omega) (by omega)
  have hR' : 0 ≤ R * 100 := by omega
  rw [Int.tdiv_eq_ediv_of_nonneg hR']
  have h1 := Int.ediv_mul_le (R * 100) (b := L * c) (by omega)
  have h2 := Int.lt_ediv_add_one_mul_self (R * 100) hd
  refine ⟨by rw [Int.mul_assoc]; exact h1, by rw [Int.mul_assoc]; exact h2, Int.ediv_nonneg hR' (by omega), Int.ediv_le_self _ hR'⟩
theorem least_law {p c : Int} (hp : 0 < p) (hc : 1 ≤ c) : (if 0 < p.tmod c then p.tdiv c + 1 else p.tdiv c) = (p - 1).tdiv c + 1 ∧ 0 ≤ (p - 1).tdiv c ∧ (p - 1).tdiv c ≤ p - 1 := by
  have h0 : 0 ≤ p - 1 := by omega
  rw [Int.tdiv_eq_ediv_of_nonneg h0, Int.tdiv_eq_ediv_of_nonneg (by omega : 0 ≤ p), Int.tmod_eq_emod_of_nonneg (by omega : 0 ≤ p)]
  have e := Int.mul_ediv_add_emod (p - 1) c
  have r0 := Int.emod_nonneg (p - 1) (by omega : c ≠ 0)
  have r1 := Int.emod_lt_of_pos (p - 1) (by omega : 0 < c)
  have q0 := Int.ediv_nonneg h0 (by omega : 0 ≤ c)
  have q1 := Int.ediv_le_self c h0
  generalize (p - 1) / c = q at *
  generalize (p - 1) % c = r at *
  refine ⟨?_, q0, q1⟩
  by_cases hr : r + 1 = c
  · have hpe : p = c * (q + 1) := by rw [Int.mul_add, Int.mul_one]; omega
    have hm : p % c = 0 := by rw [hpe]; exact Int.mul_emod_right c (q + 1)
    have hd : p / c = q + 1 := by rw [hpe]; exact Int.mul_ediv_cancel_left _ (by omega)
    rw [hm, hd, if_neg (by omega)]
  · have hpe : p = (r + 1) + c * q := by omega
    have hd : p / c = q := by
      rw [hpe, Int.add_mul_ediv_left _ _ (by omega), Int.ediv_eq_zero_of_lt (by omega) (by omega)]; omega
    have hm : p % c = r + 1 := by
      rw [hpe, Int.add_mul_emod_self_left, Int.emod_eq_of_lt (by omega) (by omega)]
    rw [hm, hd, if_pos (by omega)]
end
end Go.Proofs.YtelmejaiapdgnaaDoor
