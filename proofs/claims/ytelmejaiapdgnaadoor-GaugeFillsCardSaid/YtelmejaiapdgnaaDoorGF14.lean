/-
  'Rows.GaugeFillsSaid' is proved: the law percolatelaw50.GaugeFills returns true at every input, and its arguments read as they did. No condition.
-/
import Derived.SizedLaws
import Derived.Test.YtelmejaiapdgnaaDoorCards
import Derived.Test.YtelmejaiapdgnaaDoorTie
import Derived.Deep.DeepHandedRow
import Derived.LaidLaws
import Derived.Lay
import Derived.SevenTiedAt
import Derived.Test.YtelmejaiapdgnaaDoorGF13
namespace Go.Proofs.YtelmejaiapdgnaaDoor
attribute [local go_sem] ev0 ev1 ev2 ev3 ev4 evA stHOk.eq_1 stHOk.eq_2 stHSt.eq_1 stHSt.eq_2 okV valV fzV okF valF okBld valBld mxOk.eq_1 mxOk.eq_2 mxVal.eq_1 mxVal.eq_2 cellFit.eq_1 cellFit.eq_2 cellFit.eq_3 cellEq.eq_1 cellEq.eq_2 cellEq.eq_3 upd_at AV.flatB AV.flatBs binIok binIV binSok binSV cellsOk.eq_1 cellsOk.eq_2 cellsVal.eq_1 cellsVal.eq_2 objCells.eq_1 objCells.eq_2 objZ.eq_1 objZ.eq_2 objProt.eq_1 objProt.eq_2 oneObj ptrOk.eq_1 ptrOk.eq_2 ptrOk.eq_3 ptrCells.eq_1 ptrCells.eq_2 ptrCells.eq_3 lenOk.eq_1 lenOk.eq_2 lenOk.eq_3 lenOk.eq_4 lenVal.eq_1 lenVal.eq_2 lenVal.eq_3 lenVal.eq_4 faOk.eq_1 faOk.eq_2 faOk.eq_3 faVal.eq_1 faVal.eq_2 faVal.eq_3 iaOk.eq_1 iaOk.eq_2 iaOk.eq_3 iaVal.eq_1 iaVal.eq_2 iaVal.eq_3 slcLen.eq_1 slcLen.eq_2 slcLen.eq_3 slcLen.eq_4 bdOk.eq_1 bdOk.eq_2 bdVal.eq_1 bdVal.eq_2 slcOk.eq_1 slcOk.eq_2 slcOk.eq_3 slcOk.eq_4 slcVal.eq_1 slcVal.eq_2 slcVal.eq_3 slcVal.eq_4 slcFz.eq_1 slcFz.eq_2 loK.eq_1 loK.eq_2 loK.eq_3 rsVal.eq_1 rsVal.eq_2 rsVal.eq_3 byOk.eq_1 byOk.eq_2 byOk.eq_3 byOk.eq_4 byOk.eq_5 byOk.eq_6 byOk.eq_7 byOk.eq_8 byVal.eq_1 byVal.eq_2 byVal.eq_3 byFz.eq_1 byFz.eq_2 byFz.eq_3 byOks byVals byFzs allOne resSt.eq_1 resSt.eq_2 resName.eq_1 resName.eq_2 stOk.eq_1 stOk.eq_2 stArr.eq_1 stArr.eq_2 stSt.eq_1 stSt.eq_2 AV.patch nameOk_none gB.eq_1 gB.eq_2 gB.eq_3 gIs.eq_1 gIs.eq_2 gIs.eq_3 retV resV resVs evalV cellsV St.byval List.getD_cons_zero List.getD_cons_succ List.getD_nil List.map_cons List.map_nil List.length_cons List.length_nil List.take_succ_cons List.take_zero List.drop_succ_cons List.drop_zero List.headD_cons List.set_cons_zero List.append_nil List.nil_append List.cons_append List.contains_cons List.contains_nil List.elem_cons List.elem_nil List.all_cons List.all_nil List.getElem?_cons_zero List.getElem?_cons_succ List.filterMap_cons List.filterMap_nil Option.isSome_some Option.isSome_none Option.map_some Option.map_none Option.some.injEq AV.int.injEq AV.bool.injEq AV.str.injEq AV.tup.injEq AV.agg.injEq AV.sl.injEq List.cons.injEq Bool.false_eq_true Bool.true_eq_false Bool.not_true Bool.not_false Bool.and_true Bool.true_and Bool.or_false Bool.or_true Bool.false_or Bool.true_or Bool.or_self Bool.and_self Bool.not_eq_true' Bool.not_eq_false' Bool.not_not beq_self_eq_true true_and and_true false_and and_false and_self not_true_eq_false not_false_eq_true forall_const true_implies false_implies implies_true imp_self Nat.lt_add_one Nat.le_refl Nat.zero_le Nat.add_zero Nat.zero_add decide_true decide_false decide_eq_true_eq decide_eq_false_iff_not exists_eq_left exists_eq_left' ge_iff_le gt_iff_lt ite_branch ite_branch' nilOk.eq_1 nilOk.eq_2 nilMay.eq_1 nilMay.eq_2 AV.isSl.eq_1 objTy'.eq_1 objTy'.eq_2 apSt.eq_1 apArr.eq_1 apArr.eq_2 apTwo.eq_1 apTwo.eq_2 apSt2.eq_1 apArr2.eq_1 apArr2.eq_2 slOf.eq_1 fitsV List.mem_cons List.not_mem_nil Bool.false_and Bool.and_false primOk.eq_1 primOk.eq_2 primOk.eq_3 primOk.eq_4 primOk.eq_5 primVal.eq_1 primVal.eq_2 primVal.eq_3 primVal.eq_4 primVal.eq_5 mOk.eq_1 mOk.eq_2 mVal.eq_1 mVal.eq_2 mFz.eq_1 mFz.eq_2 mOks mVals mFzs mCalOk.eq_1 mCalOk.eq_2 mFn.eq_1 mFn.eq_2 mArgs.eq_1 mArgs.eq_2 ckOk.eq_1 ckOk.eq_2 cloOk.eq_1 ptrAt.eq_1 sh.eq_1 sh.eq_2 sh.eq_3 sh.eq_4 sh.eq_5 sh.eq_6 retM shH_small evM entOk.eq_1 entOk.eq_2 ents.eq_1 ents.eq_2 kI.eq_1 mpOk.eq_1 mpR.eq_1 lkV.eq_1 lkV.eq_2 remp.eq_2 evP pvOk.eq_1 pvOk.eq_2 pvVal.eq_1 pvVal.eq_2 plOk.eq_1 plOk.eq_2 plOk.eq_3 plV.eq_1 plV.eq_2 plF.eq_1 plF.eq_2 plVal.eq_1 plVal.eq_2 plFz.eq_1 plFz.eq_2 lpOk.eq_1 lpOk.eq_2 lpVal.eq_1 lpVal.eq_2 lpFz.eq_1 lpFz.eq_2 stpOk.eq_1 stpOk.eq_2 stpSt.eq_1 stpSt.eq_2 stpArr.eq_1 keepS.eq_1 keepS.eq_2
section
/-
  The law of how full the leaves are: walked.
-/
open Go.RowKit
set_option linter.unusedVariables false
set_option linter.unusedSimpArgs false
set_option maxRecDepth 100000
attribute [local go_sem ↓] runOp headOp
/-! ### percolate/percolatelaw50.GaugeFills -/
def r_gGF_0 : Reg := ⟨[], [⟨(.box 5 23 (.t 0)), (some 3), none, [], []⟩, ⟨(.mv (.c (.bool false))), (some 6), none, [], []⟩], [3], [], false⟩
def t_gGF_1 : List ROp := [⟨(.mv (.t 1)), (some 14), none, [15], []⟩, ⟨(.callv (.c (.clo 6 [] [])) [(.t 14), (.c (.int .i64 60)), (.c (.int .i64 1000))]), (some 15), none, [], []⟩, ⟨(.un .not (.t 15)), (some 16), none, [], []⟩, ⟨(.mv (.t 16)), (some 17), none, [], []⟩, ⟨(.faddr 1 (.t 3)), (some 18), (some (17, false)), [], []⟩, ⟨(.load 1 false (.t 18)), (some 19), (some (17, false)), [], []⟩, ⟨(.bin .gtr (.t 19) (.c (.int .i64 1099511627776))), (some 20), (some (17, false)), [], []⟩, ⟨(.pick (.t 17) (.c (.bool true)) (.t 20)), (some 21), none, [], []⟩]
def r_gGF_1 : Reg := ⟨[], t_gGF_1, [15], [], false⟩
def r_gGF_2 : Reg := ⟨[], [⟨(.callv (.c (.clo 7 [] [])) []), (some 22), none, [], []⟩, ⟨(.mv (.t 22)), (some 6), none, [], []⟩], [22], [], false⟩
def t_gGF_3 : List ROp := [⟨(.callv (.c (.clo 9 [] [])) [(.t 26), (.t 27)]), (some 28), none, [], []⟩, ⟨(.mv (.t 25)), (some 7), none, [], []⟩, ⟨(.mv (.t 28)), (some 8), none, [], []⟩]
def h_gGF_3 : List ROp := [⟨(.load 5 true (.t 3)), (some 23), none, [25, 28], []⟩, ⟨(.mv (.t 1)), (some 24), none, [25, 28], []⟩, ⟨(.callv (.c (.clo 8 [] [])) [(.t 23), (.t 24)]), (some 25), none, [28], []⟩, ⟨(.load 5 true (.t 3)), (some 26), none, [25, 28], []⟩, ⟨(.mv (.t 2)), (some 27), none, [25, 28], []⟩]
def r_gGF_3 : Reg := ⟨h_gGF_3, t_gGF_3, [25, 28], [], true⟩
def t_gGF_4 : List ROp := [⟨(.faddr 1 (.t 3)), (some 29), none, [], []⟩, ⟨(.load 1 false (.t 29)), (some 30), none, [], []⟩, ⟨(.bin .lss (.t 30) (.c (.int .i64 1))), (some 31), none, [], []⟩]
def r_gGF_4 : Reg := ⟨[], t_gGF_4, [], [], false⟩
def t_gGF_5 : List ROp := [⟨(.mv (.t 7)), (some 32), none, [39], []⟩, ⟨(.bin .eql (.t 32) (.c (.int .i64 0))), (some 33), none, [39], []⟩, ⟨(.mv (.t 33)), (some 34), none, [39], []⟩, ⟨(.mv (.t 8)), (some 35), (some (34, true)), [39], []⟩, ⟨(.bin .eql (.t 35) (.c (.int .i64 0))), (some 36), (some (34, true)), [39], []⟩, ⟨(.pick (.t 34) (.t 36) (.c (.bool false))), (some 37), none, [39], []⟩, ⟨(.mv (.t 37)), (some 38), none, [39], []⟩, ⟨(.callv (.c (.clo 7 [] [])) []), (some 39), (some (38, true)), [], []⟩, ⟨(.pick (.t 38) (.t 39) (.c (.bool false))), (some 40), none, [], []⟩, ⟨(.mv (.t 40)), (some 6), none, [], []⟩]
def r_gGF_5 : Reg := ⟨[], t_gGF_5, [39], [], false⟩
def r_gGF_6 : Reg := ⟨[], [⟨(.mv (.c (.int .i64 0))), (some 9), none, [], []⟩, ⟨(.mv (.c (.int .i64 0))), (some 10), none, [], []⟩], [], [], false⟩
def t_gGF_7 : List ROp := [⟨(.mv (.t 1)), (some 41), none, [], []⟩, ⟨(.len false (.t 41)), (some 42), none, [], []⟩, ⟨(.mv (.c (.int .i64 0))), (some 43), none, [], []⟩]
def r_gGF_7 : Reg := ⟨[], t_gGF_7, [], [], false⟩
def r_gGF_8 : Reg := ⟨[], [⟨(.bin .lss (.t 43) (.t 42)), (some 44), none, [], []⟩], [], [], false⟩
def t_gGF_9 : List ROp := [⟨(.iaddr 10 (.t 41) (.t 43)), (some 45), none, [12], []⟩, ⟨(.load 10 true (.t 45)), (some 46), none, [12], []⟩, ⟨(.alloc 10 34 (.agg [(.int .i64 0), (.int .i64 0), (.sl []), (.sl []), (.str ⟨#[]⟩), (.bool false), (.int .i64 0), (.int .i64 0), (.sl []), (.sl [])])), (some 12), none, [], []⟩, ⟨(.store 10 (.t 12) (.t 46)), none, none, [], []⟩]
def r_gGF_9 : Reg := ⟨[], t_gGF_9, [12], [], false⟩
def t_gGF_10 : List ROp := [⟨(.faddr 1 (.t 12)), (some 47), none, [], []⟩, ⟨(.load 1 false (.t 47)), (some 48), none, [], []⟩, ⟨(.bin .eql (.t 48) (.c (.int .i64 0))), (some 49), none, [], []⟩]
def r_gGF_10 : Reg := ⟨[], t_gGF_10, [], [], false⟩
def t_gGF_11 : List ROp := [⟨(.mv (.t 9)), (some 50), none, [], []⟩, ⟨(.bin .add (.t 50) (.c (.int .i64 1))), (some 51), none, [], []⟩, ⟨(.mv (.t 51)), (some 9), none, [], []⟩]
def r_gGF_11 : Reg := ⟨[], t_gGF_11, [], [], false⟩
def t_gGF_12 : List ROp := [⟨(.mv (.t 10)), (some 52), none, [], []⟩, ⟨(.faddr 9 (.t 12)), (some 53), none, [], []⟩, ⟨(.load 1 false (.t 53)), (some 54), none, [], []⟩, ⟨(.len false (.t 54)), (some 55), none, [], []⟩, ⟨(.bin .add (.t 52) (.t 55)), (some 56), none, [], []⟩, ⟨(.mv (.t 56)), (some 10), none, [], []⟩]
def r_gGF_12 : Reg := ⟨[], t_gGF_12, [], [], false⟩
def r_gGF_13 : Reg := ⟨[], [⟨(.bin .add (.t 43) (.c (.int .i64 1))), (some 57), none, [], []⟩, ⟨(.mv (.t 57)), (some 43), none, [], []⟩], [], [], false⟩
def r_gGF_l14 : IR := (.seq (.reg r_gGF_8)
  (.seq (.cond (.t 44) .skip
  (.exit 0))
  (.seq (.block 1 (.seq (.reg r_gGF_9)
  (.seq (.reg r_gGF_10)
  (.cond (.t 49) (.seq (.reg r_gGF_11)
  (.reg r_gGF_12))
  .skip))))
  (.reg r_gGF_13))))
def t_gGF_15 : List ROp := [⟨(.mv (.t 9)), (some 58), none, [], []⟩, ⟨(.bin .eql (.t 58) (.c (.int .i64 0))), (some 59), none, [], []⟩, ⟨(.mv (.t 59)), (some 60), none, [], []⟩, ⟨(.mv (.t 7)), (some 61), (some (60, true)), [], []⟩, ⟨(.bin .neq (.t 61) (.c (.int .i64 0))), (some 62), (some (60, true)), [], []⟩, ⟨(.pick (.t 60) (.t 62) (.c (.bool false))), (some 63), none, [], []⟩, ⟨(.mv (.t 63)), (some 64), none, [], []⟩, ⟨(.mv (.t 9)), (some 65), (some (64, false)), [], []⟩, ⟨(.bin .gtr (.t 65) (.c (.int .i64 0))), (some 66), (some (64, false)), [], []⟩, ⟨(.mv (.t 66)), (some 67), (some (64, false)), [], []⟩, ⟨(.mv (.t 7)), (some 68), (some (67, true)), [], []⟩, ⟨(.mv (.t 9)), (some 69), (some (67, true)), [], []⟩, ⟨(.bin .mul (.t 68) (.t 69)), (some 70), (some (67, true)), [], []⟩, ⟨(.faddr 1 (.t 3)), (some 71), (some (67, true)), [], []⟩, ⟨(.load 1 false (.t 71)), (some 72), (some (67, true)), [], []⟩, ⟨(.bin .mul (.t 70) (.t 72)), (some 73), (some (67, true)), [], []⟩, ⟨(.mv (.t 10)), (some 74), (some (67, true)), [], []⟩, ⟨(.bin .mul (.t 74) (.c (.int .i64 100))), (some 75), (some (67, true)), [], []⟩, ⟨(.bin .gtr (.t 73) (.t 75)), (some 76), (some (67, true)), [], []⟩, ⟨(.mv (.t 76)), (some 77), (some (67, true)), [], []⟩, ⟨(.mv (.t 7)), (some 78), (some (77, false)), [], []⟩, ⟨(.bin .add (.t 78) (.c (.int .i64 1))), (some 79), (some (77, false)), [], []⟩, ⟨(.mv (.t 9)), (some 80), (some (77, false)), [], []⟩, ⟨(.bin .mul (.t 79) (.t 80)), (some 81), (some (77, false)), [], []⟩, ⟨(.faddr 1 (.t 3)), (some 82), (some (77, false)), [], []⟩, ⟨(.load 1 false (.t 82)), (some 83), (some (77, false)), [], []⟩, ⟨(.bin .mul (.t 81) (.t 83)), (some 84), (some (77, false)), [], []⟩, ⟨(.mv (.t 10)), (some 85), (some (77, false)), [], []⟩, ⟨(.bin .mul (.t 85) (.c (.int .i64 100))), (some 86), (some (77, false)), [], []⟩, ⟨(.bin .leq (.t 84) (.t 86)), (some 87), (some (77, false)), [], []⟩, ⟨(.pick (.t 77) (.c (.bool true)) (.t 87)), (some 88), (some (67, true)), [], []⟩, ⟨(.pick (.t 67) (.t 88) (.c (.bool false))), (some 89), (some (64, false)), [], []⟩, ⟨(.pick (.t 64) (.c (.bool true)) (.t 89)), (some 90), none, [], []⟩]
def r_gGF_15 : Reg := ⟨[], t_gGF_15, [], [], false⟩
def r_gGF_16 : Reg := ⟨[], [⟨(.mv (.c (.bool false))), (some 6), none, [], []⟩], [], [], false⟩
def t_gGF_17 : List ROp := [⟨(.mv (.t 2)), (some 91), none, [], []⟩, ⟨(.mx true (.t 91) (.c (.int .i64 0))), (some 92), none, [], []⟩, ⟨(.mv (.t 92)), (some 13), none, [], []⟩]
def r_gGF_17 : Reg := ⟨[], t_gGF_17, [], [], false⟩
def t_gGF_18 : List ROp := [⟨(.mv (.t 8)), (some 93), none, [132], []⟩, ⟨(.bin .geq (.t 93) (.c (.int .i64 1))), (some 94), none, [132], []⟩, ⟨(.mv (.t 94)), (some 95), none, [132], []⟩, ⟨(.mv (.t 8)), (some 96), (some (95, true)), [132], []⟩, ⟨(.bin .sub (.t 96) (.c (.int .i64 1))), (some 97), (some (95, true)), [132], []⟩, ⟨(.bin .eql (.t 97) (.c (.int .i64 0))), (some 98), (some (95, true)), [132], []⟩, ⟨(.mv (.t 98)), (some 99), (some (95, true)), [132], []⟩, ⟨(.mv (.t 8)), (some 100), (some (99, false)), [132], []⟩, ⟨(.bin .sub (.t 100) (.c (.int .i64 1))), (some 101), (some (99, false)), [132], []⟩, ⟨(.mv (.t 13)), (some 102), (some (99, false)), [132], []⟩, ⟨(.bin .sub (.t 102) (.c (.int .i64 1))), (some 103), (some (99, false)), [132], []⟩, ⟨(.faddr 1 (.t 3)), (some 104), (some (99, false)), [132], []⟩, ⟨(.load 1 false (.t 104)), (some 105), (some (99, false)), [132], []⟩, ⟨(.bin .quo (.t 103) (.t 105)), (some 106), (some (99, false)), [132], []⟩, ⟨(.bin .leq (.t 101) (.t 106)), (some 107), (some (99, false)), [132], []⟩, ⟨(.pick (.t 99) (.c (.bool true)) (.t 107)), (some 108), (some (95, true)), [132], []⟩, ⟨(.pick (.t 95) (.t 108) (.c (.bool false))), (some 109), none, [132], []⟩, ⟨(.mv (.t 109)), (some 110), none, [132], []⟩, ⟨(.mv (.t 13)), (some 111), (some (110, true)), [132], []⟩, ⟨(.bin .eql (.t 111) (.c (.int .i64 0))), (some 112), (some (110, true)), [132], []⟩, ⟨(.mv (.t 112)), (some 113), (some (110, true)), [132], []⟩, ⟨(.mv (.t 8)), (some 114), (some (113, true)), [132], []⟩, ⟨(.bin .eql (.t 114) (.c (.int .i64 1))), (some 115), (some (113, true)), [132], []⟩, ⟨(.pick (.t 113) (.t 115) (.c (.bool false))), (some 116), (some (110, true)), [132], []⟩, ⟨(.mv (.t 116)), (some 117), (some (110, true)), [132], []⟩, ⟨(.mv (.t 13)), (some 118), (some (117, false)), [132], []⟩, ⟨(.bin .gtr (.t 118) (.c (.int .i64 0))), (some 119), (some (117, false)), [132], []⟩, ⟨(.mv (.t 119)), (some 120), (some (117, false)), [132], []⟩, ⟨(.mv (.t 8)), (some 121), (some (120, true)), [132], []⟩, ⟨(.mv (.t 13)), (some 122), (some (120, true)), [132], []⟩, ⟨(.bin .sub (.t 122) (.c (.int .i64 1))), (some 123), (some (120, true)), [132], []⟩, ⟨(.faddr 1 (.t 3)), (some 124), (some (120, true)), [132], []⟩, ⟨(.load 1 false (.t 124)), (some 125), (some (120, true)), [132], []⟩, ⟨(.bin .quo (.t 123) (.t 125)), (some 126), (some (120, true)), [132], []⟩, ⟨(.bin .gtr (.t 121) (.t 126)), (some 127), (some (120, true)), [132], []⟩, ⟨(.pick (.t 120) (.t 127) (.c (.bool false))), (some 128), (some (117, false)), [132], []⟩, ⟨(.pick (.t 117) (.c (.bool true)) (.t 128)), (some 129), (some (110, true)), [132], []⟩, ⟨(.pick (.t 110) (.t 129) (.c (.bool false))), (some 130), none, [132], []⟩, ⟨(.mv (.t 130)), (some 131), none, [132], []⟩, ⟨(.callv (.c (.clo 7 [] [])) []), (some 132), (some (131, true)), [], []⟩, ⟨(.pick (.t 131) (.t 132) (.c (.bool false))), (some 133), none, [], []⟩, ⟨(.mv (.t 133)), (some 6), none, [], []⟩]
def r_gGF_18 : Reg := ⟨[], t_gGF_18, [132], [], false⟩
def ir_gGF : IR := (.seq (.reg r_gGF_0)
  (.seq (.seq (.reg r_gGF_1)
  (.cond (.t 21) (.seq (.reg r_gGF_2)
  .ret)
  .skip))
  (.seq (.reg r_gGF_3)
  (.seq (.seq (.reg r_gGF_4)
  (.cond (.t 31) (.seq (.reg r_gGF_5)
  .ret)
  .skip))
  (.seq (.reg r_gGF_6)
  (.seq (.seq (.reg r_gGF_7)
  (.block 0 (.loop r_gGF_l14)))
  (.seq (.seq (.reg r_gGF_15)
  (.cond (.t 90) (.seq (.reg r_gGF_16)
  .ret)
  .skip))
  (.seq (.reg r_gGF_17)
  (.seq (.reg r_gGF_18)
  .ret)))))))))
def res_gGF : List RDesc := [(.tmp 6)]
theorem e_gGF_0 (C : FuncId → List AV → AV → Prop) (σ : St) (K : St → Prop) : runReg C r_gGF_0 σ K = runOps C [⟨(.box 5 23 (.t 0)), (some 3), none, [], []⟩, ⟨(.mv (.c (.bool false))), (some 6), none, [], []⟩] (σ.kills [3]) K := rfl
theorem e_gGF_1 (C : FuncId → List AV → AV → Prop) (σ : St) (K : St → Prop) : runReg C r_gGF_1 σ K = runOps C t_gGF_1 (σ.kills [15]) K := rfl
theorem e_gGF_2 (C : FuncId → List AV → AV → Prop) (σ : St) (K : St → Prop) : runReg C r_gGF_2 σ K = runOps C [⟨(.callv (.c (.clo 7 [] [])) []), (some 22), none, [], []⟩, ⟨(.mv (.t 22)), (some 6), none, [], []⟩] (σ.kills [22]) K := rfl
theorem e_gGF_3 (C : FuncId → List AV → AV → Prop) (σ : St) (K : St → Prop) : runReg C r_gGF_3 σ K = runHead C [] t_gGF_3 h_gGF_3 (σ.kills [25, 28]) K := rfl
theorem e_gGF_4 (C : FuncId → List AV → AV → Prop) (σ : St) (K : St → Prop) : runReg C r_gGF_4 σ K = runOps C t_gGF_4 (σ.kills []) K := rfl
theorem e_gGF_5 (C : FuncId → List AV → AV → Prop) (σ : St) (K : St → Prop) : runReg C r_gGF_5 σ K = runOps C t_gGF_5 (σ.kills [39]) K := rfl
theorem e_gGF_6 (C : FuncId → List AV → AV → Prop) (σ : St) (K : St → Prop) : runReg C r_gGF_6 σ K = runOps C [⟨(.mv (.c (.int .i64 0))), (some 9), none, [], []⟩, ⟨(.mv (.c (.int .i64 0))), (some 10), none, [], []⟩] (σ.kills []) K := rfl
theorem e_gGF_7 (C : FuncId → List AV → AV → Prop) (σ : St) (K : St → Prop) : runReg C r_gGF_7 σ K = runOps C t_gGF_7 (σ.kills []) K := rfl
theorem e_gGF_8 (C : FuncId → List AV → AV → Prop) (σ : St) (K : St → Prop) : runReg C r_gGF_8 σ K = runOps C [⟨(.bin .lss (.t 43) (.t 42)), (some 44), none, [], []⟩] (σ.kills []) K := rfl
theorem e_gGF_9 (C : FuncId → List AV → AV → Prop) (σ : St) (K : St → Prop) : runReg C r_gGF_9 σ K = runOps C t_gGF_9 (σ.kills [12]) K := rfl
theorem e_gGF_10 (C : FuncId → List AV → AV → Prop) (σ : St) (K : St → Prop) : runReg C r_gGF_10 σ K = runOps C t_gGF_10 (σ.kills []) K := rfl
theorem e_gGF_11 (C : FuncId → List AV → AV → Prop) (σ : St) (K : St → Prop) : runReg C r_gGF_11 σ K = runOps C t_gGF_11 (σ.kills []) K := rfl
theorem e_gGF_12 (C : FuncId → List AV → AV → Prop) (σ : St) (K : St → Prop) : runReg C r_gGF_12 σ K = runOps C t_gGF_12 (σ.kills []) K := rfl
theorem e_gGF_13 (C : FuncId → List AV → AV → Prop) (σ : St) (K : St → Prop) : runReg C r_gGF_13 σ K = runOps C [⟨(.bin .add (.t 43) (.c (.int .i64 1))), (some 57), none, [], []⟩, ⟨(.mv (.t 57)), (some 43), none, [], []⟩] (σ.kills []) K := rfl
theorem e_gGF_15 (C : FuncId → List AV → AV → Prop) (σ : St) (K : St → Prop) : runReg C r_gGF_15 σ K = runOps C t_gGF_15 (σ.kills []) K := rfl
theorem e_gGF_16 (C : FuncId → List AV → AV → Prop) (σ : St) (K : St → Prop) : runReg C r_gGF_16 σ K = runOps C [⟨(.mv (.c (.bool false))), (some 6), none, [], []⟩] (σ.kills []) K := rfl
theorem e_gGF_17 (C : FuncId → List AV → AV → Prop) (σ : St) (K : St → Prop) : runReg C r_gGF_17 σ K = runOps C t_gGF_17 (σ.kills []) K := rfl
theorem e_gGF_18 (C : FuncId → List AV → AV → Prop) (σ : St) (K : St → Prop) : runReg C r_gGF_18 σ K = runOps C t_gGF_18 (σ.kills [132]) K := rfl
theorem fn_gGF {args : List AV} {r : AV} (ha : args.length.ble Tryd.f3.ntmps = true) (h : run (AFn Tryd.prog) ir_gGF (endQ res_gGF r) (initSt args)) : AFn Tryd.prog 3 args r :=
  AFn.of_code (pv := false) (hint := fun _ => []) (c := Tryd.f3.body.getD .skip) (by kernel_rfl) (by kernel_rfl) Tryd.func3 (by kernel_rfl) (by kernel_rfl) (by kernel_rfl) (of_decide_eq_true (by kernel_rfl)) (Nat.le_of_ble_eq_true ha) (Nat.le_of_ble_eq_true (by kernel_rfl)) (run_ok h)
attribute [local go_sem ↓] ir_gGF
attribute [local go_sem] res_gGF e_gGF_0 e_gGF_1 t_gGF_1 e_gGF_2 e_gGF_3 t_gGF_3 h_gGF_3 e_gGF_4 t_gGF_4 e_gGF_5 t_gGF_5 e_gGF_6 e_gGF_7 t_gGF_7 e_gGF_8 e_gGF_9 t_gGF_9 e_gGF_10 t_gGF_10 e_gGF_11 t_gGF_11 e_gGF_12 t_gGF_12 e_gGF_13 e_gGF_15 t_gGF_15 e_gGF_16 e_gGF_17 t_gGF_17 e_gGF_18 t_gGF_18
def gfI (c : Cfg) (l : List Nd) (p f n : Int) (k : Nat) (σ : St) : Prop :=
  ∃ i : Nat, i ≤ l.length ∧ k = l.length - i ∧ σ.T 2 = .int .i64 p ∧ σ.T 3 = .ptr 3 0 0 ∧ σ.H 3 = some ⟨5, 23, [c.a], 0⟩ ∧ σ.T 7 = .int .i64 f ∧ σ.T 8 = .int .i64 n ∧ σ.T 9 = .int .i64 (lvs (l.take i) : Nat) ∧ σ.T 10 = .int .i64 (lrw (l.take i) : Nat) ∧ σ.T 41 = .sl (l.map Nd.a) ∧ σ.T 42 = .int .i64 l.length ∧ σ.T 43 = .int .i64 i
/-- how many leaves are needed: the two bounds -/
theorem least_two {c : Cfg} {p : Int} (hc : 1 ≤ c.leaf) : (p ≤ 0 ∧ leastF c p = 1) ∨ (0 < p ∧ leastF c p = (p - 1).tdiv c.leaf + 1 ∧ 0 ≤ (p - 1).tdiv c.leaf ∧ (p - 1).tdiv c.leaf ≤ p - 1) := by
  unfold leastF
  rw [if_neg (by omega)]
  by_cases h : p ≤ 0
  · exact .inl ⟨h, if_pos h⟩
  · have ll := least_law (p := p) (c := c.leaf) (by omega) (by omega)
    exact .inr ⟨by omega, if_neg h, ll.2.1, ll.2.2⟩
set_option maxHeartbeats 16000000 in
theorem fills50_law (c : Cfg) (l : List Nd) (p : Int) (hs : ∀ x, x ∈ l → x.ok) (hl : l.length ≤ 281474976710656) (hp : -9223372036854775808 ≤ p ∧ p ≤ 9223372036854775807) : AFn Tryd.prog 3 [c.a, .sl (l.map Nd.a), .int .i64 p] (.bool true) := by
  refine fn_gGF rfl ?_
  have aw := awk50_ok
  have cL := light_ok l 60 1000 (by decide) (by decide) hs hl
  cases hL : lightB l 60 1000 with
  | false =>
    rw [hL] at cL
    (repeat (first | simp (maxSteps := 4000000) only [go_sem, ↓reduceIte, reduceCtorEq, Nat.reduceEqDiff, Nat.reduceBEq, Nat.reduceAdd, Nat.reduceSub, Nat.reduceMul, Nat.reduceLT, Nat.reduceLeDiff, Nat.reduceBNe, Int.reduceBEq, Int.reduceBNe, Int.reduceLT, Int.reduceLE, evG, evP, Nat.reduceMod, Nat.reduceDiv, Nat.reduceSub, Nat.reduceLeDiff, Nat.reduceMul, Nat.reduceAdd, Msg.a, Par.a, Cfg.a] | refine calling (cL) ?_ | refine callingH (cL) ?_ | refine calling (aw) ?_ | refine callingH (aw) ?_ | refine And.intro (by omega) ?_ | refine And.intro (fun d hd => by (repeat (rcases hd with rfl | hd; · exact ⟨rfl, rfl⟩)); cases hd) ?_))
  | true =>
    rw [hL] at cL
    by_cases hbig : c.leaf > 1099511627776
    · (repeat (first | simp (maxSteps := 4000000) only [go_sem, ↓reduceIte, reduceCtorEq, Nat.reduceEqDiff, Nat.reduceBEq, Nat.reduceAdd, Nat.reduceSub, Nat.reduceMul, Nat.reduceLT, Nat.reduceLeDiff, Nat.reduceBNe, Int.reduceBEq, Int.reduceBNe, Int.reduceLT, Int.reduceLE, evG, evP, Nat.reduceMod, Nat.reduceDiv, Nat.reduceSub, Nat.reduceLeDiff, Nat.reduceMul, Nat.reduceAdd, Msg.a, Par.a, Cfg.a, hbig] | refine calling (cL) ?_ | refine callingH (cL) ?_ | refine calling (aw) ?_ | refine callingH (aw) ?_ | refine And.intro (by omega) ?_ | refine And.intro (fun d hd => by (repeat (rcases hd with rfl | hd; · exact ⟨rfl, rfl⟩)); cases hd) ?_))
    unfold lightB at hL
    rw [Bool.and_eq_true, decide_eq_true_eq, List.all_eq_true] at hL
    obtain ⟨hl60, hall⟩ := hL
    have hl60 : l.length ≤ 60 := by omega
    have hg : ∀ x, x ∈ l → x.rows.length ≤ 1000 := fun x hx => (gd_of (hall x hx)).rows
    have c1 := gFl_ok c l hl60 hg (by omega)
    have c2 := gLs_ok c p hp
    by_cases hc1 : c.leaf < 1
    · rw [show fillF c l = 0 from if_pos (.inr hc1)] at c1
      rw [show leastF c p = 0 from if_pos hc1] at c2
      simp only [Cfg.a] at c1 c2
      (repeat (first | simp (maxSteps := 4000000) only [go_sem, ↓reduceIte, reduceCtorEq, Nat.reduceEqDiff, Nat.reduceBEq, Nat.reduceAdd, Nat.reduceSub, Nat.reduceMul, Nat.reduceLT, Nat.reduceLeDiff, Nat.reduceBNe, Int.reduceBEq, Int.reduceBNe, Int.reduceLT, Int.reduceLE, evG, evP, Nat.reduceMod, Nat.reduceDiv, Nat.reduceSub, Nat.reduceLeDiff, Nat.reduceMul, Nat.reduceAdd, Msg.a, Par.a, Cfg.a, hbig, hc1] | refine calling (cL) ?_ | refine callingH (cL) ?_ | refine calling (c1) ?_ | refine callingH (c1) ?_ | refine calling (c2) ?_ | refine callingH (c2) ?_ | refine calling (aw) ?_ | refine callingH (aw) ?_ | refine And.intro (by omega) ?_ | refine And.intro (fun d hd => by (repeat (rcases hd with rfl | hd; · exact ⟨rfl, rfl⟩)); cases hd) ?_))
    have l2 := least_two (c := c) (p := p) (by omega)
    obtain ⟨f, hf⟩ : ∃ f, fillF c l = f := ⟨_, rfl⟩
    obtain ⟨n, hn⟩ : ∃ n, leastF c p = n := ⟨_, rfl⟩
    rw [hf] at c1
    rw [hn] at c2 l2
    simp only [Cfg.a] at c1 c2
    (repeat (first | simp (maxSteps := 4000000) only [go_sem, ↓reduceIte, reduceCtorEq, Nat.reduceEqDiff, Nat.reduceBEq, Nat.reduceAdd, Nat.reduceSub, Nat.reduceMul, Nat.reduceLT, Nat.reduceLeDiff, Nat.reduceBNe, Int.reduceBEq, Int.reduceBNe, Int.reduceLT, Int.reduceLE, evG, evP, Nat.reduceMod, Nat.reduceDiv, Nat.reduceSub, Nat.reduceLeDiff, Nat.reduceMul, Nat.reduceAdd, Msg.a, Par.a, Cfg.a, hbig, hc1, List.length_map] | refine calling (cL) ?_ | refine callingH (cL) ?_ | refine calling (c1) ?_ | refine callingH (c1) ?_ | refine calling (c2) ?_ | refine callingH (c2) ?_ | refine And.intro (by omega) ?_ | refine And.intro (fun d hd => by (repeat (rcases hd with rfl | hd; · exact ⟨rfl, rfl⟩)); cases hd) ?_))
    refine run_loop (gfI c l p f n) (k := l.length) ⟨0, Nat.zero_le _, rfl, ?_, ?_, ?_, ?_, ?_, ?_, ?_, ?_, ?_, ?_⟩ ?_
    · simp (maxSteps := 4000000) only [go_sem, ↓reduceIte, reduceCtorEq, Nat.reduceEqDiff, Nat.reduceBEq, Nat.reduceAdd, Nat.reduceSub, Nat.reduceMul, Nat.reduceLT, Nat.reduceLeDiff, Nat.reduceBNe, Int.reduceBEq, Int.reduceBNe, Int.reduceLT, Int.reduceLE, evG, evP, Nat.reduceMod, Nat.reduceDiv, Nat.reduceSub, Nat.reduceLeDiff, Nat.reduceMul, Nat.reduceAdd, Msg.a, Par.a]
    · simp (maxSteps := 4000000) only [go_sem, ↓reduceIte, reduceCtorEq, Nat.reduceEqDiff, Nat.reduceBEq, Nat.reduceAdd, Nat.reduceSub, Nat.reduceMul, Nat.reduceLT, Nat.reduceLeDiff, Nat.reduceBNe, Int.reduceBEq, Int.reduceBNe, Int.reduceLT, Int.reduceLE, evG, evP, Nat.reduceMod, Nat.reduceDiv, Nat.reduceSub, Nat.reduceLeDiff, Nat.reduceMul, Nat.reduceAdd, Msg.a, Par.a]
    · (simp (maxSteps := 4000000) only [go_sem, ↓reduceIte, reduceCtorEq, Nat.reduceEqDiff, Nat.reduceBEq, Nat.reduceAdd, Nat.reduceSub, Nat.reduceMul, Nat.reduceLT, Nat.reduceLeDiff, Nat.reduceBNe, Int.reduceBEq, Int.reduceBNe, Int.reduceLT, Int.reduceLE, evG, evP, Nat.reduceMod, Nat.reduceDiv, Nat.reduceSub, Nat.reduceLeDiff, Nat.reduceMul, Nat.reduceAdd, Msg.a, Par.a, Cfg.a]) <;> rfl
    · simp (maxSteps := 4000000) only [go_sem, ↓reduceIte, reduceCtorEq, Nat.reduceEqDiff, Nat.reduceBEq, Nat.reduceAdd, Nat.reduceSub, Nat.reduceMul, Nat.reduceLT, Nat.reduceLeDiff, Nat.reduceBNe, Int.reduceBEq, Int.reduceBNe, Int.reduceLT, Int.reduceLE, evG, evP, Nat.reduceMod, Nat.reduceDiv, Nat.reduceSub, Nat.reduceLeDiff, Nat.reduceMul, Nat.reduceAdd, Msg.a, Par.a]
    · simp (maxSteps := 4000000) only [go_sem, ↓reduceIte, reduceCtorEq, Nat.reduceEqDiff, Nat.reduceBEq, Nat.reduceAdd, Nat.reduceSub, Nat.reduceMul, Nat.reduceLT, Nat.reduceLeDiff, Nat.reduceBNe, Int.reduceBEq, Int.reduceBNe, Int.reduceLT, Int.reduceLE, evG, evP, Nat.reduceMod, Nat.reduceDiv, Nat.reduceSub, Nat.reduceLeDiff, Nat.reduceMul, Nat.reduceAdd, Msg.a, Par.a]
    · (simp (maxSteps := 4000000) only [go_sem, ↓reduceIte, reduceCtorEq, Nat.reduceEqDiff, Nat.reduceBEq, Nat.reduceAdd, Nat.reduceSub, Nat.reduceMul, Nat.reduceLT, Nat.reduceLeDiff, Nat.reduceBNe, Int.reduceBEq, Int.reduceBNe, Int.reduceLT, Int.reduceLE, evG, evP, Nat.reduceMod, Nat.reduceDiv, Nat.reduceSub, Nat.reduceLeDiff, Nat.reduceMul, Nat.reduceAdd, Msg.a, Par.a]) <;> rfl
    · (simp (maxSteps := 4000000) only [go_sem, ↓reduceIte, reduceCtorEq, Nat.reduceEqDiff, Nat.reduceBEq, Nat.reduceAdd, Nat.reduceSub, Nat.reduceMul, Nat.reduceLT, Nat.reduceLeDiff, Nat.reduceBNe, Int.reduceBEq, Int.reduceBNe, Int.reduceLT, Int.reduceLE, evG, evP, Nat.reduceMod, Nat.reduceDiv, Nat.reduceSub, Nat.reduceLeDiff, Nat.reduceMul, Nat.reduceAdd, Msg.a, Par.a]) <;> rfl
    · simp (maxSteps := 4000000) only [go_sem, ↓reduceIte, reduceCtorEq, Nat.reduceEqDiff, Nat.reduceBEq, Nat.reduceAdd, Nat.reduceSub, Nat.reduceMul, Nat.reduceLT, Nat.reduceLeDiff, Nat.reduceBNe, Int.reduceBEq, Int.reduceBNe, Int.reduceLT, Int.reduceLE, evG, evP, Nat.reduceMod, Nat.reduceDiv, Nat.reduceSub, Nat.reduceLeDiff, Nat.reduceMul, Nat.reduceAdd, Msg.a, Par.a]
    · simp (maxSteps := 4000000) only [go_sem, ↓reduceIte, reduceCtorEq, Nat.reduceEqDiff, Nat.reduceBEq, Nat.reduceAdd, Nat.reduceSub, Nat.reduceMul, Nat.reduceLT, Nat.reduceLeDiff, Nat.reduceBNe, Int.reduceBEq, Int.reduceBNe, Int.reduceLT, Int.reduceLE, evG, evP, Nat.reduceMod, Nat.reduceDiv, Nat.reduceSub, Nat.reduceLeDiff, Nat.reduceMul, Nat.reduceAdd, Msg.a, Par.a, List.length_map]
    · (simp (maxSteps := 4000000) only [go_sem, ↓reduceIte, reduceCtorEq, Nat.reduceEqDiff, Nat.reduceBEq, Nat.reduceAdd, Nat.reduceSub, Nat.reduceMul, Nat.reduceLT, Nat.reduceLeDiff, Nat.reduceBNe, Int.reduceBEq, Int.reduceBNe, Int.reduceLT, Int.reduceLE, evG, evP, Nat.reduceMod, Nat.reduceDiv, Nat.reduceSub, Nat.reduceLeDiff, Nat.reduceMul, Nat.reduceAdd, Msg.a, Par.a]) <;> rfl
    clear c1 c2 cL
    rintro k σ ⟨i, hi, rfl, t2, t3, h3, t7, t8, t9, t10, t41, t42, t43⟩
    simp only [Cfg.a] at h3
    simp only [r_gGF_l14]
    by_cases hlt : i < l.length
    case neg =>
      have hlt' : ¬ (i : Int) < (l.length : Int) := by omega
      have e : l.take i = l := List.take_of_length_le (by omega)
      rw [e] at t9 t10
      have b1 : lvs l ≤ 60 := Nat.le_trans List.countP_le_length hl60
      have b2 := lrw_le hl60 hg
      unfold fillF at hf
      have n0 : ¬ c.leaf = 0 := by omega
      have n1 : (c.leaf ≠ 0) = True := eq_true n0
      generalize lvs l = L at *
      generalize lrw l = R at *
      by_cases hL0 : L = 0
      · subst hL0
        rw [if_pos (.inl rfl)] at hf
        subst hf
        have z : (((0 : Nat) : Int) == 0) = true := rfl
        have z1 : ¬ ((0 : Nat) : Int) > 0 := by decide
        rcases l2 with ⟨p0, rfl⟩ | ⟨p0, rfl, e1, e2⟩
        · have k1 : IntKind.i64.wrap ((1 : Int) - 1) = 0 := rfl
          by_cases pn : p < 0
          · (repeat (first | simp (maxSteps := 4000000) only [go_sem, ↓reduceIte, reduceCtorEq, Nat.reduceEqDiff, Nat.reduceBEq, Nat.reduceAdd, Nat.reduceSub, Nat.reduceMul, Nat.reduceLT, Nat.reduceLeDiff, Nat.reduceBNe, Int.reduceBEq, Int.reduceBNe, Int.reduceLT, Int.reduceLE, evG, evP, Nat.reduceMod, Nat.reduceDiv, Nat.reduceSub, Nat.reduceLeDiff, Nat.reduceMul, Nat.reduceAdd, Msg.a, Par.a, t2, t3, h3, t7, t8, t9, t10, t42, t43, hlt', z, z1, pn, k1] | refine calling (aw) ?_ | refine callingH (aw) ?_ | refine And.intro (by omega) ?_ | refine And.intro (fun d hd => by (repeat (rcases hd with rfl | hd; · exact ⟨rfl, rfl⟩)); cases hd) ?_))
          · obtain rfl : p = 0 := by omega
            (repeat (first | simp (maxSteps := 4000000) only [go_sem, ↓reduceIte, reduceCtorEq, Nat.reduceEqDiff, Nat.reduceBEq, Nat.reduceAdd, Nat.reduceSub, Nat.reduceMul, Nat.reduceLT, Nat.reduceLeDiff, Nat.reduceBNe, Int.reduceBEq, Int.reduceBNe, Int.reduceLT, Int.reduceLE, evG, evP, Nat.reduceMod, Nat.reduceDiv, Nat.reduceSub, Nat.reduceLeDiff, Nat.reduceMul, Nat.reduceAdd, Msg.a, Par.a, t2, t3, h3, t7, t8, t9, t10, t42, t43, hlt', z, z1, k1] | refine calling (aw) ?_ | refine callingH (aw) ?_ | refine And.intro (by omega) ?_ | refine And.intro (fun d hd => by (repeat (rcases hd with rfl | hd; · exact ⟨rfl, rfl⟩)); cases hd) ?_))
        · have np : ¬ p < 0 := by omega
          have pz : (p == 0) = false := beq_eq_false_iff_ne.2 (by omega)
          have pg : p > 0 := p0
          have k0 : IntKind.i64.wrap (p - 1) = p - 1 := IntWalk.i64_in _ (by omega)
          generalize hE : (p - 1).tdiv c.leaf = E at *
          have k1 : IntKind.i64.wrap (E + 1 - 1) = E := by rw [IntWalk.i64_in _ (by omega)]; omega
          have k2 : IntKind.i64.wrap E = E := IntWalk.i64_in _ (by omega)
          have g1 : 1 ≤ E + 1 := by omega
          have g2 : E < E + 1 := by omega
          have g3 : E ≤ E := Int.le_refl _
          by_cases e0 : E = 0
          · have e0' : (E == 0) = true := beq_iff_eq.2 e0
            (repeat (first | simp (maxSteps := 4000000) only [go_sem, ↓reduceIte, reduceCtorEq, Nat.reduceEqDiff, Nat.reduceBEq, Nat.reduceAdd, Nat.reduceSub, Nat.reduceMul, Nat.reduceLT, Nat.reduceLeDiff, Nat.reduceBNe, Int.reduceBEq, Int.reduceBNe, Int.reduceLT, Int.reduceLE, evG, evP, Nat.reduceMod, Nat.reduceDiv, Nat.reduceSub, Nat.reduceLeDiff, Nat.reduceMul, Nat.reduceAdd, Msg.a, Par.a, t2, t3, h3, t7, t8, t9, t10, t42, t43, hlt', z, z1, np, pz, pg, p0, k0, hE, k1, k2, g1, g2, g3, n0, n1, e0'] | refine calling (aw) ?_ | refine callingH (aw) ?_ | refine And.intro (by omega) ?_ | refine And.intro (fun d hd => by (repeat (rcases hd with rfl | hd; · exact ⟨rfl, rfl⟩)); cases hd) ?_))
          · have e0' : (E == 0) = false := beq_eq_false_iff_ne.2 e0
            (repeat (first | simp (maxSteps := 4000000) only [go_sem, ↓reduceIte, reduceCtorEq, Nat.reduceEqDiff, Nat.reduceBEq, Nat.reduceAdd, Nat.reduceSub, Nat.reduceMul, Nat.reduceLT, Nat.reduceLeDiff, Nat.reduceBNe, Int.reduceBEq, Int.reduceBNe, Int.reduceLT, Int.reduceLE, evG, evP, Nat.reduceMod, Nat.reduceDiv, Nat.reduceSub, Nat.reduceLeDiff, Nat.reduceMul, Nat.reduceAdd, Msg.a, Par.a, t2, t3, h3, t7, t8, t9, t10, t42, t43, hlt', z, z1, np, pz, pg, p0, k0, hE, k1, k2, g1, g2, g3, n0, n1, e0'] | refine calling (aw) ?_ | refine callingH (aw) ?_ | refine And.intro (by omega) ?_ | refine And.intro (fun d hd => by (repeat (rcases hd with rfl | hd; · exact ⟨rfl, rfl⟩)); cases hd) ?_))
      · rw [if_neg (by omega)] at hf
        have z : ((L : Int) == 0) = false := beq_eq_false_iff_ne.2 (by omega)
        have z1 : (L : Int) > 0 := by omega
        have fl := fill_law (L := L) (c := c.leaf) (R := R) (by omega) (by omega) (by omega)
        rw [hf] at fl
        obtain ⟨f1, f2, f3, f4⟩ := fl
        have m1 : (L : Int) * c.leaf ≤ 60 * 1099511627776 := Int.mul_le_mul (by omega) (by omega) (by omega) (by omega)
        have m2 : f * (L : Int) ≤ 6000000 * 60 := Int.mul_le_mul (by omega) (by omega) (by omega) (by omega)
        have m3 : 0 ≤ f * (L : Int) := Int.mul_nonneg f3 (by omega)
        have m4 : (f + 1) * (L : Int) = f * (L : Int) + (L : Int) := by rw [Int.add_mul, Int.one_mul]
        have m5 : (f + 1) * (L : Int) * c.leaf = f * (L : Int) * c.leaf + (L : Int) * c.leaf := by rw [m4, Int.add_mul]
        have m6 : 0 ≤ f * (L : Int) * c.leaf := Int.mul_nonneg m3 (by omega)
        have m7 : 0 ≤ (L : Int) * c.leaf := Int.mul_nonneg (by omega) (by omega)
        have v1 : IntKind.i64.wrap (f * (L : Int)) = f * (L : Int) := IntWalk.i64_in _ (by omega)
        have v2 : IntKind.i64.wrap (f * (L : Int) * c.leaf) = f * (L : Int) * c.leaf := IntWalk.i64_in _ (by omega)
        have v3 : IntKind.i64.wrap ((R : Int) * 100) = (R : Int) * 100 := IntWalk.i64_in _ (by omega)
        have v4 : IntKind.i64.wrap (f + 1) = f + 1 := IntWalk.i64_in _ (by omega)
        have v5 : IntKind.i64.wrap ((f + 1) * (L : Int)) = (f + 1) * (L : Int) := IntWalk.i64_in _ (by omega)
        have v6 : IntKind.i64.wrap ((f + 1) * (L : Int) * c.leaf) = (f + 1) * (L : Int) * c.leaf := IntWalk.i64_in _ (by omega)
        have y1 : ¬ f * (L : Int) * c.leaf > (R : Int) * 100 := by omega
        have y1' : ¬ (R : Int) * 100 < f * (L : Int) * c.leaf := by omega
        have y2 : ¬ (f + 1) * (L : Int) * c.leaf ≤ (R : Int) * 100 := by omega
        have z2 : 0 < L := by omega
        rcases l2 with ⟨p0, rfl⟩ | ⟨p0, rfl, e1, e2⟩
        · have k1 : IntKind.i64.wrap ((1 : Int) - 1) = 0 := rfl
          by_cases pn : p < 0
          · (repeat (first | simp (maxSteps := 4000000) only [go_sem, ↓reduceIte, reduceCtorEq, Nat.reduceEqDiff, Nat.reduceBEq, Nat.reduceAdd, Nat.reduceSub, Nat.reduceMul, Nat.reduceLT, Nat.reduceLeDiff, Nat.reduceBNe, Int.reduceBEq, Int.reduceBNe, Int.reduceLT, Int.reduceLE, evG, evP, Nat.reduceMod, Nat.reduceDiv, Nat.reduceSub, Nat.reduceLeDiff, Nat.reduceMul, Nat.reduceAdd, Msg.a, Par.a, t2, t3, h3, t7, t8, t9, t10, t42, t43, hlt', z, z1, z2, v1, v2, v3, v4, v5, v6, y1, y1', y2, pn, k1] | refine calling (aw) ?_ | refine callingH (aw) ?_ | refine And.intro (by omega) ?_ | refine And.intro (fun d hd => by (repeat (rcases hd with rfl | hd; · exact ⟨rfl, rfl⟩)); cases hd) ?_))
          · obtain rfl : p = 0 := by omega
            (repeat (first | simp (maxSteps := 4000000) only [go_sem, ↓reduceIte, reduceCtorEq, Nat.reduceEqDiff, Nat.reduceBEq, Nat.reduceAdd, Nat.reduceSub, Nat.reduceMul, Nat.reduceLT, Nat.reduceLeDiff, Nat.reduceBNe, Int.reduceBEq, Int.reduceBNe, Int.reduceLT, Int.reduceLE, evG, evP, Nat.reduceMod, Nat.reduceDiv, Nat.reduceSub, Nat.reduceLeDiff, Nat.reduceMul, Nat.reduceAdd, Msg.a, Par.a, t2, t3, h3, t7, t8, t9, t10, t42, t43, hlt', z, z1, z2, v1, v2, v3, v4, v5, v6, y1, y1', y2, k1] | refine calling (aw) ?_ | refine callingH (aw) ?_ | refine And.intro (by omega) ?_ | refine And.intro (fun d hd => by (repeat (rcases hd with rfl | hd; · exact ⟨rfl, rfl⟩)); cases hd) ?_))
        · have np : ¬ p < 0 := by omega
          have pz : (p == 0) = false := beq_eq_false_iff_ne.2 (by omega)
          have pg : p > 0 := p0
          have k0 : IntKind.i64.wrap (p - 1) = p - 1 := IntWalk.i64_in _ (by omega)
          generalize hE : (p - 1).tdiv c.leaf = E at *
          have k1 : IntKind.i64.wrap (E + 1 - 1) = E := by rw [IntWalk.i64_in _ (by omega)]; omega
          have k2 : IntKind.i64.wrap E = E := IntWalk.i64_in _ (by omega)
          have g1 : 1 ≤ E + 1 := by omega
          have g2 : E < E + 1 := by omega
          have g3 : E ≤ E := Int.le_refl _
          by_cases e0 : E = 0
          · have e0' : (E == 0) = true := beq_iff_eq.2 e0
            (repeat (first | simp (maxSteps := 4000000) only [go_sem, ↓reduceIte, reduceCtorEq, Nat.reduceEqDiff, Nat.reduceBEq, Nat.reduceAdd, Nat.reduceSub, Nat.reduceMul, Nat.reduceLT, Nat.reduceLeDiff, Nat.reduceBNe, Int.reduceBEq, Int.reduceBNe, Int.reduceLT, Int.reduceLE, evG, evP, Nat.reduceMod, Nat.reduceDiv, Nat.reduceSub, Nat.reduceLeDiff, Nat.reduceMul, Nat.reduceAdd, Msg.a, Par.a, t2, t3, h3, t7, t8, t9, t10, t42, t43, hlt', z, z1, z2, v1, v2, v3, v4, v5, v6, y1, y1', y2, np, pz, pg, p0, k0, hE, k1, k2, g1, g2, g3, n0, n1, e0'] | refine calling (aw) ?_ | refine callingH (aw) ?_ | refine And.intro (by omega) ?_ | refine And.intro (fun d hd => by (repeat (rcases hd with rfl | hd; · exact ⟨rfl, rfl⟩)); cases hd) ?_))
          · have e0' : (E == 0) = false := beq_eq_false_iff_ne.2 e0
            (repeat (first | simp (maxSteps := 4000000) only [go_sem, ↓reduceIte, reduceCtorEq, Nat.reduceEqDiff, Nat.reduceBEq, Nat.reduceAdd, Nat.reduceSub, Nat.reduceMul, Nat.reduceLT, Nat.reduceLeDiff, Nat.reduceBNe, Int.reduceBEq, Int.reduceBNe, Int.reduceLT, Int.reduceLE, evG, evP, Nat.reduceMod, Nat.reduceDiv, Nat.reduceSub, Nat.reduceLeDiff, Nat.reduceMul, Nat.reduceAdd, Msg.a, Par.a, t2, t3, h3, t7, t8, t9, t10, t42, t43, hlt', z, z1, z2, v1, v2, v3, v4, v5, v6, y1, y1', y2, np, pz, pg, p0, k0, hE, k1, k2, g1, g2, g3, n0, n1, e0'] | refine calling (aw) ?_ | refine callingH (aw) ?_ | refine And.intro (by omega) ?_ | refine And.intro (fun d hd => by (repeat (rcases hd with rfl | hd; · exact ⟨rfl, rfl⟩)); cases hd) ?_))
    have hlt' : (i : Int) < (l.length : Int) := by omega
    obtain ⟨x, hx⟩ := get_lt hlt
    have gr := hg x (List.mem_of_getElem? hx)
    have hge := at_map (f := Nd.a) hx
    simp only [Nd.a] at hge
    have tk : l.take (i + 1) = l.take i ++ [x] := by rw [List.take_add_one, hx]; rfl
    have hpl : (l.take i).length ≤ 60 := by rw [List.length_take]; omega
    have b1 : lvs (l.take i) ≤ 60 := Nat.le_trans List.countP_le_length hpl
    have b2 := lrw_le hpl fun y hy => hg y (List.mem_of_mem_take hy)
    have w0 := wrapS (j := i) (by omega)
    have w1 := wrapS (j := lvs (l.take i)) (by omega)
    have w2 : IntKind.i64.wrap ((lrw (l.take i) : Int) + (x.rows.length : Int)) = ((lrw (l.take i) + x.rows.length : Nat) : Int) := by rw [IntWalk.i64_in _ (by omega)]; omega
    by_cases hz : x.level = 0
    · have q0 : (x.level == 0) = true := by simp [hz]
      simp (maxSteps := 4000000) only [go_sem, ↓reduceIte, reduceCtorEq, Nat.reduceEqDiff, Nat.reduceBEq, Nat.reduceAdd, Nat.reduceSub, Nat.reduceMul, Nat.reduceLT, Nat.reduceLeDiff, Nat.reduceBNe, Int.reduceBEq, Int.reduceBNe, Int.reduceLT, Int.reduceLE, evG, evP, Nat.reduceMod, Nat.reduceDiv, Nat.reduceSub, Nat.reduceLeDiff, Nat.reduceMul, Nat.reduceAdd, Msg.a, Par.a, t2, t3, h3, t7, t8, t9, t10, t41, t42, t43, hlt', hlt, hge, q0, w0, w1, w2, List.length_map, Int.toNat_natCast]
      (repeat refine And.intro (by omega) ?_)
      refine ⟨l.length - (i + 1), by omega, i + 1, by omega, rfl, ?_, ?_, ?_, ?_, ?_, ?_, ?_, ?_, ?_, ?_⟩
      · simp (maxSteps := 4000000) only [go_sem, ↓reduceIte, reduceCtorEq, Nat.reduceEqDiff, Nat.reduceBEq, Nat.reduceAdd, Nat.reduceSub, Nat.reduceMul, Nat.reduceLT, Nat.reduceLeDiff, Nat.reduceBNe, Int.reduceBEq, Int.reduceBNe, Int.reduceLT, Int.reduceLE, evG, evP, Nat.reduceMod, Nat.reduceDiv, Nat.reduceSub, Nat.reduceLeDiff, Nat.reduceMul, Nat.reduceAdd, Msg.a, Par.a, t2]
      · simp (maxSteps := 4000000) only [go_sem, ↓reduceIte, reduceCtorEq, Nat.reduceEqDiff, Nat.reduceBEq, Nat.reduceAdd, Nat.reduceSub, Nat.reduceMul, Nat.reduceLT, Nat.reduceLeDiff, Nat.reduceBNe, Int.reduceBEq, Int.reduceBNe, Int.reduceLT, Int.reduceLE, evG, evP, Nat.reduceMod, Nat.reduceDiv, Nat.reduceSub, Nat.reduceLeDiff, Nat.reduceMul, Nat.reduceAdd, Msg.a, Par.a, t3]
      · simp (maxSteps := 4000000) only [go_sem, ↓reduceIte, reduceCtorEq, Nat.reduceEqDiff, Nat.reduceBEq, Nat.reduceAdd, Nat.reduceSub, Nat.reduceMul, Nat.reduceLT, Nat.reduceLeDiff, Nat.reduceBNe, Int.reduceBEq, Int.reduceBNe, Int.reduceLT, Int.reduceLE, evG, evP, Nat.reduceMod, Nat.reduceDiv, Nat.reduceSub, Nat.reduceLeDiff, Nat.reduceMul, Nat.reduceAdd, Msg.a, Par.a, h3, Cfg.a]
      · simp (maxSteps := 4000000) only [go_sem, ↓reduceIte, reduceCtorEq, Nat.reduceEqDiff, Nat.reduceBEq, Nat.reduceAdd, Nat.reduceSub, Nat.reduceMul, Nat.reduceLT, Nat.reduceLeDiff, Nat.reduceBNe, Int.reduceBEq, Int.reduceBNe, Int.reduceLT, Int.reduceLE, evG, evP, Nat.reduceMod, Nat.reduceDiv, Nat.reduceSub, Nat.reduceLeDiff, Nat.reduceMul, Nat.reduceAdd, Msg.a, Par.a, t7]
      · simp (maxSteps := 4000000) only [go_sem, ↓reduceIte, reduceCtorEq, Nat.reduceEqDiff, Nat.reduceBEq, Nat.reduceAdd, Nat.reduceSub, Nat.reduceMul, Nat.reduceLT, Nat.reduceLeDiff, Nat.reduceBNe, Int.reduceBEq, Int.reduceBNe, Int.reduceLT, Int.reduceLE, evG, evP, Nat.reduceMod, Nat.reduceDiv, Nat.reduceSub, Nat.reduceLeDiff, Nat.reduceMul, Nat.reduceAdd, Msg.a, Par.a, t8]
      · rw [tk, lvs_snoc, q0, if_pos rfl]; simp (maxSteps := 4000000) only [go_sem, ↓reduceIte, reduceCtorEq, Nat.reduceEqDiff, Nat.reduceBEq, Nat.reduceAdd, Nat.reduceSub, Nat.reduceMul, Nat.reduceLT, Nat.reduceLeDiff, Nat.reduceBNe, Int.reduceBEq, Int.reduceBNe, Int.reduceLT, Int.reduceLE, evG, evP, Nat.reduceMod, Nat.reduceDiv, Nat.reduceSub, Nat.reduceLeDiff, Nat.reduceMul, Nat.reduceAdd, Msg.a, Par.a, w1]
      · rw [tk, lrw_snoc, q0, if_pos rfl]; simp (maxSteps := 4000000) only [go_sem, ↓reduceIte, reduceCtorEq, Nat.reduceEqDiff, Nat.reduceBEq, Nat.reduceAdd, Nat.reduceSub, Nat.reduceMul, Nat.reduceLT, Nat.reduceLeDiff, Nat.reduceBNe, Int.reduceBEq, Int.reduceBNe, Int.reduceLT, Int.reduceLE, evG, evP, Nat.reduceMod, Nat.reduceDiv, Nat.reduceSub, Nat.reduceLeDiff, Nat.reduceMul, Nat.reduceAdd, Msg.a, Par.a, w2]
      · simp (maxSteps := 4000000) only [go_sem, ↓reduceIte, reduceCtorEq, Nat.reduceEqDiff, Nat.reduceBEq, Nat.reduceAdd, Nat.reduceSub, Nat.reduceMul, Nat.reduceLT, Nat.reduceLeDiff, Nat.reduceBNe, Int.reduceBEq, Int.reduceBNe, Int.reduceLT, Int.reduceLE, evG, evP, Nat.reduceMod, Nat.reduceDiv, Nat.reduceSub, Nat.reduceLeDiff, Nat.reduceMul, Nat.reduceAdd, Msg.a, Par.a, t41]
      · simp (maxSteps := 4000000) only [go_sem, ↓reduceIte, reduceCtorEq, Nat.reduceEqDiff, Nat.reduceBEq, Nat.reduceAdd, Nat.reduceSub, Nat.reduceMul, Nat.reduceLT, Nat.reduceLeDiff, Nat.reduceBNe, Int.reduceBEq, Int.reduceBNe, Int.reduceLT, Int.reduceLE, evG, evP, Nat.reduceMod, Nat.reduceDiv, Nat.reduceSub, Nat.reduceLeDiff, Nat.reduceMul, Nat.reduceAdd, Msg.a, Par.a, t42]
      · simp (maxSteps := 4000000) only [go_sem, ↓reduceIte, reduceCtorEq, Nat.reduceEqDiff, Nat.reduceBEq, Nat.reduceAdd, Nat.reduceSub, Nat.reduceMul, Nat.reduceLT, Nat.reduceLeDiff, Nat.reduceBNe, Int.reduceBEq, Int.reduceBNe, Int.reduceLT, Int.reduceLE, evG, evP, Nat.reduceMod, Nat.reduceDiv, Nat.reduceSub, Nat.reduceLeDiff, Nat.reduceMul, Nat.reduceAdd, Msg.a, Par.a, w0]
    · have q0 : (x.level == 0) = false := by simpa using hz
      simp (maxSteps := 4000000) only [go_sem, ↓reduceIte, reduceCtorEq, Nat.reduceEqDiff, Nat.reduceBEq, Nat.reduceAdd, Nat.reduceSub, Nat.reduceMul, Nat.reduceLT, Nat.reduceLeDiff, Nat.reduceBNe, Int.reduceBEq, Int.reduceBNe, Int.reduceLT, Int.reduceLE, evG, evP, Nat.reduceMod, Nat.reduceDiv, Nat.reduceSub, Nat.reduceLeDiff, Nat.reduceMul, Nat.reduceAdd, Msg.a, Par.a, t2, t3, h3, t7, t8, t9, t10, t41, t42, t43, hlt', hlt, hge, q0, w0, List.length_map, Int.toNat_natCast]
      (repeat refine And.intro (by omega) ?_)
      refine ⟨l.length - (i + 1), by omega, i + 1, by omega, rfl, ?_, ?_, ?_, ?_, ?_, ?_, ?_, ?_, ?_, ?_⟩
      · simp (maxSteps := 4000000) only [go_sem, ↓reduceIte, reduceCtorEq, Nat.reduceEqDiff, Nat.reduceBEq, Nat.reduceAdd, Nat.reduceSub, Nat.reduceMul, Nat.reduceLT, Nat.reduceLeDiff, Nat.reduceBNe, Int.reduceBEq, Int.reduceBNe, Int.reduceLT, Int.reduceLE, evG, evP, Nat.reduceMod, Nat.reduceDiv, Nat.reduceSub, Nat.reduceLeDiff, Nat.reduceMul, Nat.reduceAdd, Msg.a, Par.a, t2]
      · simp (maxSteps := 4000000) only [go_sem, ↓reduceIte, reduceCtorEq, Nat.reduceEqDiff, Nat.reduceBEq, Nat.reduceAdd, Nat.reduceSub, Nat.reduceMul, Nat.reduceLT, Nat.reduceLeDiff, Nat.reduceBNe, Int.reduceBEq, Int.reduceBNe, Int.reduceLT, Int.reduceLE, evG, evP, Nat.reduceMod, Nat.reduceDiv, Nat.reduceSub, Nat.reduceLeDiff, Nat.reduceMul, Nat.reduceAdd, Msg.a, Par.a, t3]
      · simp (maxSteps := 4000000) only [go_sem, ↓reduceIte, reduceCtorEq, Nat.reduceEqDiff, Nat.reduceBEq, Nat.reduceAdd, Nat.reduceSub, Nat.reduceMul, Nat.reduceLT, Nat.reduceLeDiff, Nat.reduceBNe, Int.reduceBEq, Int.reduceBNe, Int.reduceLT, Int.reduceLE, evG, evP, Nat.reduceMod, Nat.reduceDiv, Nat.reduceSub, Nat.reduceLeDiff, Nat.reduceMul, Nat.reduceAdd, Msg.a, Par.a, h3, Cfg.a]
      · simp (maxSteps := 4000000) only [go_sem, ↓reduceIte, reduceCtorEq, Nat.reduceEqDiff, Nat.reduceBEq, Nat.reduceAdd, Nat.reduceSub, Nat.reduceMul, Nat.reduceLT, Nat.reduceLeDiff, Nat.reduceBNe, Int.reduceBEq, Int.reduceBNe, Int.reduceLT, Int.reduceLE, evG, evP, Nat.reduceMod, Nat.reduceDiv, Nat.reduceSub, Nat.reduceLeDiff, Nat.reduceMul, Nat.reduceAdd, Msg.a, Par.a, t7]
      · simp (maxSteps := 4000000) only [go_sem, ↓reduceIte, reduceCtorEq, Nat.reduceEqDiff, Nat.reduceBEq, Nat.reduceAdd, Nat.reduceSub, Nat.reduceMul, Nat.reduceLT, Nat.reduceLeDiff, Nat.reduceBNe, Int.reduceBEq, Int.reduceBNe, Int.reduceLT, Int.reduceLE, evG, evP, Nat.reduceMod, Nat.reduceDiv, Nat.reduceSub, Nat.reduceLeDiff, Nat.reduceMul, Nat.reduceAdd, Msg.a, Par.a, t8]
      · rw [tk, lvs_snoc, q0]; simp (maxSteps := 4000000) only [go_sem, ↓reduceIte, reduceCtorEq, Nat.reduceEqDiff, Nat.reduceBEq, Nat.reduceAdd, Nat.reduceSub, Nat.reduceMul, Nat.reduceLT, Nat.reduceLeDiff, Nat.reduceBNe, Int.reduceBEq, Int.reduceBNe, Int.reduceLT, Int.reduceLE, evG, evP, Nat.reduceMod, Nat.reduceDiv, Nat.reduceSub, Nat.reduceLeDiff, Nat.reduceMul, Nat.reduceAdd, Msg.a, Par.a, t9]
      · rw [tk, lrw_snoc, q0]; simp (maxSteps := 4000000) only [go_sem, ↓reduceIte, reduceCtorEq, Nat.reduceEqDiff, Nat.reduceBEq, Nat.reduceAdd, Nat.reduceSub, Nat.reduceMul, Nat.reduceLT, Nat.reduceLeDiff, Nat.reduceBNe, Int.reduceBEq, Int.reduceBNe, Int.reduceLT, Int.reduceLE, evG, evP, Nat.reduceMod, Nat.reduceDiv, Nat.reduceSub, Nat.reduceLeDiff, Nat.reduceMul, Nat.reduceAdd, Msg.a, Par.a, t10]
      · simp (maxSteps := 4000000) only [go_sem, ↓reduceIte, reduceCtorEq, Nat.reduceEqDiff, Nat.reduceBEq, Nat.reduceAdd, Nat.reduceSub, Nat.reduceMul, Nat.reduceLT, Nat.reduceLeDiff, Nat.reduceBNe, Int.reduceBEq, Int.reduceBNe, Int.reduceLT, Int.reduceLE, evG, evP, Nat.reduceMod, Nat.reduceDiv, Nat.reduceSub, Nat.reduceLeDiff, Nat.reduceMul, Nat.reduceAdd, Msg.a, Par.a, t41]
      · simp (maxSteps := 4000000) only [go_sem, ↓reduceIte, reduceCtorEq, Nat.reduceEqDiff, Nat.reduceBEq, Nat.reduceAdd, Nat.reduceSub, Nat.reduceMul, Nat.reduceLT, Nat.reduceLeDiff, Nat.reduceBNe, Int.reduceBEq, Int.reduceBNe, Int.reduceLT, Int.reduceLE, evG, evP, Nat.reduceMod, Nat.reduceDiv, Nat.reduceSub, Nat.reduceLeDiff, Nat.reduceMul, Nat.reduceAdd, Msg.a, Par.a, t42]
      · simp (maxSteps := 4000000) only [go_sem, ↓reduceIte, reduceCtorEq, Nat.reduceEqDiff, Nat.reduceBEq, Nat.reduceAdd, Nat.reduceSub, Nat.reduceMul, Nat.reduceLT, Nat.reduceLeDiff, Nat.reduceBNe, Int.reduceBEq, Int.reduceBNe, Int.reduceLT, Int.reduceLE, evG, evP, Nat.reduceMod, Nat.reduceDiv, Nat.reduceSub, Nat.reduceLeDiff, Nat.reduceMul, Nat.reduceAdd, Msg.a, Par.a, w0]
end
section
/-
  The three laws of the gauges, at what came in.
-/
open Go.RowKit
set_option linter.unusedVariables false
set_option linter.unusedSimpArgs false
set_option maxRecDepth 100000
theorem reads_agg {w : World} {fs : List Ty} {c : Array Value} {ds : List AV} (h : ReadsAs w (.st fs) c.toList ds) : VR (fun b _ => b < w.heap.size) w (.agg ds) (.agg c) := by
  have := VR.agg (Pr := fun b _ => b < w.heap.size) (w := w) ds c.toList h.2.1 h.2.2
  simpa using this
theorem reads_one {w : World} {T : Ty} {v : Value} {ds : List AV} (h : ReadsAs w T [v] ds) : ∃ d, ds = [d] ∧ VR (fun b _ => b < w.heap.size) w d v := by
  obtain ⟨h1, h2, h3⟩ := h
  match ds, h2 with
  | [d], _ => exact ⟨d, rfl, h3 0 d v rfl rfl⟩
theorem fills50_walk (c : Array Value) (v1 : Value) (p : Int) (w : World) (hG : Glob w) (f0 : ∃ ds, ReadsAs w CfgT c.toList ds) (f1 : ∃ ds, ReadsAs w (.sl NdT) [v1] ds) (f2 : -9223372036854775808 ≤ p ∧ p ≤ 9223372036854775807) :
    Calls Tryd.prog 3 #[.agg c, v1, .int .i64 p] w fun e w' => e = .returned (.bool true) ∧ Below w.heap.size w w' := by
  obtain ⟨d0, r0⟩ := f0
  obtain ⟨d1, r1⟩ := f1
  obtain ⟨n, e0, on⟩ := Cfg.of r0.1
  have v0 := reads_agg r0
  rw [e0] at v0
  obtain ⟨d, rfl, u1⟩ := reads_one r1
  obtain ⟨l, hd, hl, hok⟩ := sl_of Nd.a Nd.ok r1.1 (fun c h => Nd.of h)
  cases hd
  refine run_args (vs := [.agg c, v1, .int .i64 p]) hG rfl (fun j d u hj hu => ?_) (fills50_law n l p hok hl f2)
  match j with
  | 0 => cases hj; cases hu; exact v0
  | 1 => cases hj; cases hu; exact u1
  | 2 => cases hj; cases hu; exact .int .i64 p
  | j + 3 => simp at hj
end
section
/-
  'Rows.GaugeFillsSaid' is proved: the law percolatelaw50.GaugeFills returns true at every input, and its arguments read as they did. No condition.
-/
namespace gaugeFills
open Go.ChangeShapes Go.WideShapes Go.ChangeAt Go.RowKit
open Go.ChangeMaps (open_string shut_string)
set_option linter.unusedVariables false
set_option maxRecDepth 100000 in
theorem lifted (os : Os) (started : os.Started) (H : Type) (enc : TypeId × Value → H) :
    ReturnsInHanded {} Tryd.checked os 3 .any (fun w args => (Rows.gaugeFillsSpec.pre enc Tryd.prog Tryd.f3 [] false w args ∧ laidMetH Tryd.prog Rows.gaugeFillsRow.laid w) ∧ sizedMet enc Tryd.prog Tryd.f3 (OpenSpec.ofChange Rows.gaugeFillsSpec) false w args) (Rows.gaugeFillsSpec.post enc Tryd.prog Tryd.f3 false true false false) := by
  refine returnsInHanded_of_row (C := Tryd.checked) (s := OpenSpec.ofChange Rows.gaugeFillsSpec) (F := fun _ _ _ => 0) ownK started (by kernel_rfl) Tryd.func3
    (ChangeSpec.witness_shaped (enc := enc) (C := Tryd.checked) (os := os) (X := fun w _ => laidMetH Tryd.prog Rows.gaugeFillsRow.laid w) false (World.laidAll Tryd.prog os Rows.gaugeFillsRow.laid) #[.agg #[.int .i64 0, .int .i64 0, .int .i64 0, .int .i64 0, .int .i64 0], .slice none 0 0, .int .i64 0] 8 (World.laidAll_os _ _ _)
      (World.shaped_of_ZipB (by kernel_rfl) (by kernel_rfl)) (by kernel_rfl) (by kernel_rfl) (by kernel_rfl)
      (by rw [MakeChecks.laidMetH_plain _ _ _ (by kernel_rfl)]; exact laidMet_laidAll _ (by kernel_rfl) (by kernel_rfl))) ?_
  intro W base args ds gs before hval0 hW hcnd hk hsz hL hsh _
  have hval : ∀ (j : Nat) t v, Tryd.f3.params[j]? = some t → args[j]? = some v → Value.okWide Tryd.prog W .any base t v := hval0
  have hW' := hW
  obtain ⟨p, q, hA0, hV, rfl, hfz, hnd⟩ := hW
  have hA : DataW.TrodAll enc Tryd.prog W 0 (fun _ => true) true Tryd.f3.params.toList args.toList ds p := hA0
  rw [Tryd.params3] at hA hval
  obtain ⟨v0, vs0, d0, ds0, p0, q0, hargs, rfl, rfl, h0, r0⟩ := trodAll_cons hA
  obtain ⟨v1, vs1, d1, ds1, p1, q1, rfl, rfl, rfl, h1, r1⟩ := trodAll_cons r0
  obtain ⟨v2, vs2, d2, ds2, p2, q2, rfl, rfl, rfl, h2, r2⟩ := trodAll_cons r1
  obtain ⟨rfl, rfl, rfl⟩ := trodAll_nil r2
  obtain rfl : args = #[v0, v1, v2] := by cases args; simp_all
  obtain ⟨rfl, rfl⟩ := trodVars_none hV
  have hw0 : (d0.weights Tryd.prog 23).all (· ≤ reachBytes) = true := weightsEach_mem hsz 0 23 d0 rfl rfl
  obtain ⟨c0, rfl, hc0⟩ := okWide_struct Tryd.underlying23 (hval 0 23 v0 rfl rfl)
  obtain ⟨fu0, ht0⟩ := h0
  have f0 : ∃ ds, ReadsAs W (CfgT) c0.toList ds := typed_in 8 (x := (d0, p0)) (by kernel_rfl) hw0 ht0
  have hw1 : (d1.weights Tryd.prog 24).all (· ≤ reachBytes) = true := weightsEach_mem hsz 1 24 d1 rfl rfl
  obtain ⟨s1, n1, c1, rfl⟩ := okWide_slice Tryd.underlying24 (hval 1 24 v1 rfl rfl)
  obtain ⟨fu1, ht1⟩ := h1
  have f1 : ∃ ds, ReadsAs W (.sl NdT) [.slice s1 n1 c1] ds := typed_in 8 (x := (d1, p1)) (by kernel_rfl) hw1 ht1
  obtain ⟨a2, rfl, hd2, hp2, w2⟩ := open_int Tryd.underlying3 (hval 2 3 v2 rfl rfl) h2
  have f2 := bounds_i64 w2
  have hL' := hL
  rw [MakeChecks.laidMetH_plain _ _ _ (by kernel_rfl)] at hL'
  have hL3 : laidMet Tryd.prog (("internal/strconv.uint64pow10", Rows.laid_internal_strconv_uint64pow10) :: []) W := (laidMet.tail (laidMet.tail hL'))
  rw [show (Rows.laid_internal_strconv_uint64pow10 : DataW Unit) = Lib.tabData .u64 Lib.pow10Tab by kernel_rfl] at hL3
  have htab : PowTab W := Lib.tabIs_of_head (g := 1) (t := 79) (e := 72) (n := 20) (by kernel_rfl) (by kernel_rfl) Tryd.underlying79 Tryd.underlying72 (by kernel_rfl) (by kernel_rfl) hL3
  refine (fills50_walk c0 _ a2 W (Glob.start hsh htab) f0 f1 f2).mono fun e W' ⟨he, hb⟩ => ?_
  subst he
  exact ⟨_, rfl, post_law laidOut hW' rfl rfl rfl rfl rfl Tryd.underlying4 (by intro t ht; rw [Tryd.params3] at ht; simp only [List.mem_cons, List.not_mem_nil, or_false] at ht; rcases ht with rfl | rfl | rfl <;> exact ⟨by kernel_rfl, of_decide_eq_true (by kernel_rfl)⟩) hb⟩
theorem holds : Rows.GaugeFillsSaid :=
  OpenClaim.holds_of_wide 3 Tryd.f3 rfl rfl rfl rfl rfl rfl rfl ⟨rfl, rfl, rfl, rfl, rfl⟩ rfl rfl rfl rfl rfl (by kernel_rfl) Tryd.func3 (by kernel_rfl)
    (of_decide_eq_true (by kernel_rfl)) (by unfold Func.isWrapper; first | (rw [if_pos (by decide +kernel)]; kernel_rfl) | (rw [if_neg (by decide +kernel)]; exact ⟨rfl, rfl⟩))
    (fun os started H enc _ => lifted os started H enc)
theorem proved : Rows.GaugeFillsCardSaid :=
  Claim7.holds_tied_plain_at .later [] [.data, .data, .data] true (true, "e990057c32c98bc34feb26bc7100bbde4d8815cb900e9cea29065f5ffcb988c9") false holds (fun _ h => by cases h) (by kernel_rfl) (fun _ h => by cases h) gaugeFills_row_tie rfl ⟨rfl, rfl⟩ (by kernel_rfl) rfl
    (fun f fn hf hfn => by
      obtain rfl : f = 3 := Option.some.inj ((show Tryd.prog.funcNamed "percolate/percolatelaw50.GaugeFills" = some 3 by kernel_rfl).symm.trans hf) |>.symm
      obtain rfl : fn = Tryd.f3 := (Option.some.inj (Tryd.func3.symm.trans hfn)).symm
      exact ⟨by kernel_rfl, fun j t ht => by
        rw [Tryd.params3] at ht
        have hm : t ∈ [23, 24, 3] := by simpa using Array.mem_of_getElem? ht
        have hall : ([23, 24, 3].all fun u => !Tryd.prog.wantsStandIn u) = true := by kernel_rfl
        exact (show Tryd.prog.wantsStandIn t = false by simpa using List.all_eq_true.1 hall t hm)⟩)
    (by kernel_rfl)
end gaugeFills
end
end Go.Proofs.YtelmejaiapdgnaaDoor
