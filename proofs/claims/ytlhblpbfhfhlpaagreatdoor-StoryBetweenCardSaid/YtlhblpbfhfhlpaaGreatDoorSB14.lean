/-
  Part 14 of a proof: SyA, SyB.
-/
import Derived.Test.YtlhblpbfhfhlpaaGreatDoorSB13
set_option linter.unusedVariables false
set_option linter.unusedSimpArgs false
set_option maxRecDepth 100000
attribute [local go_sem] reduceCtorEq Nat.reduceEqDiff Nat.reduceBEq Nat.reduceAdd Nat.reduceSub Nat.reduceMul Nat.reduceLT Nat.reduceLeDiff Nat.reduceBNe Int.reduceBEq Int.reduceBNe Int.reduceLT Int.reduceLE
attribute [local go_sem ↓] reduceIte
namespace Go.Proofs.YtlhblpbfhfhlpaaGreatDoor
attribute [local go_sem] Msg.a Par.a
section
open Go.RowKit
attribute [local go_sem ↓] z1y z0n
def r_eqs_0:Reg:=⟨[],[⟨.mv (.c (.bool false)),some 4,none,[],[]⟩],[],[],false⟩
def zk7:List ROp:=[⟨.mv (.t 0),some 6,none,[],[]⟩,⟨.len false (.t 6),some 7,none,[],[]⟩,⟨.mv (.t 1),some 8,none,[],[]⟩,⟨.len false (.t 8),some 9,none,[],[]⟩,⟨.bin .neq (.t 7) (.t 9),some 10,none,[],[]⟩]
def r_eqs_1:Reg:=⟨[],zk7,[],[],false⟩
def r_eqs_2:Reg:=⟨[],[⟨.mv (.c (.bool false)),some 4,none,[],[]⟩],[],[],false⟩
def zk6:List ROp:=[⟨.mv (.t 0),some 11,none,[],[]⟩,⟨.len false (.t 11),some 12,none,[],[]⟩,⟨.mv (.c (.int .i64 0)),some 13,none,[],[]⟩]
def r_eqs_3:Reg:=⟨[],zk6,[],[],false⟩
def r_eqs_4:Reg:=⟨[],[⟨.bin .lss (.t 13) (.t 12),some 14,none,[],[]⟩],[],[],false⟩
def r_eqs_5:Reg:=⟨[],[⟨.mv (.t 13),some 15,none,[],[]⟩,⟨.mv (.t 15),some 5,none,[],[]⟩],[],[],false⟩
def zlo:List ROp:=[⟨.mv (.t 0),some 16,none,[],[]⟩,⟨.mv (.t 5),some 17,none,[],[]⟩,⟨.iaddr 1 (.t 16) (.t 17),some 18,none,[],[]⟩,⟨.load 1 false (.t 18),some 19,none,[],[]⟩,⟨.mv (.t 1),some 20,none,[],[]⟩,⟨.mv (.t 5),some 21,none,[],[]⟩,⟨.iaddr 1 (.t 20) (.t 21),some 22,none,[],[]⟩,⟨.load 1 false (.t 22),some 23,none,[],[]⟩]
def r_eqs_6:Reg:=⟨zlo,[⟨.bin .neq (.t 19) (.t 23),some 24,none,[],[]⟩],[],[],true⟩
def r_eqs_7:Reg:=⟨[],[⟨.mv (.c (.bool false)),some 4,none,[],[]⟩],[],[],false⟩
def r_eqs_8:Reg:=⟨[],[⟨.bin .add (.t 13) (.c (.int .i64 1)),some 25,none,[],[]⟩,⟨.mv (.t 25),some 13,none,[],[]⟩],[],[],false⟩
def zpw:IR:=(.seq (.reg r_eqs_4)
 (.seq (.cond (.t 14) .skip
 (.exit 0))
 (.seq (.block 1 (.seq (.reg r_eqs_5)
 (.seq (.reg r_eqs_6)
 (.cond (.t 24) (.seq (.reg r_eqs_7)
 .ret)
 .skip))))
 (.reg r_eqs_8))))
def zpx:Reg:=⟨[],[⟨.mv (.c (.bool true)),some 4,none,[],[]⟩],[],[],false⟩
def ir_eqs:IR:=(.seq (.reg r_eqs_0)
 (.seq (.seq (.reg r_eqs_1)
 (.cond (.t 10) (.seq (.reg r_eqs_2)
 .ret)
 .skip))
 (.seq (.seq (.reg r_eqs_3)
 (.block 0 (.loop zpw)))
 (.seq (.reg zpx)
 .ret))))
def res_eqs:List RDesc:=[(.tmp 4)]
theorem e_eqs_0:EqR r_eqs_0 [⟨.mv (.c (.bool false)),some 4,none,[],[]⟩] []:=fun _ _ _=>rfl
theorem e_eqs_1:EqR r_eqs_1 zk7 []:=fun _ _ _=>rfl
theorem e_eqs_2:EqR r_eqs_2 [⟨.mv (.c (.bool false)),some 4,none,[],[]⟩] []:=fun _ _ _=>rfl
theorem e_eqs_3:EqR r_eqs_3 zk6 []:=fun _ _ _=>rfl
theorem e_eqs_4:EqR r_eqs_4 [⟨.bin .lss (.t 13) (.t 12),some 14,none,[],[]⟩] []:=fun _ _ _=>rfl
theorem e_eqs_5:EqR r_eqs_5 [⟨.mv (.t 13),some 15,none,[],[]⟩,⟨.mv (.t 15),some 5,none,[],[]⟩] []:=fun _ _ _=>rfl
theorem e_eqs_6 (C:FuncId->List AV->AV->Prop) (σ:St) (K:St->Prop):z1d C r_eqs_6 σ K = z07 C [] [⟨.bin .neq (.t 19) (.t 23),some 24,none,[],[]⟩] zlo (σ.kills []) K:=rfl
theorem e_eqs_7:EqR r_eqs_7 [⟨.mv (.c (.bool false)),some 4,none,[],[]⟩] []:=fun _ _ _=>rfl
theorem e_eqs_8:EqR r_eqs_8 [⟨.bin .add (.t 13) (.c (.int .i64 1)),some 25,none,[],[]⟩,⟨.mv (.t 25),some 13,none,[],[]⟩] []:=fun _ _ _=>rfl
theorem e_eqs_10:EqR zpx [⟨.mv (.c (.bool true)),some 4,none,[],[]⟩] []:=fun _ _ _=>rfl
theorem fn_eqs {args:List AV} {r:AV} (ha:args.length.ble Tryz.f64.ntmps = true) (h:run (AFn Tryz.prog) ir_eqs (endQ res_eqs r) (z0h args)):AFn Tryz.prog 64 args r :=
 AFn.of_code (pv:=false) (hint:=fun _=>[]) (c:=Tryz.f64.body.getD .skip) (by kernel_rfl) (by kernel_rfl) Tryz.func64 (by kernel_rfl) (by kernel_rfl) (by kernel_rfl) (of_decide_eq_true (by kernel_rfl)) (Nat.le_of_ble_eq_true ha) (Nat.le_of_ble_eq_true (by kernel_rfl)) (z0g h)
def r_eqm_0:Reg:=⟨[],[⟨.mv (.c (.bool false)),some 4,none,[],[]⟩],[],[],false⟩
def zkb:List ROp:=[⟨.mv (.t 0),some 6,none,[],[]⟩,⟨.len false (.t 6),some 7,none,[],[]⟩,⟨.mv (.t 1),some 8,none,[],[]⟩,⟨.len false (.t 8),some 9,none,[],[]⟩,⟨.bin .neq (.t 7) (.t 9),some 10,none,[],[]⟩]
def r_eqm_1:Reg:=⟨[],zkb,[],[],false⟩
def r_eqm_2:Reg:=⟨[],[⟨.mv (.c (.bool false)),some 4,none,[],[]⟩],[],[],false⟩
def zka:List ROp:=[⟨.mv (.t 0),some 11,none,[],[]⟩,⟨.len false (.t 11),some 12,none,[],[]⟩,⟨.mv (.c (.int .i64 0)),some 13,none,[],[]⟩]
def r_eqm_3:Reg:=⟨[],zka,[],[],false⟩
def r_eqm_4:Reg:=⟨[],[⟨.bin .lss (.t 13) (.t 12),some 14,none,[],[]⟩],[],[],false⟩
def r_eqm_5:Reg:=⟨[],[⟨.mv (.t 13),some 15,none,[],[]⟩,⟨.mv (.t 15),some 5,none,[],[]⟩],[],[],false⟩
def zlq:List ROp:=[⟨.mv (.t 0),some 16,none,[],[]⟩,⟨.mv (.t 5),some 17,none,[],[]⟩,⟨.iaddr 6 (.t 16) (.t 17),some 18,none,[],[]⟩,⟨.load 6 true (.t 18),some 19,none,[],[]⟩,⟨.mv (.t 1),some 20,none,[],[]⟩,⟨.mv (.t 5),some 21,none,[],[]⟩,⟨.iaddr 6 (.t 20) (.t 21),some 22,none,[],[]⟩,⟨.load 6 true (.t 22),some 23,none,[],[]⟩]
def r_eqm_6:Reg:=⟨zlq,[⟨.feq true [(0,0),(1,0),(2,1),(3,1),(4,2),(5,1)] (.t 19) (.t 23),some 24,none,[],[]⟩],[],[],true⟩
def r_eqm_7:Reg:=⟨[],[⟨.mv (.c (.bool false)),some 4,none,[],[]⟩],[],[],false⟩
def r_eqm_8:Reg:=⟨[],[⟨.bin .add (.t 13) (.c (.int .i64 1)),some 25,none,[],[]⟩,⟨.mv (.t 25),some 13,none,[],[]⟩],[],[],false⟩
def zq0:IR:=(.seq (.reg r_eqm_4)
 (.seq (.cond (.t 14) .skip
 (.exit 0))
 (.seq (.block 1 (.seq (.reg r_eqm_5)
 (.seq (.reg r_eqm_6)
 (.cond (.t 24) (.seq (.reg r_eqm_7)
 .ret)
 .skip))))
 (.reg r_eqm_8))))
def zq1:Reg:=⟨[],[⟨.mv (.c (.bool true)),some 4,none,[],[]⟩],[],[],false⟩
def ir_eqm:IR:=(.seq (.reg r_eqm_0)
 (.seq (.seq (.reg r_eqm_1)
 (.cond (.t 10) (.seq (.reg r_eqm_2)
 .ret)
 .skip))
 (.seq (.seq (.reg r_eqm_3)
 (.block 0 (.loop zq0)))
 (.seq (.reg zq1)
 .ret))))
def res_eqm:List RDesc:=[(.tmp 4)]
theorem e_eqm_0:EqR r_eqm_0 [⟨.mv (.c (.bool false)),some 4,none,[],[]⟩] []:=fun _ _ _=>rfl
theorem e_eqm_1:EqR r_eqm_1 zkb []:=fun _ _ _=>rfl
theorem e_eqm_2:EqR r_eqm_2 [⟨.mv (.c (.bool false)),some 4,none,[],[]⟩] []:=fun _ _ _=>rfl
theorem e_eqm_3:EqR r_eqm_3 zka []:=fun _ _ _=>rfl
theorem e_eqm_4:EqR r_eqm_4 [⟨.bin .lss (.t 13) (.t 12),some 14,none,[],[]⟩] []:=fun _ _ _=>rfl
theorem e_eqm_5:EqR r_eqm_5 [⟨.mv (.t 13),some 15,none,[],[]⟩,⟨.mv (.t 15),some 5,none,[],[]⟩] []:=fun _ _ _=>rfl
theorem e_eqm_6 (C:FuncId->List AV->AV->Prop) (σ:St) (K:St->Prop):z1d C r_eqm_6 σ K = z07 C [] [⟨.feq true [(0,0),(1,0),(2,1),(3,1),(4,2),(5,1)] (.t 19) (.t 23),some 24,none,[],[]⟩] zlq (σ.kills []) K:=rfl
theorem e_eqm_7:EqR r_eqm_7 [⟨.mv (.c (.bool false)),some 4,none,[],[]⟩] []:=fun _ _ _=>rfl
theorem e_eqm_8:EqR r_eqm_8 [⟨.bin .add (.t 13) (.c (.int .i64 1)),some 25,none,[],[]⟩,⟨.mv (.t 25),some 13,none,[],[]⟩] []:=fun _ _ _=>rfl
theorem e_eqm_10:EqR zq1 [⟨.mv (.c (.bool true)),some 4,none,[],[]⟩] []:=fun _ _ _=>rfl
theorem fn_eqm {args:List AV} {r:AV} (ha:args.length.ble Tryz.f66.ntmps = true) (h:run (AFn Tryz.prog) ir_eqm (endQ res_eqm r) (z0h args)):AFn Tryz.prog 66 args r :=
 AFn.of_code (pv:=false) (hint:=fun _=>[]) (c:=Tryz.f66.body.getD .skip) (by kernel_rfl) (by kernel_rfl) Tryz.func66 (by kernel_rfl) (by kernel_rfl) (by kernel_rfl) (of_decide_eq_true (by kernel_rfl)) (Nat.le_of_ble_eq_true ha) (Nat.le_of_ble_eq_true (by kernel_rfl)) (z0g h)
def r_eqn_0:Reg:=⟨[],[⟨.mv (.c (.bool false)),some 4,none,[],[]⟩],[],[],false⟩
def zk9:List ROp:=[⟨.mv (.t 0),some 6,none,[],[]⟩,⟨.len false (.t 6),some 7,none,[],[]⟩,⟨.mv (.t 1),some 8,none,[],[]⟩,⟨.len false (.t 8),some 9,none,[],[]⟩,⟨.bin .neq (.t 7) (.t 9),some 10,none,[],[]⟩]
def r_eqn_1:Reg:=⟨[],zk9,[],[],false⟩
def r_eqn_2:Reg:=⟨[],[⟨.mv (.c (.bool false)),some 4,none,[],[]⟩],[],[],false⟩
def zk8:List ROp:=[⟨.mv (.t 0),some 11,none,[],[]⟩,⟨.len false (.t 11),some 12,none,[],[]⟩,⟨.mv (.c (.int .i64 0)),some 13,none,[],[]⟩]
def r_eqn_3:Reg:=⟨[],zk8,[],[],false⟩
def r_eqn_4:Reg:=⟨[],[⟨.bin .lss (.t 13) (.t 12),some 14,none,[],[]⟩],[],[],false⟩
def r_eqn_5:Reg:=⟨[],[⟨.mv (.t 13),some 15,none,[],[]⟩,⟨.mv (.t 15),some 5,none,[],[]⟩],[],[],false⟩
def zlp:List ROp:=[⟨.mv (.t 0),some 16,none,[],[]⟩,⟨.mv (.t 5),some 17,none,[],[]⟩,⟨.iaddr 1 (.t 16) (.t 17),some 18,none,[],[]⟩,⟨.load 1 false (.t 18),some 19,none,[],[]⟩,⟨.mv (.t 1),some 20,none,[],[]⟩,⟨.mv (.t 5),some 21,none,[],[]⟩,⟨.iaddr 1 (.t 20) (.t 21),some 22,none,[],[]⟩,⟨.load 1 false (.t 22),some 23,none,[],[]⟩]
def r_eqn_6:Reg:=⟨zlp,[⟨.bin .neq (.t 19) (.t 23),some 24,none,[],[]⟩],[],[],true⟩
def r_eqn_7:Reg:=⟨[],[⟨.mv (.c (.bool false)),some 4,none,[],[]⟩],[],[],false⟩
def r_eqn_8:Reg:=⟨[],[⟨.bin .add (.t 13) (.c (.int .i64 1)),some 25,none,[],[]⟩,⟨.mv (.t 25),some 13,none,[],[]⟩],[],[],false⟩
def zpy:IR:=(.seq (.reg r_eqn_4)
 (.seq (.cond (.t 14) .skip
 (.exit 0))
 (.seq (.block 1 (.seq (.reg r_eqn_5)
 (.seq (.reg r_eqn_6)
 (.cond (.t 24) (.seq (.reg r_eqn_7)
 .ret)
 .skip))))
 (.reg r_eqn_8))))
def zpz:Reg:=⟨[],[⟨.mv (.c (.bool true)),some 4,none,[],[]⟩],[],[],false⟩
def ir_eqn:IR:=(.seq (.reg r_eqn_0)
 (.seq (.seq (.reg r_eqn_1)
 (.cond (.t 10) (.seq (.reg r_eqn_2)
 .ret)
 .skip))
 (.seq (.seq (.reg r_eqn_3)
 (.block 0 (.loop zpy)))
 (.seq (.reg zpz)
 .ret))))
def res_eqn:List RDesc:=[(.tmp 4)]
theorem e_eqn_0:EqR r_eqn_0 [⟨.mv (.c (.bool false)),some 4,none,[],[]⟩] []:=fun _ _ _=>rfl
theorem e_eqn_1:EqR r_eqn_1 zk9 []:=fun _ _ _=>rfl
theorem e_eqn_2:EqR r_eqn_2 [⟨.mv (.c (.bool false)),some 4,none,[],[]⟩] []:=fun _ _ _=>rfl
theorem e_eqn_3:EqR r_eqn_3 zk8 []:=fun _ _ _=>rfl
theorem e_eqn_4:EqR r_eqn_4 [⟨.bin .lss (.t 13) (.t 12),some 14,none,[],[]⟩] []:=fun _ _ _=>rfl
theorem e_eqn_5:EqR r_eqn_5 [⟨.mv (.t 13),some 15,none,[],[]⟩,⟨.mv (.t 15),some 5,none,[],[]⟩] []:=fun _ _ _=>rfl
theorem e_eqn_6 (C:FuncId->List AV->AV->Prop) (σ:St) (K:St->Prop):z1d C r_eqn_6 σ K = z07 C [] [⟨.bin .neq (.t 19) (.t 23),some 24,none,[],[]⟩] zlp (σ.kills []) K:=rfl
theorem e_eqn_7:EqR r_eqn_7 [⟨.mv (.c (.bool false)),some 4,none,[],[]⟩] []:=fun _ _ _=>rfl
theorem e_eqn_8:EqR r_eqn_8 [⟨.bin .add (.t 13) (.c (.int .i64 1)),some 25,none,[],[]⟩,⟨.mv (.t 25),some 13,none,[],[]⟩] []:=fun _ _ _=>rfl
theorem e_eqn_10:EqR zpz [⟨.mv (.c (.bool true)),some 4,none,[],[]⟩] []:=fun _ _ _=>rfl
theorem fn_eqn {args:List AV} {r:AV} (ha:args.length.ble Tryz.f65.ntmps = true) (h:run (AFn Tryz.prog) ir_eqn (endQ res_eqn r) (z0h args)):AFn Tryz.prog 65 args r :=
 AFn.of_code (pv:=false) (hint:=fun _=>[]) (c:=Tryz.f65.body.getD .skip) (by kernel_rfl) (by kernel_rfl) Tryz.func65 (by kernel_rfl) (by kernel_rfl) (by kernel_rfl) (of_decide_eq_true (by kernel_rfl)) (Nat.le_of_ble_eq_true ha) (Nat.le_of_ble_eq_true (by kernel_rfl)) (z0g h)
def zpp:Reg:=⟨[],[⟨.mv (.c (.bool false)),some 4,none,[],[]⟩],[],[],false⟩
def zdn:List ROp:=[⟨.mv (.t 0),some 6,none,[],[]⟩,⟨.len false (.t 6),some 7,none,[],[]⟩,⟨.mv (.t 1),some 8,none,[],[]⟩,⟨.len false (.t 8),some 9,none,[],[]⟩,⟨.bin .neq (.t 7) (.t 9),some 10,none,[],[]⟩]
def zpo:Reg:=⟨[],zdn,[],[],false⟩
def zpn:Reg:=⟨[],[⟨.mv (.c (.bool false)),some 4,none,[],[]⟩],[],[],false⟩
def zpm:Reg:=⟨[],[⟨.mv (.c (.int .i64 0)),some 5,none,[],[]⟩],[],[],false⟩
def zdm:List ROp:=[⟨.mv (.t 5),some 11,none,[],[]⟩,⟨.mv (.t 0),some 12,none,[],[]⟩,⟨.len false (.t 12),some 13,none,[],[]⟩,⟨.bin .lss (.t 11) (.t 13),some 14,none,[],[]⟩]
def zpl:Reg:=⟨[],zdm,[],[],false⟩
def zee:List ROp:=[⟨.mv (.t 0),some 17,none,[],[]⟩,⟨.mv (.t 5),some 18,none,[],[]⟩,⟨.iaddr 1 (.t 17) (.t 18),some 19,none,[],[]⟩,⟨.load 1 false (.t 19),some 20,none,[],[]⟩,⟨.mv (.t 1),some 21,none,[],[]⟩,⟨.mv (.t 5),some 22,none,[],[]⟩,⟨.iaddr 1 (.t 21) (.t 22),some 23,none,[],[]⟩,⟨.load 1 false (.t 23),some 24,none,[],[]⟩]
def zpk:Reg:=⟨zee,[⟨.bin .neq (.t 20) (.t 24),some 25,none,[],[]⟩],[],[],true⟩
def zpj:Reg:=⟨[],[⟨.mv (.c (.bool false)),some 4,none,[],[]⟩],[],[],false⟩
def zdl:List ROp:=[⟨.mv (.t 5),some 15,none,[],[]⟩,⟨.bin .add (.t 15) (.c (.int .i64 1)),some 16,none,[],[]⟩,⟨.mv (.t 16),some 5,none,[],[]⟩]
def zpi:Reg:=⟨[],zdl,[],[],false⟩
def zh6:IR:=(.seq (.seq (.reg zpl)
 (.cond (.t 14) .skip
 (.exit 0)))
 (.seq (.block 1 (.seq (.reg zpk)
 (.cond (.t 25) (.seq (.reg zpj)
 .ret)
 .skip)))
 (.reg zpi)))
def zph:Reg:=⟨[],[⟨.mv (.c (.bool true)),some 4,none,[],[]⟩],[],[],false⟩
def ir_r01s:IR:=(.seq (.reg zpp)
 (.seq (.seq (.reg zpo)
 (.cond (.t 10) (.seq (.reg zpn)
 .ret)
 .skip))
 (.seq (.seq (.reg zpm)
 (.block 0 (.loop zh6)))
 (.seq (.reg zph)
 .ret))))
def zmy:List RDesc:=[(.tmp 4)]
theorem e_r01s_0:EqR zpp [⟨.mv (.c (.bool false)),some 4,none,[],[]⟩] []:=fun _ _ _=>rfl
theorem e_r01s_1:EqR zpo zdn []:=fun _ _ _=>rfl
theorem e_r01s_2:EqR zpn [⟨.mv (.c (.bool false)),some 4,none,[],[]⟩] []:=fun _ _ _=>rfl
theorem e_r01s_3:EqR zpm [⟨.mv (.c (.int .i64 0)),some 5,none,[],[]⟩] []:=fun _ _ _=>rfl
theorem e_r01s_4:EqR zpl zdm []:=fun _ _ _=>rfl
theorem e_r01s_5 (C:FuncId->List AV->AV->Prop) (σ:St) (K:St->Prop):z1d C zpk σ K = z07 C [] [⟨.bin .neq (.t 20) (.t 24),some 25,none,[],[]⟩] zee (σ.kills []) K:=rfl
theorem e_r01s_6:EqR zpj [⟨.mv (.c (.bool false)),some 4,none,[],[]⟩] []:=fun _ _ _=>rfl
theorem e_r01s_7:EqR zpi zdl []:=fun _ _ _=>rfl
theorem e_r01s_9:EqR zph [⟨.mv (.c (.bool true)),some 4,none,[],[]⟩] []:=fun _ _ _=>rfl
theorem fn_r01s {args:List AV} {r:AV} (ha:args.length.ble Tryz.f44.ntmps = true) (h:run (AFn Tryz.prog) ir_r01s (endQ zmy r) (z0h args)):AFn Tryz.prog 44 args r :=
 AFn.of_code (pv:=false) (hint:=fun _=>[]) (c:=Tryz.f44.body.getD .skip) (by kernel_rfl) (by kernel_rfl) Tryz.func44 (by kernel_rfl) (by kernel_rfl) (by kernel_rfl) (of_decide_eq_true (by kernel_rfl)) (Nat.le_of_ble_eq_true ha) (Nat.le_of_ble_eq_true (by kernel_rfl)) (z0g h)
def zpg:Reg:=⟨[],[⟨.mv (.c (.bool false)),some 4,none,[],[]⟩],[],[],false⟩
def zdk:List ROp:=[⟨.mv (.t 0),some 6,none,[],[]⟩,⟨.len false (.t 6),some 7,none,[],[]⟩,⟨.mv (.t 1),some 8,none,[],[]⟩,⟨.len false (.t 8),some 9,none,[],[]⟩,⟨.bin .neq (.t 7) (.t 9),some 10,none,[],[]⟩]
def zpf:Reg:=⟨[],zdk,[],[],false⟩
def zpe:Reg:=⟨[],[⟨.mv (.c (.bool false)),some 4,none,[],[]⟩],[],[],false⟩
def zpd:Reg:=⟨[],[⟨.mv (.c (.int .i64 0)),some 5,none,[],[]⟩],[],[],false⟩
def zdj:List ROp:=[⟨.mv (.t 5),some 11,none,[],[]⟩,⟨.mv (.t 0),some 12,none,[],[]⟩,⟨.len false (.t 12),some 13,none,[],[]⟩,⟨.bin .lss (.t 11) (.t 13),some 14,none,[],[]⟩]
def zpc:Reg:=⟨[],zdj,[],[],false⟩
def zed:List ROp:=[⟨.mv (.t 0),some 17,none,[],[]⟩,⟨.mv (.t 5),some 18,none,[],[]⟩,⟨.iaddr 6 (.t 17) (.t 18),some 19,none,[],[]⟩,⟨.load 6 true (.t 19),some 20,none,[],[]⟩,⟨.mv (.t 1),some 21,none,[],[]⟩,⟨.mv (.t 5),some 22,none,[],[]⟩,⟨.iaddr 6 (.t 21) (.t 22),some 23,none,[],[]⟩,⟨.load 6 true (.t 23),some 24,none,[],[]⟩]
def zpb:Reg:=⟨zed,[⟨.feq true [(0,0),(1,0),(2,1),(3,1),(4,2),(5,1)] (.t 20) (.t 24),some 25,none,[],[]⟩],[],[],true⟩
def zpa:Reg:=⟨[],[⟨.mv (.c (.bool false)),some 4,none,[],[]⟩],[],[],false⟩
def zdi:List ROp:=[⟨.mv (.t 5),some 15,none,[],[]⟩,⟨.bin .add (.t 15) (.c (.int .i64 1)),some 16,none,[],[]⟩,⟨.mv (.t 16),some 5,none,[],[]⟩]
def zp9:Reg:=⟨[],zdi,[],[],false⟩
def zh5:IR:=(.seq (.seq (.reg zpc)
 (.cond (.t 14) .skip
 (.exit 0)))
 (.seq (.block 1 (.seq (.reg zpb)
 (.cond (.t 25) (.seq (.reg zpa)
 .ret)
 .skip)))
 (.reg zp9)))
def zp8:Reg:=⟨[],[⟨.mv (.c (.bool true)),some 4,none,[],[]⟩],[],[],false⟩
def ir_r05s:IR:=(.seq (.reg zpg)
 (.seq (.seq (.reg zpf)
 (.cond (.t 10) (.seq (.reg zpe)
 .ret)
 .skip))
 (.seq (.seq (.reg zpd)
 (.block 0 (.loop zh5)))
 (.seq (.reg zp8)
 .ret))))
def zmx:List RDesc:=[(.tmp 4)]
theorem e_r05s_0:EqR zpg [⟨.mv (.c (.bool false)),some 4,none,[],[]⟩] []:=fun _ _ _=>rfl
theorem e_r05s_1:EqR zpf zdk []:=fun _ _ _=>rfl
theorem e_r05s_2:EqR zpe [⟨.mv (.c (.bool false)),some 4,none,[],[]⟩] []:=fun _ _ _=>rfl
theorem e_r05s_3:EqR zpd [⟨.mv (.c (.int .i64 0)),some 5,none,[],[]⟩] []:=fun _ _ _=>rfl
theorem e_r05s_4:EqR zpc zdj []:=fun _ _ _=>rfl
theorem e_r05s_5 (C:FuncId->List AV->AV->Prop) (σ:St) (K:St->Prop):z1d C zpb σ K = z07 C [] [⟨.feq true [(0,0),(1,0),(2,1),(3,1),(4,2),(5,1)] (.t 20) (.t 24),some 25,none,[],[]⟩] zed (σ.kills []) K:=rfl
theorem e_r05s_6:EqR zpa [⟨.mv (.c (.bool false)),some 4,none,[],[]⟩] []:=fun _ _ _=>rfl
theorem e_r05s_7:EqR zp9 zdi []:=fun _ _ _=>rfl
theorem e_r05s_9:EqR zp8 [⟨.mv (.c (.bool true)),some 4,none,[],[]⟩] []:=fun _ _ _=>rfl
theorem fn_r05s {args:List AV} {r:AV} (ha:args.length.ble Tryz.f46.ntmps = true) (h:run (AFn Tryz.prog) ir_r05s (endQ zmx r) (z0h args)):AFn Tryz.prog 46 args r :=
 AFn.of_code (pv:=false) (hint:=fun _=>[]) (c:=Tryz.f46.body.getD .skip) (by kernel_rfl) (by kernel_rfl) Tryz.func46 (by kernel_rfl) (by kernel_rfl) (by kernel_rfl) (of_decide_eq_true (by kernel_rfl)) (Nat.le_of_ble_eq_true ha) (Nat.le_of_ble_eq_true (by kernel_rfl)) (z0g h)
def zp7:Reg:=⟨[],[⟨.mv (.c (.bool false)),some 4,none,[],[]⟩],[],[],false⟩
def zdh:List ROp:=[⟨.mv (.t 0),some 6,none,[],[]⟩,⟨.len false (.t 6),some 7,none,[],[]⟩,⟨.mv (.t 1),some 8,none,[],[]⟩,⟨.len false (.t 8),some 9,none,[],[]⟩,⟨.bin .neq (.t 7) (.t 9),some 10,none,[],[]⟩]
def zp6:Reg:=⟨[],zdh,[],[],false⟩
def zp5:Reg:=⟨[],[⟨.mv (.c (.bool false)),some 4,none,[],[]⟩],[],[],false⟩
def zp4:Reg:=⟨[],[⟨.mv (.c (.int .i64 0)),some 5,none,[],[]⟩],[],[],false⟩
def zdg:List ROp:=[⟨.mv (.t 5),some 11,none,[],[]⟩,⟨.mv (.t 0),some 12,none,[],[]⟩,⟨.len false (.t 12),some 13,none,[],[]⟩,⟨.bin .lss (.t 11) (.t 13),some 14,none,[],[]⟩]
def zp3:Reg:=⟨[],zdg,[],[],false⟩
def zec:List ROp:=[⟨.mv (.t 0),some 17,none,[],[]⟩,⟨.mv (.t 5),some 18,none,[],[]⟩,⟨.iaddr 1 (.t 17) (.t 18),some 19,none,[],[]⟩,⟨.load 1 false (.t 19),some 20,none,[],[]⟩,⟨.mv (.t 1),some 21,none,[],[]⟩,⟨.mv (.t 5),some 22,none,[],[]⟩,⟨.iaddr 1 (.t 21) (.t 22),some 23,none,[],[]⟩,⟨.load 1 false (.t 23),some 24,none,[],[]⟩]
def zp2:Reg:=⟨zec,[⟨.bin .neq (.t 20) (.t 24),some 25,none,[],[]⟩],[],[],true⟩
def zp1:Reg:=⟨[],[⟨.mv (.c (.bool false)),some 4,none,[],[]⟩],[],[],false⟩
def zdf:List ROp:=[⟨.mv (.t 5),some 15,none,[],[]⟩,⟨.bin .add (.t 15) (.c (.int .i64 1)),some 16,none,[],[]⟩,⟨.mv (.t 16),some 5,none,[],[]⟩]
def zp0:Reg:=⟨[],zdf,[],[],false⟩
def zh4:IR:=(.seq (.seq (.reg zp3)
 (.cond (.t 14) .skip
 (.exit 0)))
 (.seq (.block 1 (.seq (.reg zp2)
 (.cond (.t 25) (.seq (.reg zp1)
 .ret)
 .skip)))
 (.reg zp0)))
def zoz:Reg:=⟨[],[⟨.mv (.c (.bool true)),some 4,none,[],[]⟩],[],[],false⟩
def ir_r11s:IR:=(.seq (.reg zp7)
 (.seq (.seq (.reg zp6)
 (.cond (.t 10) (.seq (.reg zp5)
 .ret)
 .skip))
 (.seq (.seq (.reg zp4)
 (.block 0 (.loop zh4)))
 (.seq (.reg zoz)
 .ret))))
def zmw:List RDesc:=[(.tmp 4)]
theorem e_r11s_0:EqR zp7 [⟨.mv (.c (.bool false)),some 4,none,[],[]⟩] []:=fun _ _ _=>rfl
theorem e_r11s_1:EqR zp6 zdh []:=fun _ _ _=>rfl
theorem e_r11s_2:EqR zp5 [⟨.mv (.c (.bool false)),some 4,none,[],[]⟩] []:=fun _ _ _=>rfl
theorem e_r11s_3:EqR zp4 [⟨.mv (.c (.int .i64 0)),some 5,none,[],[]⟩] []:=fun _ _ _=>rfl
theorem e_r11s_4:EqR zp3 zdg []:=fun _ _ _=>rfl
theorem e_r11s_5 (C:FuncId->List AV->AV->Prop) (σ:St) (K:St->Prop):z1d C zp2 σ K = z07 C [] [⟨.bin .neq (.t 20) (.t 24),some 25,none,[],[]⟩] zec (σ.kills []) K:=rfl
theorem e_r11s_6:EqR zp1 [⟨.mv (.c (.bool false)),some 4,none,[],[]⟩] []:=fun _ _ _=>rfl
theorem e_r11s_7:EqR zp0 zdf []:=fun _ _ _=>rfl
theorem e_r11s_9:EqR zoz [⟨.mv (.c (.bool true)),some 4,none,[],[]⟩] []:=fun _ _ _=>rfl
theorem fn_r11s {args:List AV} {r:AV} (ha:args.length.ble Tryz.f45.ntmps = true) (h:run (AFn Tryz.prog) ir_r11s (endQ zmw r) (z0h args)):AFn Tryz.prog 45 args r :=
 AFn.of_code (pv:=false) (hint:=fun _=>[]) (c:=Tryz.f45.body.getD .skip) (by kernel_rfl) (by kernel_rfl) Tryz.func45 (by kernel_rfl) (by kernel_rfl) (by kernel_rfl) (of_decide_eq_true (by kernel_rfl)) (Nat.le_of_ble_eq_true ha) (Nat.le_of_ble_eq_true (by kernel_rfl)) (z0g h)
attribute [local go_sem ↓] ir_eqs
attribute [local go_sem] res_eqs e_eqs_0 e_eqs_1 zk7 e_eqs_2 e_eqs_3 zk6 e_eqs_4 e_eqs_5 e_eqs_6 zlo e_eqs_7 e_eqs_8 e_eqs_10
attribute [local go_sem ↓] ir_eqm
attribute [local go_sem] res_eqm e_eqm_0 e_eqm_1 zkb e_eqm_2 e_eqm_3 zka e_eqm_4 e_eqm_5 e_eqm_6 zlq e_eqm_7 e_eqm_8 e_eqm_10
attribute [local go_sem ↓] ir_eqn
attribute [local go_sem] res_eqn e_eqn_0 e_eqn_1 zk9 e_eqn_2 e_eqn_3 zk8 e_eqn_4 e_eqn_5 e_eqn_6 zlp e_eqn_7 e_eqn_8 e_eqn_10
attribute [local go_sem ↓] ir_r01s
attribute [local go_sem] zmy e_r01s_0 e_r01s_1 zdn e_r01s_2 e_r01s_3 e_r01s_4 zdm e_r01s_5 zee e_r01s_6 e_r01s_7 zdl e_r01s_9
attribute [local go_sem ↓] ir_r05s
attribute [local go_sem] zmx e_r05s_0 e_r05s_1 zdk e_r05s_2 e_r05s_3 e_r05s_4 zdj e_r05s_5 zed e_r05s_6 e_r05s_7 zdi e_r05s_9
attribute [local go_sem ↓] ir_r11s
attribute [local go_sem] zmw e_r11s_0 e_r11s_1 zdh e_r11s_2 e_r11s_3 e_r11s_4 zdg e_r11s_5 zec e_r11s_6 e_r11s_7 zdf e_r11s_9
def eqL {α:Type} (p:α->α->Bool):List α->List α->Bool
 | [],[]=>true
 | x :: a,y :: b=>p x y && eqL p a b
 | _,_=>false
theorem z5o {α:Type} {p:α->α->Bool}:∀ (a b:List α),a.length ≠ b.length->eqL p a b = false
 | [],[],h=>absurd rfl h
 | [],y :: b,_=>rfl
 | x :: a,[],_=>rfl
 | x :: a,y :: b,h=>by
  rw [eqL,z5o a b (fun e=>h (by rw [List.length_cons,List.length_cons,e])),Bool.and_false]
theorem z8h {α:Type} {p:α->α->Bool} (h:∀ x,p x x = true):∀ a,eqL p a a = true
 | []=>rfl
 | x :: a=>by rw [eqL,h,z8h h a]; rfl
def eqS (a b:ByteArray):Bool:=a.toList == b.toList
def eqN (a b:Int):Bool:=a == b
def eqM (a b:Msg):Bool:=(a.stamp == b.stamp) && ((a.kind == b.kind) && ((a.key.toList == b.key.toList) && ((a.hi.toList == b.hi.toList) && ((a.op == b.op) && (a.val.toList == b.val.toList)))))
def eqsI (a b:List ByteArray) (R:Bool) (k:Nat) (σ:St):Prop :=
 ∃ j:Nat,j≤a.length∧k = a.length - j∧σ.T 0 = .sl (a.map .str)∧σ.T 1 = .sl (b.map .str)∧σ.T 13 = .int .i64 j∧σ.T 12 = .int .i64 a.length∧eqL eqS (a.drop j) (b.drop j) = R
set_option maxHeartbeats 4000000 in
theorem eqs_ok (a b:List ByteArray) (ha:a.length≤1000000000) (hb:b.length≤1000000000):AFn Tryz.prog 64 [.sl (a.map .str),.sl (b.map .str)] (.bool (eqL eqS a b)):=by
 refine fn_eqs rfl ?_
 by_cases hl:a.length = b.length
 case neg =>
  have hl':(((a.length:Nat):Int) != ((b.length:Nat):Int)) = true:=by simp; omega
  rw [z5o a b hl]
  simp (maxSteps:=9^7) only [go_sem,hl',List.length_map]
 have hl':(((a.length:Nat):Int) != ((b.length:Nat):Int)) = false:=by simp; omega
 obtain ⟨R,hR⟩:∃ R,eqL eqS a b = R:=⟨_,rfl⟩
 rw [hR]
 simp (maxSteps:=9^7) only [go_sem,hl',List.length_map]
 refine z0c (eqsI a b R) (k:=a.length) ⟨0,by omega,rfl,?_,?_,?_,?_,hR⟩ ?_
 iterate 4 focus ((simp (maxSteps:=9^7) only [go_sem,List.length_map]) <;> rfl)
 clear hR
 rintro k σ ⟨j,hj,rfl,t0,t1,t5,t8,hr⟩
 simp only [zpw]
 by_cases hlt:j < a.length
 case neg =>
  have hlt':¬ (j:Int) < (a.length:Int):=by omega
  rw [List.drop_eq_nil_of_le (by omega),List.drop_eq_nil_of_le (by omega),eqL] at hr
  subst hr
  simp (maxSteps:=9^7) only [go_sem,t0,t1,t5,t8,hlt',List.length_map]
 have hlt':(j:Int) < (a.length:Int):=by omega
 have hlt2:j < b.length:=by omega
 obtain ⟨x,hx⟩:=z0o hlt
 obtain ⟨y,hy⟩:=z0o hlt2
 have hgx:=z0v (f:=AV.str) hx
 have hgy:=z0v (f:=AV.str) hy
 have hw:=z2s (j:=j) (by omega)
 rw [z0u hx,z0u hy,eqL] at hr
 unfold eqS at hr
 cases q1:x.toList == y.toList <;> rw [q1] at hr
 case false =>
  have q1':(x.toList != y.toList) = true:=by rw [bne,q1]; rfl
  rw [Bool.false_and] at hr
  subst hr
  simp (maxSteps:=9^7) only [go_sem,t0,t1,t5,t8,hlt',hgx,hgy,hlt,hlt2,q1,q1',List.length_map,Int.toNat_natCast]
  all_goals omega
 have q1':(x.toList != y.toList) = false:=by rw [bne,q1]; rfl
 rw [Bool.true_and] at hr
 simp (maxSteps:=9^7) only [go_sem,t0,t1,t5,t8,hlt',hgx,hgy,q1,q1',hw,hlt,hlt2,List.length_map,Int.toNat_natCast]
 (repeat refine And.intro (by omega) ?_)
 refine ⟨a.length - (j + 1),by omega,j + 1,by omega,rfl,?_,?_,?_,?_,hr⟩ <;> (simp (maxSteps:=9^7) only [go_sem,t0,t1,t5,t8,hw])
def r01sI (a b:List ByteArray) (R:Bool) (k:Nat) (σ:St):Prop :=
 ∃ j:Nat,j≤a.length∧k = a.length - j∧σ.T 0 = .sl (a.map .str)∧σ.T 1 = .sl (b.map .str)∧σ.T 5 = .int .i64 j∧eqL eqS (a.drop j) (b.drop j) = R
set_option maxHeartbeats 4000000 in
theorem r01s_ok (a b:List ByteArray) (ha:a.length≤1000000000) (hb:b.length≤1000000000):AFn Tryz.prog 44 [.sl (a.map .str),.sl (b.map .str)] (.bool (eqL eqS a b)):=by
 refine fn_r01s rfl ?_
 by_cases hl:a.length = b.length
 case neg =>
  have hl':(((a.length:Nat):Int) != ((b.length:Nat):Int)) = true:=by simp; omega
  rw [z5o a b hl]
  simp (maxSteps:=9^7) only [go_sem,hl',List.length_map]
 have hl':(((a.length:Nat):Int) != ((b.length:Nat):Int)) = false:=by simp; omega
 obtain ⟨R,hR⟩:∃ R,eqL eqS a b = R:=⟨_,rfl⟩
 rw [hR]
 simp (maxSteps:=9^7) only [go_sem,hl',List.length_map]
 refine z0c (r01sI a b R) (k:=a.length) ⟨0,by omega,rfl,?_,?_,?_,hR⟩ ?_
 iterate 3 focus ((simp (maxSteps:=9^7) only [go_sem]) <;> rfl)
 clear hR
 rintro k σ ⟨j,hj,rfl,t0,t1,t5,hr⟩
 simp only [zh6]
 by_cases hlt:j < a.length
 case neg =>
  have hlt':¬ (j:Int) < (a.length:Int):=by omega
  rw [List.drop_eq_nil_of_le (by omega),List.drop_eq_nil_of_le (by omega),eqL] at hr
  subst hr
  simp (maxSteps:=9^7) only [go_sem,t0,t1,t5,hlt',List.length_map]
 have hlt':(j:Int) < (a.length:Int):=by omega
 have hlt2:j < b.length:=by omega
 obtain ⟨x,hx⟩:=z0o hlt
 obtain ⟨y,hy⟩:=z0o hlt2
 have hgx:=z0v (f:=AV.str) hx
 have hgy:=z0v (f:=AV.str) hy
 have hw:=z2s (j:=j) (by omega)
 rw [z0u hx,z0u hy,eqL] at hr
 unfold eqS at hr
 cases q1:x.toList == y.toList <;> rw [q1] at hr
 case false =>
  have q1':(x.toList != y.toList) = true:=by rw [bne,q1]; rfl
  rw [Bool.false_and] at hr
  subst hr
  simp (maxSteps:=9^7) only [go_sem,t0,t1,t5,hlt',hgx,hgy,hlt,hlt2,q1,q1',List.length_map,Int.toNat_natCast]
  all_goals omega
 have q1':(x.toList != y.toList) = false:=by rw [bne,q1]; rfl
 rw [Bool.true_and] at hr
 simp (maxSteps:=9^7) only [go_sem,t0,t1,t5,hlt',hgx,hgy,q1,q1',hw,hlt,hlt2,List.length_map,Int.toNat_natCast]
 (repeat refine And.intro (by omega) ?_)
 refine ⟨a.length - (j + 1),by omega,j + 1,by omega,rfl,?_,?_,?_,hr⟩ <;> (simp (maxSteps:=9^7) only [go_sem,t0,t1,t5,hw])
def eqnI (a b:List Int) (R:Bool) (k:Nat) (σ:St):Prop :=
 ∃ j:Nat,j≤a.length∧k = a.length - j∧σ.T 0 = .sl (a.map (AV.int .i64))∧σ.T 1 = .sl (b.map (AV.int .i64))∧σ.T 13 = .int .i64 j∧σ.T 12 = .int .i64 a.length∧eqL eqN (a.drop j) (b.drop j) = R
set_option maxHeartbeats 4000000 in
theorem eqn_ok (a b:List Int) (ha:a.length≤1000000000) (hb:b.length≤1000000000):AFn Tryz.prog 65 [.sl (a.map (AV.int .i64)),.sl (b.map (AV.int .i64))] (.bool (eqL eqN a b)):=by
 refine fn_eqn rfl ?_
 by_cases hl:a.length = b.length
 case neg =>
  have hl':(((a.length:Nat):Int) != ((b.length:Nat):Int)) = true:=by simp; omega
  rw [z5o a b hl]
  simp (maxSteps:=9^7) only [go_sem,hl',List.length_map]
 have hl':(((a.length:Nat):Int) != ((b.length:Nat):Int)) = false:=by simp; omega
 obtain ⟨R,hR⟩:∃ R,eqL eqN a b = R:=⟨_,rfl⟩
 rw [hR]
 simp (maxSteps:=9^7) only [go_sem,hl',List.length_map]
 refine z0c (eqnI a b R) (k:=a.length) ⟨0,by omega,rfl,?_,?_,?_,?_,hR⟩ ?_
 iterate 4 focus ((simp (maxSteps:=9^7) only [go_sem,List.length_map]) <;> rfl)
 clear hR
 rintro k σ ⟨j,hj,rfl,t0,t1,t5,t8,hr⟩
 simp only [zpy]
 by_cases hlt:j < a.length
 case neg =>
  have hlt':¬ (j:Int) < (a.length:Int):=by omega
  rw [List.drop_eq_nil_of_le (by omega),List.drop_eq_nil_of_le (by omega),eqL] at hr
  subst hr
  simp (maxSteps:=9^7) only [go_sem,t0,t1,t5,t8,hlt',List.length_map]
 have hlt':(j:Int) < (a.length:Int):=by omega
 have hlt2:j < b.length:=by omega
 obtain ⟨x,hx⟩:=z0o hlt
 obtain ⟨y,hy⟩:=z0o hlt2
 have hgx:=z0v (f:=(AV.int .i64)) hx
 have hgy:=z0v (f:=(AV.int .i64)) hy
 have hw:=z2s (j:=j) (by omega)
 rw [z0u hx,z0u hy,eqL] at hr
 unfold eqN at hr
 cases q1:x == y <;> rw [q1] at hr
 case false =>
  have q1':(x != y) = true:=by rw [bne,q1]; rfl
  rw [Bool.false_and] at hr
  subst hr
  simp (maxSteps:=9^7) only [go_sem,t0,t1,t5,t8,hlt',hgx,hgy,hlt,hlt2,q1,q1',List.length_map,Int.toNat_natCast]
  all_goals omega
 have q1':(x != y) = false:=by rw [bne,q1]; rfl
 rw [Bool.true_and] at hr
 simp (maxSteps:=9^7) only [go_sem,t0,t1,t5,t8,hlt',hgx,hgy,q1,q1',hw,hlt,hlt2,List.length_map,Int.toNat_natCast]
 (repeat refine And.intro (by omega) ?_)
 refine ⟨a.length - (j + 1),by omega,j + 1,by omega,rfl,?_,?_,?_,?_,hr⟩ <;> (simp (maxSteps:=9^7) only [go_sem,t0,t1,t5,t8,hw])
def r11sI (a b:List Int) (R:Bool) (k:Nat) (σ:St):Prop :=
 ∃ j:Nat,j≤a.length∧k = a.length - j∧σ.T 0 = .sl (a.map (AV.int .i64))∧σ.T 1 = .sl (b.map (AV.int .i64))∧σ.T 5 = .int .i64 j∧eqL eqN (a.drop j) (b.drop j) = R
set_option maxHeartbeats 4000000 in
theorem r11s_ok (a b:List Int) (ha:a.length≤1000000000) (hb:b.length≤1000000000):AFn Tryz.prog 45 [.sl (a.map (AV.int .i64)),.sl (b.map (AV.int .i64))] (.bool (eqL eqN a b)):=by
 refine fn_r11s rfl ?_
 by_cases hl:a.length = b.length
 case neg =>
  have hl':(((a.length:Nat):Int) != ((b.length:Nat):Int)) = true:=by simp; omega
  rw [z5o a b hl]
  simp (maxSteps:=9^7) only [go_sem,hl',List.length_map]
 have hl':(((a.length:Nat):Int) != ((b.length:Nat):Int)) = false:=by simp; omega
 obtain ⟨R,hR⟩:∃ R,eqL eqN a b = R:=⟨_,rfl⟩
 rw [hR]
 simp (maxSteps:=9^7) only [go_sem,hl',List.length_map]
 refine z0c (r11sI a b R) (k:=a.length) ⟨0,by omega,rfl,?_,?_,?_,hR⟩ ?_
 iterate 3 focus ((simp (maxSteps:=9^7) only [go_sem]) <;> rfl)
 clear hR
 rintro k σ ⟨j,hj,rfl,t0,t1,t5,hr⟩
 simp only [zh4]
 by_cases hlt:j < a.length
 case neg =>
  have hlt':¬ (j:Int) < (a.length:Int):=by omega
  rw [List.drop_eq_nil_of_le (by omega),List.drop_eq_nil_of_le (by omega),eqL] at hr
  subst hr
  simp (maxSteps:=9^7) only [go_sem,t0,t1,t5,hlt',List.length_map]
 have hlt':(j:Int) < (a.length:Int):=by omega
 have hlt2:j < b.length:=by omega
 obtain ⟨x,hx⟩:=z0o hlt
 obtain ⟨y,hy⟩:=z0o hlt2
 have hgx:=z0v (f:=(AV.int .i64)) hx
 have hgy:=z0v (f:=(AV.int .i64)) hy
 have hw:=z2s (j:=j) (by omega)
 rw [z0u hx,z0u hy,eqL] at hr
 unfold eqN at hr
 cases q1:x == y <;> rw [q1] at hr
 case false =>
  have q1':(x != y) = true:=by rw [bne,q1]; rfl
  rw [Bool.false_and] at hr
  subst hr
  simp (maxSteps:=9^7) only [go_sem,t0,t1,t5,hlt',hgx,hgy,hlt,hlt2,q1,q1',List.length_map,Int.toNat_natCast]
  all_goals omega
 have q1':(x != y) = false:=by rw [bne,q1]; rfl
 rw [Bool.true_and] at hr
 simp (maxSteps:=9^7) only [go_sem,t0,t1,t5,hlt',hgx,hgy,q1,q1',hw,hlt,hlt2,List.length_map,Int.toNat_natCast]
 (repeat refine And.intro (by omega) ?_)
 refine ⟨a.length - (j + 1),by omega,j + 1,by omega,rfl,?_,?_,?_,hr⟩ <;> (simp (maxSteps:=9^7) only [go_sem,t0,t1,t5,hw])
def eqmI (a b:List Msg) (R:Bool) (k:Nat) (σ:St):Prop :=
 ∃ j:Nat,j≤a.length∧k = a.length - j∧σ.T 0 = .sl (a.map Msg.a)∧σ.T 1 = .sl (b.map Msg.a)∧σ.T 13 = .int .i64 j∧σ.T 12 = .int .i64 a.length∧eqL eqM (a.drop j) (b.drop j) = R
set_option maxHeartbeats 4000000 in
theorem eqm_ok (a b:List Msg) (ha:a.length≤1000000000) (hb:b.length≤1000000000):AFn Tryz.prog 66 [.sl (a.map Msg.a),.sl (b.map Msg.a)] (.bool (eqL eqM a b)):=by
 refine fn_eqm rfl ?_
 by_cases hl:a.length = b.length
 case neg =>
  have hl':(((a.length:Nat):Int) != ((b.length:Nat):Int)) = true:=by simp; omega
  rw [z5o a b hl]
  simp (maxSteps:=9^7) only [go_sem,hl',List.length_map]
 have hl':(((a.length:Nat):Int) != ((b.length:Nat):Int)) = false:=by simp; omega
 obtain ⟨R,hR⟩:∃ R,eqL eqM a b = R:=⟨_,rfl⟩
 rw [hR]
 simp (maxSteps:=9^7) only [go_sem,hl',List.length_map]
 refine z0c (eqmI a b R) (k:=a.length) ⟨0,by omega,rfl,?_,?_,?_,?_,hR⟩ ?_
 iterate 4 focus ((simp (maxSteps:=9^7) only [go_sem,List.length_map]) <;> rfl)
 clear hR
 rintro k σ ⟨j,hj,rfl,t0,t1,t5,t8,hr⟩
 simp only [zq0]
 by_cases hlt:j < a.length
 case neg =>
  have hlt':¬ (j:Int) < (a.length:Int):=by omega
  rw [List.drop_eq_nil_of_le (by omega),List.drop_eq_nil_of_le (by omega),eqL] at hr
  subst hr
  simp (maxSteps:=9^7) only [go_sem,t0,t1,t5,t8,hlt',List.length_map]
 have hlt':(j:Int) < (a.length:Int):=by omega
 have hlt2:j < b.length:=by omega
 obtain ⟨x,hx⟩:=z0o hlt
 obtain ⟨y,hy⟩:=z0o hlt2
 have hgx:=z0v (f:=Msg.a) hx
 have hgy:=z0v (f:=Msg.a) hy
 simp only [Msg.a] at hgx hgy
 have hw:=z2s (j:=j) (by omega)
 rw [z0u hx,z0u hy,eqL] at hr
 unfold eqM at hr
 cases q1:x.stamp == y.stamp
 case false =>
  rw [q1] at hr
  simp only [Bool.and_false,Bool.false_and,Bool.and_true,Bool.true_and,Bool.and_self] at hr
  subst hr
  simp (maxSteps:=9^7) only [go_sem,t0,t1,t5,t8,hlt',hgx,hgy,hlt,hlt2,q1,List.length_map,Int.toNat_natCast]
  all_goals omega
 cases q2:x.kind == y.kind
 case false =>
  rw [q1,q2] at hr
  simp only [Bool.and_false,Bool.false_and,Bool.and_true,Bool.true_and,Bool.and_self] at hr
  subst hr
  simp (maxSteps:=9^7) only [go_sem,t0,t1,t5,t8,hlt',hgx,hgy,hlt,hlt2,q1,q2,List.length_map,Int.toNat_natCast]
  all_goals omega
 cases q3:x.key.toList == y.key.toList
 case false =>
  rw [q1,q2,q3] at hr
  simp only [Bool.and_false,Bool.false_and,Bool.and_true,Bool.true_and,Bool.and_self] at hr
  subst hr
  simp (maxSteps:=9^7) only [go_sem,t0,t1,t5,t8,hlt',hgx,hgy,hlt,hlt2,q1,q2,q3,List.length_map,Int.toNat_natCast]
  all_goals omega
 cases q4:x.hi.toList == y.hi.toList
 case false =>
  rw [q1,q2,q3,q4] at hr
  simp only [Bool.and_false,Bool.false_and,Bool.and_true,Bool.true_and,Bool.and_self] at hr
  subst hr
  simp (maxSteps:=9^7) only [go_sem,t0,t1,t5,t8,hlt',hgx,hgy,hlt,hlt2,q1,q2,q3,q4,List.length_map,Int.toNat_natCast]
  all_goals omega
 cases q5:x.op == y.op
 case false =>
  rw [q1,q2,q3,q4,q5] at hr
  simp only [Bool.and_false,Bool.false_and,Bool.and_true,Bool.true_and,Bool.and_self] at hr
  subst hr
  simp (maxSteps:=9^7) only [go_sem,t0,t1,t5,t8,hlt',hgx,hgy,hlt,hlt2,q1,q2,q3,q4,q5,List.length_map,Int.toNat_natCast]
  all_goals omega
 cases q6:x.val.toList == y.val.toList
 case false =>
  rw [q1,q2,q3,q4,q5,q6] at hr
  simp only [Bool.and_false,Bool.false_and,Bool.and_true,Bool.true_and,Bool.and_self] at hr
  subst hr
  simp (maxSteps:=9^7) only [go_sem,t0,t1,t5,t8,hlt',hgx,hgy,hlt,hlt2,q1,q2,q3,q4,q5,q6,List.length_map,Int.toNat_natCast]
  all_goals omega
 rw [q1,q2,q3,q4,q5,q6] at hr
 simp only [Bool.and_self,Bool.true_and] at hr
 simp (maxSteps:=9^7) only [go_sem,t0,t1,t5,t8,hlt',hgx,hgy,q1,q2,q3,q4,q5,q6,hw,hlt,hlt2,List.length_map,Int.toNat_natCast]
 (repeat refine And.intro (by omega) ?_)
 refine ⟨a.length - (j + 1),by omega,j + 1,by omega,rfl,?_,?_,?_,?_,hr⟩ <;> (simp (maxSteps:=9^7) only [go_sem,t0,t1,t5,t8,hw])
def r05sI (a b:List Msg) (R:Bool) (k:Nat) (σ:St):Prop :=
 ∃ j:Nat,j≤a.length∧k = a.length - j∧σ.T 0 = .sl (a.map Msg.a)∧σ.T 1 = .sl (b.map Msg.a)∧σ.T 5 = .int .i64 j∧eqL eqM (a.drop j) (b.drop j) = R
set_option maxHeartbeats 4000000 in
theorem r05s_ok (a b:List Msg) (ha:a.length≤1000000000) (hb:b.length≤1000000000):AFn Tryz.prog 46 [.sl (a.map Msg.a),.sl (b.map Msg.a)] (.bool (eqL eqM a b)):=by
 refine fn_r05s rfl ?_
 by_cases hl:a.length = b.length
 case neg =>
  have hl':(((a.length:Nat):Int) != ((b.length:Nat):Int)) = true:=by simp; omega
  rw [z5o a b hl]
  simp (maxSteps:=9^7) only [go_sem,hl',List.length_map]
 have hl':(((a.length:Nat):Int) != ((b.length:Nat):Int)) = false:=by simp; omega
 obtain ⟨R,hR⟩:∃ R,eqL eqM a b = R:=⟨_,rfl⟩
 rw [hR]
 simp (maxSteps:=9^7) only [go_sem,hl',List.length_map]
 refine z0c (r05sI a b R) (k:=a.length) ⟨0,by omega,rfl,?_,?_,?_,hR⟩ ?_
 iterate 3 focus ((simp (maxSteps:=9^7) only [go_sem]) <;> rfl)
 clear hR
 rintro k σ ⟨j,hj,rfl,t0,t1,t5,hr⟩
 simp only [zh5]
 by_cases hlt:j < a.length
 case neg =>
  have hlt':¬ (j:Int) < (a.length:Int):=by omega
  rw [List.drop_eq_nil_of_le (by omega),List.drop_eq_nil_of_le (by omega),eqL] at hr
  subst hr
  simp (maxSteps:=9^7) only [go_sem,t0,t1,t5,hlt',List.length_map]
 have hlt':(j:Int) < (a.length:Int):=by omega
 have hlt2:j < b.length:=by omega
 obtain ⟨x,hx⟩:=z0o hlt
 obtain ⟨y,hy⟩:=z0o hlt2
 have hgx:=z0v (f:=Msg.a) hx
 have hgy:=z0v (f:=Msg.a) hy
 simp only [Msg.a] at hgx hgy
 have hw:=z2s (j:=j) (by omega)
 rw [z0u hx,z0u hy,eqL] at hr
 unfold eqM at hr
 cases q1:x.stamp == y.stamp
 case false =>
  rw [q1] at hr
  simp only [Bool.and_false,Bool.false_and,Bool.and_true,Bool.true_and,Bool.and_self] at hr
  subst hr
  simp (maxSteps:=9^7) only [go_sem,t0,t1,t5,hlt',hgx,hgy,hlt,hlt2,q1,List.length_map,Int.toNat_natCast]
  all_goals omega
 cases q2:x.kind == y.kind
 case false =>
  rw [q1,q2] at hr
  simp only [Bool.and_false,Bool.false_and,Bool.and_true,Bool.true_and,Bool.and_self] at hr
  subst hr
  simp (maxSteps:=9^7) only [go_sem,t0,t1,t5,hlt',hgx,hgy,hlt,hlt2,q1,q2,List.length_map,Int.toNat_natCast]
  all_goals omega
 cases q3:x.key.toList == y.key.toList
 case false =>
  rw [q1,q2,q3] at hr
  simp only [Bool.and_false,Bool.false_and,Bool.and_true,Bool.true_and,Bool.and_self] at hr
  subst hr
  simp (maxSteps:=9^7) only [go_sem,t0,t1,t5,hlt',hgx,hgy,hlt,hlt2,q1,q2,q3,List.length_map,Int.toNat_natCast]
  all_goals omega
 cases q4:x.hi.toList == y.hi.toList
 case false =>
  rw [q1,q2,q3,q4] at hr
  simp only [Bool.and_false,Bool.false_and,Bool.and_true,Bool.true_and,Bool.and_self] at hr
  subst hr
  simp (maxSteps:=9^7) only [go_sem,t0,t1,t5,hlt',hgx,hgy,hlt,hlt2,q1,q2,q3,q4,List.length_map,Int.toNat_natCast]
  all_goals omega
 cases q5:x.op == y.op
 case false =>
  rw [q1,q2,q3,q4,q5] at hr
  simp only [Bool.and_false,Bool.false_and,Bool.and_true,Bool.true_and,Bool.and_self] at hr
  subst hr
  simp (maxSteps:=9^7) only [go_sem,t0,t1,t5,hlt',hgx,hgy,hlt,hlt2,q1,q2,q3,q4,q5,List.length_map,Int.toNat_natCast]
  all_goals omega
 cases q6:x.val.toList == y.val.toList
 case false =>
  rw [q1,q2,q3,q4,q5,q6] at hr
  simp only [Bool.and_false,Bool.false_and,Bool.and_true,Bool.true_and,Bool.and_self] at hr
  subst hr
  simp (maxSteps:=9^7) only [go_sem,t0,t1,t5,hlt',hgx,hgy,hlt,hlt2,q1,q2,q3,q4,q5,q6,List.length_map,Int.toNat_natCast]
  all_goals omega
 rw [q1,q2,q3,q4,q5,q6] at hr
 simp only [Bool.and_self,Bool.true_and] at hr
 simp (maxSteps:=9^7) only [go_sem,t0,t1,t5,hlt',hgx,hgy,q1,q2,q3,q4,q5,q6,hw,hlt,hlt2,List.length_map,Int.toNat_natCast]
 (repeat refine And.intro (by omega) ?_)
 refine ⟨a.length - (j + 1),by omega,j + 1,by omega,rfl,?_,?_,?_,hr⟩ <;> (simp (maxSteps:=9^7) only [go_sem,t0,t1,t5,hw])
end
section
open Go.RowKit
attribute [local go_sem ↓] z1y z0n
def z93:List ROp:=[⟨.box 10 60 (.t 0),some 2,none,[3],[]⟩,⟨.box 10 60 (.t 1),some 3,none,[],[]⟩,⟨.mv (.c (.bool false)),some 4,none,[],[]⟩]
def zh9:Reg:=⟨[],z93,[2,3],[],false⟩
def z92:List ROp:=[⟨.faddr 0 (.t 2),some 6,none,[],[]⟩,⟨.load 1 false (.t 6),some 7,none,[],[]⟩,⟨.faddr 0 (.t 3),some 8,none,[],[]⟩,⟨.load 1 false (.t 8),some 9,none,[],[]⟩,⟨.bin .eql (.t 7) (.t 9),some 10,none,[],[]⟩,⟨.mv (.t 10),some 11,none,[],[]⟩,⟨.faddr 1 (.t 2),some 12,(some (11,true)),[],[]⟩,⟨.load 1 false (.t 12),some 13,(some (11,true)),[],[]⟩,⟨.faddr 1 (.t 3),some 14,(some (11,true)),[],[]⟩,⟨.load 1 false (.t 14),some 15,(some (11,true)),[],[]⟩,⟨.bin .eql (.t 13) (.t 15),some 16,(some (11,true)),[],[]⟩,⟨.pick (.t 11) (.t 16) (.c (.bool false)),some 17,none,[],[]⟩,⟨.mv (.t 17),some 18,none,[],[]⟩,⟨.faddr 4 (.t 2),some 19,(some (18,true)),[],[]⟩,⟨.load 1 false (.t 19),some 20,(some (18,true)),[],[]⟩,⟨.faddr 4 (.t 3),some 21,(some (18,true)),[],[]⟩,⟨.load 1 false (.t 21),some 22,(some (18,true)),[],[]⟩,⟨.bin .eql (.t 20) (.t 22),some 23,(some (18,true)),[],[]⟩,⟨.pick (.t 18) (.t 23) (.c (.bool false)),some 24,none,[],[]⟩,⟨.mv (.t 24),some 25,none,[],[]⟩,⟨.faddr 5 (.t 2),some 26,(some (25,true)),[],[]⟩,⟨.load 1 false (.t 26),some 27,(some (25,true)),[],[]⟩,⟨.faddr 5 (.t 3),some 28,(some (25,true)),[],[]⟩,⟨.load 1 false (.t 28),some 29,(some (25,true)),[],[]⟩,⟨.beq false (.t 27) (.t 29),some 30,(some (25,true)),[],[]⟩,⟨.pick (.t 25) (.t 30) (.c (.bool false)),some 31,none,[],[]⟩,⟨.mv (.t 31),some 32,none,[],[]⟩,⟨.faddr 6 (.t 2),some 33,(some (32,true)),[],[]⟩,⟨.load 1 false (.t 33),some 34,(some (32,true)),[],[]⟩,⟨.faddr 6 (.t 3),some 35,(some (32,true)),[],[]⟩,⟨.load 1 false (.t 35),some 36,(some (32,true)),[],[]⟩,⟨.bin .eql (.t 34) (.t 36),some 37,(some (32,true)),[],[]⟩,⟨.pick (.t 32) (.t 37) (.c (.bool false)),some 38,none,[],[]⟩,⟨.mv (.t 38),some 39,none,[],[]⟩,⟨.faddr 7 (.t 2),some 40,(some (39,true)),[],[]⟩,⟨.load 1 false (.t 40),some 41,(some (39,true)),[],[]⟩,⟨.faddr 7 (.t 3),some 42,(some (39,true)),[],[]⟩,⟨.load 1 false (.t 42),some 43,(some (39,true)),[],[]⟩,⟨.bin .eql (.t 41) (.t 43),some 44,(some (39,true)),[],[]⟩,⟨.pick (.t 39) (.t 44) (.c (.bool false)),some 45,none,[],[]⟩,⟨.mv (.t 45),some 5,none,[],[]⟩]
def zh8:Reg:=⟨[],z92,[],[],false⟩
def z91:List ROp:=[⟨.mv (.t 5),some 46,none,[52,59,66,73],[]⟩,⟨.mv (.t 46),some 47,none,[52,59,66,73],[]⟩,⟨.faddr 2 (.t 2),some 48,(some (47,true)),[52,59,66,73],[]⟩,⟨.load 1 false (.t 48),some 49,(some (47,true)),[52,59,66,73],[]⟩,⟨.faddr 2 (.t 3),some 50,(some (47,true)),[52,59,66,73],[]⟩,⟨.load 1 false (.t 50),some 51,(some (47,true)),[52,59,66,73],[]⟩,⟨.callv (.c (.clo 64 [] [])) [(.t 49),(.t 51)],some 52,(some (47,true)),[59,66,73],[]⟩,⟨.pick (.t 47) (.t 52) (.c (.bool false)),some 53,none,[59,66,73],[]⟩,⟨.mv (.t 53),some 54,none,[59,66,73],[]⟩,⟨.faddr 3 (.t 2),some 55,(some (54,true)),[59,66,73],[]⟩,⟨.load 1 false (.t 55),some 56,(some (54,true)),[59,66,73],[]⟩,⟨.faddr 3 (.t 3),some 57,(some (54,true)),[59,66,73],[]⟩,⟨.load 1 false (.t 57),some 58,(some (54,true)),[59,66,73],[]⟩,⟨.callv (.c (.clo 65 [] [])) [(.t 56),(.t 58)],some 59,(some (54,true)),[66,73],[]⟩,⟨.pick (.t 54) (.t 59) (.c (.bool false)),some 60,none,[66,73],[]⟩,⟨.mv (.t 60),some 61,none,[66,73],[]⟩,⟨.faddr 8 (.t 2),some 62,(some (61,true)),[66,73],[]⟩,⟨.load 1 false (.t 62),some 63,(some (61,true)),[66,73],[]⟩,⟨.faddr 8 (.t 3),some 64,(some (61,true)),[66,73],[]⟩,⟨.load 1 false (.t 64),some 65,(some (61,true)),[66,73],[]⟩,⟨.callv (.c (.clo 66 [] [])) [(.t 63),(.t 65)],some 66,(some (61,true)),[73],[]⟩,⟨.pick (.t 61) (.t 66) (.c (.bool false)),some 67,none,[73],[]⟩,⟨.mv (.t 67),some 68,none,[73],[]⟩,⟨.faddr 9 (.t 2),some 69,(some (68,true)),[73],[]⟩,⟨.load 1 false (.t 69),some 70,(some (68,true)),[73],[]⟩,⟨.faddr 9 (.t 3),some 71,(some (68,true)),[73],[]⟩,⟨.load 1 false (.t 71),some 72,(some (68,true)),[73],[]⟩,⟨.callv (.c (.clo 67 [] [])) [(.t 70),(.t 72)],some 73,(some (68,true)),[],[]⟩,⟨.pick (.t 68) (.t 73) (.c (.bool false)),some 74,none,[],[]⟩,⟨.mv (.t 74),some 4,none,[],[]⟩]
def zh7:Reg:=⟨[],z91,[52,59,66,73],[],false⟩
def zqe:IR:=(.seq (.reg zh9)
 (.seq (.reg zh8)
 (.seq (.reg zh7)
 .ret)))
def zgk:List RDesc:=[(.tmp 4)]
theorem e_nSame_0:EqR zh9 z93 [2,3]:=fun _ _ _=>rfl
theorem e_nSame_1:EqR zh8 z92 []:=fun _ _ _=>rfl
theorem e_nSame_2:EqR zh7 z91 [52,59,66,73]:=fun _ _ _=>rfl
theorem fn_nSame {args:List AV} {r:AV} (ha:args.length.ble Tryz.f43.ntmps = true) (h:run (AFn Tryz.prog) zqe (endQ zgk r) (z0h args)):AFn Tryz.prog 43 args r :=
 AFn.of_code (pv:=false) (hint:=fun _=>[]) (c:=Tryz.f43.body.getD .skip) (by kernel_rfl) (by kernel_rfl) Tryz.func43 (by kernel_rfl) (by kernel_rfl) (by kernel_rfl) (of_decide_eq_true (by kernel_rfl)) (Nat.le_of_ble_eq_true ha) (Nat.le_of_ble_eq_true (by kernel_rfl)) (z0g h)
def zde:List ROp:=[⟨.box 10 60 (.t 0),some 2,none,[3],[]⟩,⟨.box 10 60 (.t 1),some 3,none,[],[]⟩,⟨.mv (.c (.bool false)),some 4,none,[],[]⟩]
def zoy:Reg:=⟨[],zde,[2,3],[],false⟩
def zdd:List ROp:=[⟨.faddr 0 (.t 2),some 5,none,[],[]⟩,⟨.load 1 false (.t 5),some 6,none,[],[]⟩,⟨.faddr 0 (.t 3),some 7,none,[],[]⟩,⟨.load 1 false (.t 7),some 8,none,[],[]⟩,⟨.bin .neq (.t 6) (.t 8),some 9,none,[],[]⟩,⟨.mv (.t 9),some 10,none,[],[]⟩,⟨.faddr 1 (.t 2),some 11,(some (10,false)),[],[]⟩,⟨.load 1 false (.t 11),some 12,(some (10,false)),[],[]⟩,⟨.faddr 1 (.t 3),some 13,(some (10,false)),[],[]⟩,⟨.load 1 false (.t 13),some 14,(some (10,false)),[],[]⟩,⟨.bin .neq (.t 12) (.t 14),some 15,(some (10,false)),[],[]⟩,⟨.pick (.t 10) (.c (.bool true)) (.t 15),some 16,none,[],[]⟩,⟨.mv (.t 16),some 17,none,[],[]⟩,⟨.faddr 4 (.t 2),some 18,(some (17,false)),[],[]⟩,⟨.load 1 false (.t 18),some 19,(some (17,false)),[],[]⟩,⟨.faddr 4 (.t 3),some 20,(some (17,false)),[],[]⟩,⟨.load 1 false (.t 20),some 21,(some (17,false)),[],[]⟩,⟨.bin .neq (.t 19) (.t 21),some 22,(some (17,false)),[],[]⟩,⟨.pick (.t 17) (.c (.bool true)) (.t 22),some 23,none,[],[]⟩,⟨.mv (.t 23),some 24,none,[],[]⟩,⟨.faddr 5 (.t 2),some 25,(some (24,false)),[],[]⟩,⟨.load 1 false (.t 25),some 26,(some (24,false)),[],[]⟩,⟨.faddr 5 (.t 3),some 27,(some (24,false)),[],[]⟩,⟨.load 1 false (.t 27),some 28,(some (24,false)),[],[]⟩,⟨.beq true (.t 26) (.t 28),some 29,(some (24,false)),[],[]⟩,⟨.pick (.t 24) (.c (.bool true)) (.t 29),some 30,none,[],[]⟩,⟨.mv (.t 30),some 31,none,[],[]⟩,⟨.faddr 6 (.t 2),some 32,(some (31,false)),[],[]⟩,⟨.load 1 false (.t 32),some 33,(some (31,false)),[],[]⟩,⟨.faddr 6 (.t 3),some 34,(some (31,false)),[],[]⟩,⟨.load 1 false (.t 34),some 35,(some (31,false)),[],[]⟩,⟨.bin .neq (.t 33) (.t 35),some 36,(some (31,false)),[],[]⟩,⟨.pick (.t 31) (.c (.bool true)) (.t 36),some 37,none,[],[]⟩,⟨.mv (.t 37),some 38,none,[],[]⟩,⟨.faddr 7 (.t 2),some 39,(some (38,false)),[],[]⟩,⟨.load 1 false (.t 39),some 40,(some (38,false)),[],[]⟩,⟨.faddr 7 (.t 3),some 41,(some (38,false)),[],[]⟩,⟨.load 1 false (.t 41),some 42,(some (38,false)),[],[]⟩,⟨.bin .neq (.t 40) (.t 42),some 43,(some (38,false)),[],[]⟩,⟨.pick (.t 38) (.c (.bool true)) (.t 43),some 44,none,[],[]⟩]
def zox:Reg:=⟨[],zdd,[],[],false⟩
def zow:Reg:=⟨[],[⟨.mv (.c (.bool false)),some 4,none,[],[]⟩],[],[],false⟩
def zdc:List ROp:=[⟨.faddr 2 (.t 2),some 45,none,[49,55,62,69],[]⟩,⟨.load 1 false (.t 45),some 46,none,[49,55,62,69],[]⟩,⟨.faddr 2 (.t 3),some 47,none,[49,55,62,69],[]⟩,⟨.load 1 false (.t 47),some 48,none,[49,55,62,69],[]⟩,⟨.callv (.c (.clo 44 [] [])) [(.t 46),(.t 48)],some 49,none,[55,62,69],[]⟩,⟨.mv (.t 49),some 50,none,[55,62,69],[]⟩,⟨.faddr 3 (.t 2),some 51,(some (50,true)),[55,62,69],[]⟩,⟨.load 1 false (.t 51),some 52,(some (50,true)),[55,62,69],[]⟩,⟨.faddr 3 (.t 3),some 53,(some (50,true)),[55,62,69],[]⟩,⟨.load 1 false (.t 53),some 54,(some (50,true)),[55,62,69],[]⟩,⟨.callv (.c (.clo 45 [] [])) [(.t 52),(.t 54)],some 55,(some (50,true)),[62,69],[]⟩,⟨.pick (.t 50) (.t 55) (.c (.bool false)),some 56,none,[62,69],[]⟩,⟨.mv (.t 56),some 57,none,[62,69],[]⟩,⟨.faddr 8 (.t 2),some 58,(some (57,true)),[62,69],[]⟩,⟨.load 1 false (.t 58),some 59,(some (57,true)),[62,69],[]⟩,⟨.faddr 8 (.t 3),some 60,(some (57,true)),[62,69],[]⟩,⟨.load 1 false (.t 60),some 61,(some (57,true)),[62,69],[]⟩,⟨.callv (.c (.clo 46 [] [])) [(.t 59),(.t 61)],some 62,(some (57,true)),[69],[]⟩,⟨.pick (.t 57) (.t 62) (.c (.bool false)),some 63,none,[69],[]⟩,⟨.mv (.t 63),some 64,none,[69],[]⟩,⟨.faddr 9 (.t 2),some 65,(some (64,true)),[69],[]⟩,⟨.load 1 false (.t 65),some 66,(some (64,true)),[69],[]⟩,⟨.faddr 9 (.t 3),some 67,(some (64,true)),[69],[]⟩,⟨.load 1 false (.t 67),some 68,(some (64,true)),[69],[]⟩,⟨.callv (.c (.clo 47 [] [])) [(.t 66),(.t 68)],some 69,(some (64,true)),[],[]⟩,⟨.pick (.t 64) (.t 69) (.c (.bool false)),some 70,none,[],[]⟩,⟨.mv (.t 70),some 4,none,[],[]⟩]
def zov:Reg:=⟨[],zdc,[49,55,62,69],[],false⟩
def ir_r21s:IR:=(.seq (.reg zoy)
 (.seq (.seq (.reg zox)
 (.cond (.t 44) (.seq (.reg zow)
 .ret)
 .skip))
 (.seq (.reg zov)
 .ret)))
def zmv:List RDesc:=[(.tmp 4)]
theorem e_r21s_0:EqR zoy zde [2,3]:=fun _ _ _=>rfl
theorem e_r21s_1:EqR zox zdd []:=fun _ _ _=>rfl
theorem e_r21s_2:EqR zow [⟨.mv (.c (.bool false)),some 4,none,[],[]⟩] []:=fun _ _ _=>rfl
theorem e_r21s_3:EqR zov zdc [49,55,62,69]:=fun _ _ _=>rfl
theorem fn_r21s {args:List AV} {r:AV} (ha:args.length.ble Tryz.f23.ntmps = true) (h:run (AFn Tryz.prog) ir_r21s (endQ zmv r) (z0h args)):AFn Tryz.prog 23 args r :=
 AFn.of_code (pv:=false) (hint:=fun _=>[]) (c:=Tryz.f23.body.getD .skip) (by kernel_rfl) (by kernel_rfl) Tryz.func23 (by kernel_rfl) (by kernel_rfl) (by kernel_rfl) (of_decide_eq_true (by kernel_rfl)) (Nat.le_of_ble_eq_true ha) (Nat.le_of_ble_eq_true (by kernel_rfl)) (z0g h)
def zpu:Reg:=⟨[],[⟨.box 10 60 (.t 0),some 2,none,[],[]⟩,⟨.mv (.c (.bool false)),some 3,none,[],[]⟩],[2],[],false⟩
def zdo:List ROp:=[⟨.load 10 true (.t 2),some 4,none,[6],[]⟩,⟨.load 10 true (.t 1),some 5,none,[6],[]⟩,⟨.callv (.c (.clo 43 [] [])) [(.t 4),(.t 5)],some 6,none,[],[]⟩,⟨.mv (.t 6),some 3,none,[],[]⟩]
def zpt:Reg:=⟨[],zdo,[6],[],false⟩
def ir_nds1:IR:=(.seq (.reg zpu)
 (.seq (.reg zpt)
 .ret))
def zmz:List RDesc:=[(.tmp 3)]
theorem e_nds1_0:EqR zpu [⟨.box 10 60 (.t 0),some 2,none,[],[]⟩,⟨.mv (.c (.bool false)),some 3,none,[],[]⟩] [2]:=fun _ _ _=>rfl
theorem e_nds1_1:EqR zpt zdo [6]:=fun _ _ _=>rfl
theorem fn_nds1 {args:List AV} {r:AV} (ha:args.length.ble Tryz.f42.ntmps = true) (h:run (AFn Tryz.prog) ir_nds1 (endQ zmz r) (z0h args)):AFn Tryz.prog 42 args r :=
 AFn.of_code (pv:=false) (hint:=fun _=>[]) (c:=Tryz.f42.body.getD .skip) (by kernel_rfl) (by kernel_rfl) Tryz.func42 (by kernel_rfl) (by kernel_rfl) (by kernel_rfl) (of_decide_eq_true (by kernel_rfl)) (Nat.le_of_ble_eq_true ha) (Nat.le_of_ble_eq_true (by kernel_rfl)) (z0g h)
def r_nif_0:Reg:=⟨[],[⟨.mv (.c (.int .i64 0)),some 4,none,[],[]⟩],[],[],false⟩
def zk3:List ROp:=[⟨.mv (.t 0),some 6,none,[],[]⟩,⟨.len false (.t 6),some 7,none,[],[]⟩,⟨.mv (.c (.int .i64 0)),some 8,none,[],[]⟩]
def r_nif_1:Reg:=⟨[],zk3,[],[],false⟩
def r_nif_2:Reg:=⟨[],[⟨.bin .lss (.t 8) (.t 7),some 9,none,[],[]⟩],[],[],false⟩
def r_nif_3:Reg:=⟨[],[⟨.mv (.t 8),some 10,none,[],[]⟩,⟨.mv (.t 10),some 5,none,[],[]⟩],[],[],false⟩
def zk2:List ROp:=[⟨.mv (.t 1),some 11,none,[16],[]⟩,⟨.mv (.t 0),some 12,none,[16],[]⟩,⟨.mv (.t 5),some 13,none,[16],[]⟩,⟨.iaddr 10 (.t 12) (.t 13),some 14,none,[16],[]⟩,⟨.load 10 true (.t 14),some 15,none,[16],[]⟩,⟨.callv (.t 11) [(.t 15)],some 16,none,[],[]⟩]
def r_nif_4:Reg:=⟨[],zk2,[16],[],false⟩
def r_nif_5:Reg:=⟨[],[⟨.mv (.t 5),some 17,none,[],[]⟩,⟨.mv (.t 17),some 4,none,[],[]⟩],[],[],false⟩
def r_nif_6:Reg:=⟨[],[⟨.bin .add (.t 8) (.c (.int .i64 1)),some 18,none,[],[]⟩,⟨.mv (.t 18),some 8,none,[],[]⟩],[],[],false⟩
def zps:IR:=(.seq (.reg r_nif_2)
 (.seq (.cond (.t 9) .skip
 (.exit 0))
 (.seq (.block 1 (.seq (.reg r_nif_3)
 (.seq (.reg r_nif_4)
 (.cond (.t 16) (.seq (.reg r_nif_5)
 .ret)
 .skip))))
 (.reg r_nif_6))))
def r_nif_8:Reg:=⟨[],[⟨.mv (.c (.int .i64 (-1))),some 4,none,[],[]⟩],[],[],false⟩
def ir_nif:IR:=(.seq (.reg r_nif_0)
 (.seq (.seq (.reg r_nif_1)
 (.block 0 (.loop zps)))
 (.seq (.reg r_nif_8)
 .ret)))
def res_nif:List RDesc:=[(.tmp 4)]
theorem e_nif_0:EqR r_nif_0 [⟨.mv (.c (.int .i64 0)),some 4,none,[],[]⟩] []:=fun _ _ _=>rfl
theorem e_nif_1:EqR r_nif_1 zk3 []:=fun _ _ _=>rfl
theorem e_nif_2:EqR r_nif_2 [⟨.bin .lss (.t 8) (.t 7),some 9,none,[],[]⟩] []:=fun _ _ _=>rfl
theorem e_nif_3:EqR r_nif_3 [⟨.mv (.t 8),some 10,none,[],[]⟩,⟨.mv (.t 10),some 5,none,[],[]⟩] []:=fun _ _ _=>rfl
theorem e_nif_4:EqR r_nif_4 zk2 [16]:=fun _ _ _=>rfl
theorem e_nif_5:EqR r_nif_5 [⟨.mv (.t 5),some 17,none,[],[]⟩,⟨.mv (.t 17),some 4,none,[],[]⟩] []:=fun _ _ _=>rfl
theorem e_nif_6:EqR r_nif_6 [⟨.bin .add (.t 8) (.c (.int .i64 1)),some 18,none,[],[]⟩,⟨.mv (.t 18),some 8,none,[],[]⟩] []:=fun _ _ _=>rfl
theorem e_nif_8:EqR r_nif_8 [⟨.mv (.c (.int .i64 (-1))),some 4,none,[],[]⟩] []:=fun _ _ _=>rfl
theorem fn_nif {args:List AV} {r:AV} (ha:args.length.ble Tryz.f63.ntmps = true) (h:run (AFn Tryz.prog) ir_nif (endQ res_nif r) (z0h args)):AFn Tryz.prog 63 args r :=
 AFn.of_code (pv:=false) (hint:=fun _=>[]) (c:=Tryz.f63.body.getD .skip) (by kernel_rfl) (by kernel_rfl) Tryz.func63 (by kernel_rfl) (by kernel_rfl) (by kernel_rfl) (of_decide_eq_true (by kernel_rfl)) (Nat.le_of_ble_eq_true ha) (Nat.le_of_ble_eq_true (by kernel_rfl)) (z0g h)
def r_ncf_0:Reg:=⟨[],[⟨.mv (.c (.bool false)),some 4,none,[],[]⟩],[],[],false⟩
def zk4:List ROp:=[⟨.mv (.t 0),some 5,none,[7],[]⟩,⟨.mv (.t 1),some 6,none,[7],[]⟩,⟨.callv (.c (.clo 63 [] [])) [(.t 5),(.t 6)],some 7,none,[],[]⟩,⟨.bin .geq (.t 7) (.c (.int .i64 0)),some 8,none,[],[]⟩,⟨.mv (.t 8),some 4,none,[],[]⟩]
def r_ncf_1:Reg:=⟨[],zk4,[7],[],false⟩
def ir_ncf:IR:=(.seq (.reg r_ncf_0)
 (.seq (.reg r_ncf_1)
 .ret))
def res_ncf:List RDesc:=[(.tmp 4)]
theorem e_ncf_0:EqR r_ncf_0 [⟨.mv (.c (.bool false)),some 4,none,[],[]⟩] []:=fun _ _ _=>rfl
theorem e_ncf_1:EqR r_ncf_1 zk4 [7]:=fun _ _ _=>rfl
theorem fn_ncf {args:List AV} {r:AV} (ha:args.length.ble Tryz.f41.ntmps = true) (h:run (AFn Tryz.prog) ir_ncf (endQ res_ncf r) (z0h args)):AFn Tryz.prog 41 args r :=
 AFn.of_code (pv:=false) (hint:=fun _=>[]) (c:=Tryz.f41.body.getD .skip) (by kernel_rfl) (by kernel_rfl) Tryz.func41 (by kernel_rfl) (by kernel_rfl) (by kernel_rfl) (of_decide_eq_true (by kernel_rfl)) (Nat.le_of_ble_eq_true ha) (Nat.le_of_ble_eq_true (by kernel_rfl)) (z0g h)
def r_hix_0:Reg:=⟨[],[⟨.box 3 53 (.t 1),some 3,none,[],[]⟩,⟨.mv (.c (.int .i64 0)),some 4,none,[],[]⟩],[3],[],false⟩
def zdp:List ROp:=[⟨.mv (.t 0),some 6,none,[],[]⟩,⟨.len false (.t 6),some 7,none,[],[]⟩,⟨.mv (.c (.int .i64 0)),some 8,none,[],[]⟩]
def r_hix_1:Reg:=⟨[],zdp,[],[],false⟩
def r_hix_2:Reg:=⟨[],[⟨.bin .lss (.t 8) (.t 7),some 9,none,[],[]⟩],[],[],false⟩
def r_hix_3:Reg:=⟨[],[⟨.mv (.t 8),some 10,none,[],[]⟩,⟨.mv (.t 10),some 5,none,[],[]⟩],[],[],false⟩
def zeg:List ROp:=[⟨.load 3 true (.t 3),some 11,none,[],[]⟩,⟨.mv (.t 0),some 12,none,[],[]⟩,⟨.mv (.t 5),some 13,none,[],[]⟩,⟨.iaddr 3 (.t 12) (.t 13),some 14,none,[],[]⟩,⟨.load 3 true (.t 14),some 15,none,[],[]⟩]
def r_hix_4:Reg:=⟨zeg,[⟨.feq false [(0,0),(1,0),(2,2)] (.t 11) (.t 15),some 16,none,[],[]⟩],[],[],true⟩
def r_hix_5:Reg:=⟨[],[⟨.mv (.t 5),some 17,none,[],[]⟩,⟨.mv (.t 17),some 4,none,[],[]⟩],[],[],false⟩
def r_hix_6:Reg:=⟨[],[⟨.bin .add (.t 8) (.c (.int .i64 1)),some 18,none,[],[]⟩,⟨.mv (.t 18),some 8,none,[],[]⟩],[],[],false⟩
def zpv:IR:=(.seq (.reg r_hix_2)
 (.seq (.cond (.t 9) .skip
 (.exit 0))
 (.seq (.block 1 (.seq (.reg r_hix_3)
 (.seq (.reg r_hix_4)
 (.cond (.t 16) (.seq (.reg r_hix_5)
 .ret)
 .skip))))
 (.reg r_hix_6))))
def r_hix_8:Reg:=⟨[],[⟨.mv (.c (.int .i64 (-1))),some 4,none,[],[]⟩],[],[],false⟩
def ir_hix:IR:=(.seq (.reg r_hix_0)
 (.seq (.seq (.reg r_hix_1)
 (.block 0 (.loop zpv)))
 (.seq (.reg r_hix_8)
 .ret)))
def zkt:List RDesc:=[(.tmp 4)]
theorem e_hix_0:EqR r_hix_0 [⟨.box 3 53 (.t 1),some 3,none,[],[]⟩,⟨.mv (.c (.int .i64 0)),some 4,none,[],[]⟩] [3]:=fun _ _ _=>rfl
theorem e_hix_1:EqR r_hix_1 zdp []:=fun _ _ _=>rfl
theorem e_hix_2:EqR r_hix_2 [⟨.bin .lss (.t 8) (.t 7),some 9,none,[],[]⟩] []:=fun _ _ _=>rfl
theorem e_hix_3:EqR r_hix_3 [⟨.mv (.t 8),some 10,none,[],[]⟩,⟨.mv (.t 10),some 5,none,[],[]⟩] []:=fun _ _ _=>rfl
theorem e_hix_4 (C:FuncId->List AV->AV->Prop) (σ:St) (K:St->Prop):z1d C r_hix_4 σ K = z07 C [] [⟨.feq false [(0,0),(1,0),(2,2)] (.t 11) (.t 15),some 16,none,[],[]⟩] zeg (σ.kills []) K:=rfl
theorem e_hix_5:EqR r_hix_5 [⟨.mv (.t 5),some 17,none,[],[]⟩,⟨.mv (.t 17),some 4,none,[],[]⟩] []:=fun _ _ _=>rfl
theorem e_hix_6:EqR r_hix_6 [⟨.bin .add (.t 8) (.c (.int .i64 1)),some 18,none,[],[]⟩,⟨.mv (.t 18),some 8,none,[],[]⟩] []:=fun _ _ _=>rfl
theorem e_hix_8:EqR r_hix_8 [⟨.mv (.c (.int .i64 (-1))),some 4,none,[],[]⟩] []:=fun _ _ _=>rfl
theorem fn_hix {args:List AV} {r:AV} (ha:args.length.ble Tryz.f62.ntmps = true) (h:run (AFn Tryz.prog) ir_hix (endQ zkt r) (z0h args)):AFn Tryz.prog 62 args r :=
 AFn.of_code (pv:=false) (hint:=fun _=>[]) (c:=Tryz.f62.body.getD .skip) (by kernel_rfl) (by kernel_rfl) Tryz.func62 (by kernel_rfl) (by kernel_rfl) (by kernel_rfl) (of_decide_eq_true (by kernel_rfl)) (Nat.le_of_ble_eq_true ha) (Nat.le_of_ble_eq_true (by kernel_rfl)) (z0g h)
def r_hct_0:Reg:=⟨[],[⟨.box 3 53 (.t 1),some 3,none,[],[]⟩,⟨.mv (.c (.bool false)),some 4,none,[],[]⟩],[3],[],false⟩
def zdq:List ROp:=[⟨.mv (.t 0),some 5,none,[7],[]⟩,⟨.load 3 true (.t 3),some 6,none,[7],[]⟩,⟨.callv (.c (.clo 62 [] [])) [(.t 5),(.t 6)],some 7,none,[],[]⟩,⟨.bin .geq (.t 7) (.c (.int .i64 0)),some 8,none,[],[]⟩,⟨.mv (.t 8),some 4,none,[],[]⟩]
def r_hct_1:Reg:=⟨[],zdq,[7],[],false⟩
def ir_hct:IR:=(.seq (.reg r_hct_0)
 (.seq (.reg r_hct_1)
 .ret))
def zku:List RDesc:=[(.tmp 4)]
theorem e_hct_0:EqR r_hct_0 [⟨.box 3 53 (.t 1),some 3,none,[],[]⟩,⟨.mv (.c (.bool false)),some 4,none,[],[]⟩] [3]:=fun _ _ _=>rfl
theorem e_hct_1:EqR r_hct_1 zdq [7]:=fun _ _ _=>rfl
theorem fn_hct {args:List AV} {r:AV} (ha:args.length.ble Tryz.f39.ntmps = true) (h:run (AFn Tryz.prog) ir_hct (endQ zku r) (z0h args)):AFn Tryz.prog 39 args r :=
 AFn.of_code (pv:=false) (hint:=fun _=>[]) (c:=Tryz.f39.body.getD .skip) (by kernel_rfl) (by kernel_rfl) Tryz.func39 (by kernel_rfl) (by kernel_rfl) (by kernel_rfl) (of_decide_eq_true (by kernel_rfl)) (Nat.le_of_ble_eq_true ha) (Nat.le_of_ble_eq_true (by kernel_rfl)) (z0g h)
def zoq:Reg:=⟨[],[⟨.box 3 53 (.t 1),some 3,none,[],[]⟩,⟨.mv (.c (.bool false)),some 4,none,[],[]⟩],[3],[],false⟩
def zop:Reg:=⟨[],[⟨.mv (.c (.int .i64 0)),some 5,none,[],[]⟩],[],[],false⟩
def z87:List ROp:=[⟨.mv (.t 5),some 6,none,[],[]⟩,⟨.mv (.t 0),some 7,none,[],[]⟩,⟨.len false (.t 7),some 8,none,[],[]⟩,⟨.bin .lss (.t 6) (.t 8),some 9,none,[],[]⟩]
def zoo:Reg:=⟨[],z87,[],[],false⟩
def z8c:List ROp:=[⟨.mv (.t 0),some 12,none,[],[]⟩,⟨.mv (.t 5),some 13,none,[],[]⟩,⟨.iaddr 3 (.t 12) (.t 13),some 14,none,[],[]⟩,⟨.load 3 true (.t 14),some 15,none,[],[]⟩,⟨.load 3 true (.t 3),some 16,none,[],[]⟩]
def zon:Reg:=⟨z8c,[⟨.feq false [(0,0),(1,0),(2,2)] (.t 15) (.t 16),some 17,none,[],[]⟩],[],[],true⟩
def zom:Reg:=⟨[],[⟨.mv (.c (.bool true)),some 4,none,[],[]⟩],[],[],false⟩
def z86:List ROp:=[⟨.mv (.t 5),some 10,none,[],[]⟩,⟨.bin .add (.t 10) (.c (.int .i64 1)),some 11,none,[],[]⟩,⟨.mv (.t 11),some 5,none,[],[]⟩]
def zol:Reg:=⟨[],z86,[],[],false⟩
def zh3:IR:=(.seq (.seq (.reg zoo)
 (.cond (.t 9) .skip
 (.exit 0)))
 (.seq (.block 1 (.seq (.reg zon)
 (.cond (.t 17) (.seq (.reg zom)
 .ret)
 .skip)))
 (.reg zol)))
def zok:Reg:=⟨[],[⟨.mv (.c (.bool false)),some 4,none,[],[]⟩],[],[],false⟩
def zlh:IR:=(.seq (.reg zoq)
 (.seq (.seq (.reg zop)
 (.block 0 (.loop zh3)))
 (.seq (.reg zok)
 .ret)))
def zdw:List RDesc:=[(.tmp 4)]
theorem zqw:EqR zoq [⟨.box 3 53 (.t 1),some 3,none,[],[]⟩,⟨.mv (.c (.bool false)),some 4,none,[],[]⟩] [3]:=fun _ _ _=>rfl
theorem zqv:EqR zop [⟨.mv (.c (.int .i64 0)),some 5,none,[],[]⟩] []:=fun _ _ _=>rfl
theorem zqu:EqR zoo z87 []:=fun _ _ _=>rfl
theorem zqt (C:FuncId->List AV->AV->Prop) (σ:St) (K:St->Prop):z1d C zon σ K = z07 C [] [⟨.feq false [(0,0),(1,0),(2,2)] (.t 15) (.t 16),some 17,none,[],[]⟩] z8c (σ.kills []) K:=rfl
theorem zqs:EqR zom [⟨.mv (.c (.bool true)),some 4,none,[],[]⟩] []:=fun _ _ _=>rfl
theorem zqr:EqR zol z86 []:=fun _ _ _=>rfl
theorem zqq:EqR zok [⟨.mv (.c (.bool false)),some 4,none,[],[]⟩] []:=fun _ _ _=>rfl
theorem fn_r57h {args:List AV} {r:AV} (ha:args.length.ble Tryz.f21.ntmps = true) (h:run (AFn Tryz.prog) zlh (endQ zdw r) (z0h args)):AFn Tryz.prog 21 args r :=
 AFn.of_code (pv:=false) (hint:=fun _=>[]) (c:=Tryz.f21.body.getD .skip) (by kernel_rfl) (by kernel_rfl) Tryz.func21 (by kernel_rfl) (by kernel_rfl) (by kernel_rfl) (of_decide_eq_true (by kernel_rfl)) (Nat.le_of_ble_eq_true ha) (Nat.le_of_ble_eq_true (by kernel_rfl)) (z0g h)
def zou:Reg:=⟨[],[⟨.mv (.c (.str ⟨#[]⟩)),some 4,none,[],[]⟩],[],[],false⟩
def zot:Reg:=⟨[],[⟨.mv (.t 0),some 5,none,[],[]⟩,⟨.bin .eql (.t 5) (.c (.str ⟨#[]⟩)),some 6,none,[],[]⟩],[],[],false⟩
def zos:Reg:=⟨[],[⟨.mv (.t 1),some 7,none,[],[]⟩,⟨.mv (.t 7),some 4,none,[],[]⟩],[],[],false⟩
def z88:List ROp:=[⟨.mv (.t 0),some 8,none,[],[]⟩,⟨.bin .add (.t 8) (.c (.str ⟨#[32]⟩)),some 9,none,[],[]⟩,⟨.mv (.t 1),some 10,none,[],[]⟩,⟨.bin .add (.t 9) (.t 10),some 11,none,[],[]⟩,⟨.mv (.t 11),some 4,none,[],[]⟩]
def zor:Reg:=⟨[],z88,[],[],false⟩
def zli:IR:=(.seq (.reg zou)
 (.seq (.seq (.reg zot)
 (.cond (.t 6) (.seq (.reg zos)
 .ret)
 .skip))
 (.seq (.reg zor)
 .ret)))
def zdx:List RDesc:=[(.tmp 4)]
theorem zr0:EqR zou [⟨.mv (.c (.str ⟨#[]⟩)),some 4,none,[],[]⟩] []:=fun _ _ _=>rfl
theorem zqz:EqR zot [⟨.mv (.t 0),some 5,none,[],[]⟩,⟨.bin .eql (.t 5) (.c (.str ⟨#[]⟩)),some 6,none,[],[]⟩] []:=fun _ _ _=>rfl
theorem zqy:EqR zos [⟨.mv (.t 1),some 7,none,[],[]⟩,⟨.mv (.t 7),some 4,none,[],[]⟩] []:=fun _ _ _=>rfl
theorem zqx:EqR zor z88 []:=fun _ _ _=>rfl
theorem fn_r57a {args:List AV} {r:AV} (ha:args.length.ble Tryz.f22.ntmps = true) (h:run (AFn Tryz.prog) zli (endQ zdx r) (z0h args)):AFn Tryz.prog 22 args r :=
 AFn.of_code (pv:=false) (hint:=fun _=>[]) (c:=Tryz.f22.body.getD .skip) (by kernel_rfl) (by kernel_rfl) Tryz.func22 (by kernel_rfl) (by kernel_rfl) (by kernel_rfl) (of_decide_eq_true (by kernel_rfl)) (Nat.le_of_ble_eq_true ha) (Nat.le_of_ble_eq_true (by kernel_rfl)) (z0g h)
def r_ltc_0:Reg:=⟨[],[⟨.box 3 53 (.t 1),some 3,none,[],[]⟩,⟨.mv (.c (.str ⟨#[]⟩)),some 4,none,[],[]⟩],[3],[],false⟩
def zef:List ROp:=[⟨.mv (.t 0),some 5,none,[8,13],[]⟩,⟨.faddr 0 (.t 3),some 6,none,[8,13],[]⟩,⟨.load 1 false (.t 6),some 7,none,[8,13],[]⟩,⟨.callv (.c (.clo 32 [] [])) [(.t 7)],some 8,none,[13],[]⟩,⟨.bin .add (.t 5) (.t 8),some 9,none,[13],[]⟩,⟨.bin .add (.t 9) (.c (.str ⟨#[46]⟩)),some 10,none,[13],[]⟩,⟨.faddr 1 (.t 3),some 11,none,[8,13],[]⟩,⟨.load 1 false (.t 11),some 12,none,[8,13],[]⟩,⟨.callv (.c (.clo 32 [] [])) [(.t 12)],some 13,none,[],[]⟩]
def r_ltc_1:Reg:=⟨zef,[⟨.bin .add (.t 10) (.t 13),some 14,none,[],[]⟩,⟨.mv (.t 14),some 4,none,[],[]⟩],[8,13],[],true⟩
def ir_ltc:IR:=(.seq (.reg r_ltc_0)
 (.seq (.reg r_ltc_1)
 .ret))
def zks:List RDesc:=[(.tmp 4)]
theorem e_ltc_0:EqR r_ltc_0 [⟨.box 3 53 (.t 1),some 3,none,[],[]⟩,⟨.mv (.c (.str ⟨#[]⟩)),some 4,none,[],[]⟩] [3]:=fun _ _ _=>rfl
theorem e_ltc_1 (C:FuncId->List AV->AV->Prop) (σ:St) (K:St->Prop):z1d C r_ltc_1 σ K = z07 C [] [⟨.bin .add (.t 10) (.t 13),some 14,none,[],[]⟩,⟨.mv (.t 14),some 4,none,[],[]⟩] zef (σ.kills [8,13]) K:=rfl
theorem fn_ltc {args:List AV} {r:AV} (ha:args.length.ble Tryz.f40.ntmps = true) (h:run (AFn Tryz.prog) ir_ltc (endQ zks r) (z0h args)):AFn Tryz.prog 40 args r :=
 AFn.of_code (pv:=false) (hint:=fun _=>[]) (c:=Tryz.f40.body.getD .skip) (by kernel_rfl) (by kernel_rfl) Tryz.func40 (by kernel_rfl) (by kernel_rfl) (by kernel_rfl) (of_decide_eq_true (by kernel_rfl)) (Nat.le_of_ble_eq_true ha) (Nat.le_of_ble_eq_true (by kernel_rfl)) (z0g h)
attribute [local go_sem ↓] zqe
attribute [local go_sem] zgk e_nSame_0 z93 e_nSame_1 z92 e_nSame_2 z91
attribute [local go_sem ↓] ir_r21s
attribute [local go_sem] zmv e_r21s_0 zde e_r21s_1 zdd e_r21s_2 e_r21s_3 zdc
attribute [local go_sem ↓] ir_nds1
attribute [local go_sem] zmz e_nds1_0 e_nds1_1 zdo
attribute [local go_sem ↓] ir_nif
attribute [local go_sem] res_nif e_nif_0 e_nif_1 zk3 e_nif_2 e_nif_3 e_nif_4 zk2 e_nif_5 e_nif_6 e_nif_8
attribute [local go_sem ↓] ir_ncf
attribute [local go_sem] res_ncf e_ncf_0 e_ncf_1 zk4
attribute [local go_sem ↓] ir_hix
attribute [local go_sem] zkt e_hix_0 e_hix_1 zdp e_hix_2 e_hix_3 e_hix_4 zeg e_hix_5 e_hix_6 e_hix_8
attribute [local go_sem ↓] ir_hct
attribute [local go_sem] zku e_hct_0 e_hct_1 zdq
attribute [local go_sem ↓] zlh
attribute [local go_sem] zdw zqw zqv zqu z87 zqt z8c zqs zqr z86 zqq
attribute [local go_sem ↓] zli
attribute [local go_sem] zdx zr0 zqz zqy zqx z88
attribute [local go_sem ↓] ir_ltc
attribute [local go_sem] zks e_ltc_0 e_ltc_1 zef
def ndE (a b:Nd):Bool:=(a.slot == b.slot) && ((a.level == b.level) && ((a.high.toList == b.high.toList) && ((a.top == b.top) && ((a.right == b.right) && ((a.seen == b.seen) && (eqL eqS a.pivots b.pivots && (eqL eqN a.kids b.kids && (eqL eqM a.msgs b.msgs && eqPs a.rows b.rows))))))))
def Nd.few (n:Nd):Prop:=n.pivots.length≤1000000000∧n.kids.length≤1000000000∧n.msgs.length≤1000000000∧n.rows.length≤1000000000
set_option maxHeartbeats 4000000 in
theorem nSame_ok (a b:Nd) (ha:a.few) (hb:b.few):AFn Tryz.prog 43 [a.a,b.a] (.bool (ndE a b)):=by
 refine fn_nSame rfl ?_
 obtain ⟨a1,a2,a3,a4⟩:=ha
 obtain ⟨b1,b2,b3,b4⟩:=hb
 have c1:=eqs_ok a.pivots b.pivots a1 b1
 have c2:=eqn_ok a.kids b.kids a2 b2
 have c3:=eqm_ok a.msgs b.msgs a3 b3
 have c4:=mSame_ok a.rows b.rows a4 b4
 unfold ndE
 simp only [Nd.a]
 generalize eqL eqS a.pivots b.pivots = r1 at *
 generalize eqL eqN a.kids b.kids = r2 at *
 generalize eqL eqM a.msgs b.msgs = r3 at *
 generalize eqPs a.rows b.rows = r4 at *
 cases q1:a.slot == b.slot
 ·(repeat (first | simp (maxSteps:=9^7) only [go_sem,Nd.a,Hld.a,q1,Bool.false_and,Bool.true_and] | refine z01 (c1) ?_ | refine z00 (c1) ?_ | refine z01 (c2) ?_ | refine z00 (c2) ?_ | refine z01 (c3) ?_ | refine z00 (c3) ?_ | refine z01 (c4) ?_ | refine z00 (c4) ?_ | refine And.intro (by omega) ?_ | refine And.intro (fun d hd=>by (repeat (rcases hd with rfl | hd; · exact ⟨rfl,rfl⟩)); cases hd) ?_))
 cases q2:a.level == b.level
 ·(repeat (first | simp (maxSteps:=9^7) only [go_sem,Nd.a,Hld.a,q1,q2,Bool.false_and,Bool.true_and] | refine z01 (c1) ?_ | refine z00 (c1) ?_ | refine z01 (c2) ?_ | refine z00 (c2) ?_ | refine z01 (c3) ?_ | refine z00 (c3) ?_ | refine z01 (c4) ?_ | refine z00 (c4) ?_ | refine And.intro (by omega) ?_ | refine And.intro (fun d hd=>by (repeat (rcases hd with rfl | hd; · exact ⟨rfl,rfl⟩)); cases hd) ?_))
 cases q3:a.high.toList == b.high.toList
 ·(repeat (first | simp (maxSteps:=9^7) only [go_sem,Nd.a,Hld.a,q1,q2,q3,Bool.false_and,Bool.true_and] | refine z01 (c1) ?_ | refine z00 (c1) ?_ | refine z01 (c2) ?_ | refine z00 (c2) ?_ | refine z01 (c3) ?_ | refine z00 (c3) ?_ | refine z01 (c4) ?_ | refine z00 (c4) ?_ | refine And.intro (by omega) ?_ | refine And.intro (fun d hd=>by (repeat (rcases hd with rfl | hd; · exact ⟨rfl,rfl⟩)); cases hd) ?_))
 cases q4:a.top == b.top
 ·(repeat (first | simp (maxSteps:=9^7) only [go_sem,Nd.a,Hld.a,q1,q2,q3,q4,Bool.false_and,Bool.true_and] | refine z01 (c1) ?_ | refine z00 (c1) ?_ | refine z01 (c2) ?_ | refine z00 (c2) ?_ | refine z01 (c3) ?_ | refine z00 (c3) ?_ | refine z01 (c4) ?_ | refine z00 (c4) ?_ | refine And.intro (by omega) ?_ | refine And.intro (fun d hd=>by (repeat (rcases hd with rfl | hd; · exact ⟨rfl,rfl⟩)); cases hd) ?_))
 cases q5:a.right == b.right
 ·(repeat (first | simp (maxSteps:=9^7) only [go_sem,Nd.a,Hld.a,q1,q2,q3,q4,q5,Bool.false_and,Bool.true_and] | refine z01 (c1) ?_ | refine z00 (c1) ?_ | refine z01 (c2) ?_ | refine z00 (c2) ?_ | refine z01 (c3) ?_ | refine z00 (c3) ?_ | refine z01 (c4) ?_ | refine z00 (c4) ?_ | refine And.intro (by omega) ?_ | refine And.intro (fun d hd=>by (repeat (rcases hd with rfl | hd; · exact ⟨rfl,rfl⟩)); cases hd) ?_))
 cases q6:a.seen == b.seen
 ·(repeat (first | simp (maxSteps:=9^7) only [go_sem,Nd.a,Hld.a,q1,q2,q3,q4,q5,q6,Bool.false_and,Bool.true_and] | refine z01 (c1) ?_ | refine z00 (c1) ?_ | refine z01 (c2) ?_ | refine z00 (c2) ?_ | refine z01 (c3) ?_ | refine z00 (c3) ?_ | refine z01 (c4) ?_ | refine z00 (c4) ?_ | refine And.intro (by omega) ?_ | refine And.intro (fun d hd=>by (repeat (rcases hd with rfl | hd; · exact ⟨rfl,rfl⟩)); cases hd) ?_))
 cases r1
 ·(repeat (first | simp (maxSteps:=9^7) only [go_sem,Nd.a,Hld.a,q1,q2,q3,q4,q5,q6,Bool.false_and,Bool.true_and] | refine z01 (c1) ?_ | refine z00 (c1) ?_ | refine z01 (c2) ?_ | refine z00 (c2) ?_ | refine z01 (c3) ?_ | refine z00 (c3) ?_ | refine z01 (c4) ?_ | refine z00 (c4) ?_ | refine And.intro (by omega) ?_ | refine And.intro (fun d hd=>by (repeat (rcases hd with rfl | hd; · exact ⟨rfl,rfl⟩)); cases hd) ?_))
 cases r2
 ·(repeat (first | simp (maxSteps:=9^7) only [go_sem,Nd.a,Hld.a,q1,q2,q3,q4,q5,q6,Bool.false_and,Bool.true_and] | refine z01 (c1) ?_ | refine z00 (c1) ?_ | refine z01 (c2) ?_ | refine z00 (c2) ?_ | refine z01 (c3) ?_ | refine z00 (c3) ?_ | refine z01 (c4) ?_ | refine z00 (c4) ?_ | refine And.intro (by omega) ?_ | refine And.intro (fun d hd=>by (repeat (rcases hd with rfl | hd; · exact ⟨rfl,rfl⟩)); cases hd) ?_))
 cases r3
 ·(repeat (first | simp (maxSteps:=9^7) only [go_sem,Nd.a,Hld.a,q1,q2,q3,q4,q5,q6,Bool.false_and,Bool.true_and] | refine z01 (c1) ?_ | refine z00 (c1) ?_ | refine z01 (c2) ?_ | refine z00 (c2) ?_ | refine z01 (c3) ?_ | refine z00 (c3) ?_ | refine z01 (c4) ?_ | refine z00 (c4) ?_ | refine And.intro (by omega) ?_ | refine And.intro (fun d hd=>by (repeat (rcases hd with rfl | hd; · exact ⟨rfl,rfl⟩)); cases hd) ?_))
 cases r4
 ·(repeat (first | simp (maxSteps:=9^7) only [go_sem,Nd.a,Hld.a,q1,q2,q3,q4,q5,q6,Bool.false_and,Bool.true_and] | refine z01 (c1) ?_ | refine z00 (c1) ?_ | refine z01 (c2) ?_ | refine z00 (c2) ?_ | refine z01 (c3) ?_ | refine z00 (c3) ?_ | refine z01 (c4) ?_ | refine z00 (c4) ?_ | refine And.intro (by omega) ?_ | refine And.intro (fun d hd=>by (repeat (rcases hd with rfl | hd; · exact ⟨rfl,rfl⟩)); cases hd) ?_))
 (repeat (first | simp (maxSteps:=9^7) only [go_sem,Nd.a,Hld.a,q1,q2,q3,q4,q5,q6,Bool.false_and,Bool.true_and] | refine z01 (c1) ?_ | refine z00 (c1) ?_ | refine z01 (c2) ?_ | refine z00 (c2) ?_ | refine z01 (c3) ?_ | refine z00 (c3) ?_ | refine z01 (c4) ?_ | refine z00 (c4) ?_ | refine And.intro (by omega) ?_ | refine And.intro (fun d hd=>by (repeat (rcases hd with rfl | hd; · exact ⟨rfl,rfl⟩)); cases hd) ?_))
set_option maxHeartbeats 4000000 in
theorem r21s_ok (a b:Nd) (ha:a.few) (hb:b.few):AFn Tryz.prog 23 [a.a,b.a] (.bool (ndE a b)):=by
 refine fn_r21s rfl ?_
 obtain ⟨a1,a2,a3,a4⟩:=ha
 obtain ⟨b1,b2,b3,b4⟩:=hb
 have c1:=r01s_ok a.pivots b.pivots a1 b1
 have c2:=r11s_ok a.kids b.kids a2 b2
 have c3:=r05s_ok a.msgs b.msgs a3 b3
 have c4:=r9s_ok a.rows b.rows a4 b4
 unfold ndE
 simp only [Nd.a]
 generalize eqL eqS a.pivots b.pivots = r1 at *
 generalize eqL eqN a.kids b.kids = r2 at *
 generalize eqL eqM a.msgs b.msgs = r3 at *
 generalize eqPs a.rows b.rows = r4 at *
 cases q1:a.slot == b.slot
 ·have p1:(a.slot != b.slot) = true:=by rw [bne,q1]; rfl
  (repeat (first | simp (maxSteps:=9^7) only [go_sem,Nd.a,Hld.a,q1,p1,Bool.false_and,Bool.true_and] | refine z01 (c1) ?_ | refine z00 (c1) ?_ | refine z01 (c2) ?_ | refine z00 (c2) ?_ | refine z01 (c3) ?_ | refine z00 (c3) ?_ | refine z01 (c4) ?_ | refine z00 (c4) ?_ | refine And.intro (by omega) ?_ | refine And.intro (fun d hd=>by (repeat (rcases hd with rfl | hd; · exact ⟨rfl,rfl⟩)); cases hd) ?_))
 have p1:(a.slot != b.slot) = false:=by rw [bne,q1]; rfl
 cases q2:a.level == b.level
 ·have p2:(a.level != b.level) = true:=by rw [bne,q2]; rfl
  (repeat (first | simp (maxSteps:=9^7) only [go_sem,Nd.a,Hld.a,q1,q2,p1,p2,Bool.false_and,Bool.true_and] | refine z01 (c1) ?_ | refine z00 (c1) ?_ | refine z01 (c2) ?_ | refine z00 (c2) ?_ | refine z01 (c3) ?_ | refine z00 (c3) ?_ | refine z01 (c4) ?_ | refine z00 (c4) ?_ | refine And.intro (by omega) ?_ | refine And.intro (fun d hd=>by (repeat (rcases hd with rfl | hd; · exact ⟨rfl,rfl⟩)); cases hd) ?_))
 have p2:(a.level != b.level) = false:=by rw [bne,q2]; rfl
 cases q3:a.high.toList == b.high.toList
 ·have p3:(a.high.toList != b.high.toList) = true:=by rw [bne,q3]; rfl
  (repeat (first | simp (maxSteps:=9^7) only [go_sem,Nd.a,Hld.a,q1,q2,q3,p1,p2,p3,Bool.false_and,Bool.true_and] | refine z01 (c1) ?_ | refine z00 (c1) ?_ | refine z01 (c2) ?_ | refine z00 (c2) ?_ | refine z01 (c3) ?_ | refine z00 (c3) ?_ | refine z01 (c4) ?_ | refine z00 (c4) ?_ | refine And.intro (by omega) ?_ | refine And.intro (fun d hd=>by (repeat (rcases hd with rfl | hd; · exact ⟨rfl,rfl⟩)); cases hd) ?_))
 have p3:(a.high.toList != b.high.toList) = false:=by rw [bne,q3]; rfl
 cases q4:a.top == b.top
 ·have p4:(a.top != b.top) = true:=by rw [bne,q4]; rfl
  (repeat (first | simp (maxSteps:=9^7) only [go_sem,Nd.a,Hld.a,q1,q2,q3,q4,p1,p2,p3,p4,Bool.false_and,Bool.true_and] | refine z01 (c1) ?_ | refine z00 (c1) ?_ | refine z01 (c2) ?_ | refine z00 (c2) ?_ | refine z01 (c3) ?_ | refine z00 (c3) ?_ | refine z01 (c4) ?_ | refine z00 (c4) ?_ | refine And.intro (by omega) ?_ | refine And.intro (fun d hd=>by (repeat (rcases hd with rfl | hd; · exact ⟨rfl,rfl⟩)); cases hd) ?_))
 have p4:(a.top != b.top) = false:=by rw [bne,q4]; rfl
 cases q5:a.right == b.right
 ·have p5:(a.right != b.right) = true:=by rw [bne,q5]; rfl
  (repeat (first | simp (maxSteps:=9^7) only [go_sem,Nd.a,Hld.a,q1,q2,q3,q4,q5,p1,p2,p3,p4,p5,Bool.false_and,Bool.true_and] | refine z01 (c1) ?_ | refine z00 (c1) ?_ | refine z01 (c2) ?_ | refine z00 (c2) ?_ | refine z01 (c3) ?_ | refine z00 (c3) ?_ | refine z01 (c4) ?_ | refine z00 (c4) ?_ | refine And.intro (by omega) ?_ | refine And.intro (fun d hd=>by (repeat (rcases hd with rfl | hd; · exact ⟨rfl,rfl⟩)); cases hd) ?_))
 have p5:(a.right != b.right) = false:=by rw [bne,q5]; rfl
 cases q6:a.seen == b.seen
 ·have p6:(a.seen != b.seen) = true:=by rw [bne,q6]; rfl
  (repeat (first | simp (maxSteps:=9^7) only [go_sem,Nd.a,Hld.a,q1,q2,q3,q4,q5,q6,p1,p2,p3,p4,p5,p6,Bool.false_and,Bool.true_and] | refine z01 (c1) ?_ | refine z00 (c1) ?_ | refine z01 (c2) ?_ | refine z00 (c2) ?_ | refine z01 (c3) ?_ | refine z00 (c3) ?_ | refine z01 (c4) ?_ | refine z00 (c4) ?_ | refine And.intro (by omega) ?_ | refine And.intro (fun d hd=>by (repeat (rcases hd with rfl | hd; · exact ⟨rfl,rfl⟩)); cases hd) ?_))
 have p6:(a.seen != b.seen) = false:=by rw [bne,q6]; rfl
 cases r1
 ·(repeat (first | simp (maxSteps:=9^7) only [go_sem,Nd.a,Hld.a,q1,q2,q3,q4,q5,q6,p1,p2,p3,p4,p5,p6,Bool.false_and,Bool.true_and] | refine z01 (c1) ?_ | refine z00 (c1) ?_ | refine z01 (c2) ?_ | refine z00 (c2) ?_ | refine z01 (c3) ?_ | refine z00 (c3) ?_ | refine z01 (c4) ?_ | refine z00 (c4) ?_ | refine And.intro (by omega) ?_ | refine And.intro (fun d hd=>by (repeat (rcases hd with rfl | hd; · exact ⟨rfl,rfl⟩)); cases hd) ?_))
 cases r2
 ·(repeat (first | simp (maxSteps:=9^7) only [go_sem,Nd.a,Hld.a,q1,q2,q3,q4,q5,q6,p1,p2,p3,p4,p5,p6,Bool.false_and,Bool.true_and] | refine z01 (c1) ?_ | refine z00 (c1) ?_ | refine z01 (c2) ?_ | refine z00 (c2) ?_ | refine z01 (c3) ?_ | refine z00 (c3) ?_ | refine z01 (c4) ?_ | refine z00 (c4) ?_ | refine And.intro (by omega) ?_ | refine And.intro (fun d hd=>by (repeat (rcases hd with rfl | hd; · exact ⟨rfl,rfl⟩)); cases hd) ?_))
 cases r3
 ·(repeat (first | simp (maxSteps:=9^7) only [go_sem,Nd.a,Hld.a,q1,q2,q3,q4,q5,q6,p1,p2,p3,p4,p5,p6,Bool.false_and,Bool.true_and] | refine z01 (c1) ?_ | refine z00 (c1) ?_ | refine z01 (c2) ?_ | refine z00 (c2) ?_ | refine z01 (c3) ?_ | refine z00 (c3) ?_ | refine z01 (c4) ?_ | refine z00 (c4) ?_ | refine And.intro (by omega) ?_ | refine And.intro (fun d hd=>by (repeat (rcases hd with rfl | hd; · exact ⟨rfl,rfl⟩)); cases hd) ?_))
 cases r4
 ·(repeat (first | simp (maxSteps:=9^7) only [go_sem,Nd.a,Hld.a,q1,q2,q3,q4,q5,q6,p1,p2,p3,p4,p5,p6,Bool.false_and,Bool.true_and] | refine z01 (c1) ?_ | refine z00 (c1) ?_ | refine z01 (c2) ?_ | refine z00 (c2) ?_ | refine z01 (c3) ?_ | refine z00 (c3) ?_ | refine z01 (c4) ?_ | refine z00 (c4) ?_ | refine And.intro (by omega) ?_ | refine And.intro (fun d hd=>by (repeat (rcases hd with rfl | hd; · exact ⟨rfl,rfl⟩)); cases hd) ?_))
 (repeat (first | simp (maxSteps:=9^7) only [go_sem,Nd.a,Hld.a,q1,q2,q3,q4,q5,q6,p1,p2,p3,p4,p5,p6,Bool.false_and,Bool.true_and] | refine z01 (c1) ?_ | refine z00 (c1) ?_ | refine z01 (c2) ?_ | refine z00 (c2) ?_ | refine z01 (c3) ?_ | refine z00 (c3) ?_ | refine z01 (c4) ?_ | refine z00 (c4) ?_ | refine And.intro (by omega) ?_ | refine And.intro (fun d hd=>by (repeat (rcases hd with rfl | hd; · exact ⟨rfl,rfl⟩)); cases hd) ?_))
theorem zin:∀ a,eqPs a a = true
 | []=>rfl
 | x :: a=>by rw [eqPs,zin a]; unfold eqP; rw [beq_self_eq_true,beq_self_eq_true]; rfl
theorem ndE_refl (n:Nd):ndE n n = true:=by
 unfold ndE
 rw [beq_self_eq_true,beq_self_eq_true,beq_self_eq_true,beq_self_eq_true,beq_self_eq_true,beq_self_eq_true,z8h (fun x=>by unfold eqS; exact beq_self_eq_true _),z8h (fun x=>by unfold eqN; exact beq_self_eq_true _),
  z8h (fun x=>by unfold eqM; rw [beq_self_eq_true,beq_self_eq_true,beq_self_eq_true,beq_self_eq_true,beq_self_eq_true,beq_self_eq_true]; rfl),zin]
 rfl
theorem nds1_ok (x n:Nd) (hx:x.few) (hn:n.few):AFn Tryz.prog 42 [x.a,.rp [.int .i64 n.slot,.int .i64 n.level,.sl (n.pivots.map .str),.sl (n.kids.map (AV.int .i64)),.str n.high,.bool n.top,.int .i64 n.right,.int .i64 n.seen,.sl (n.msgs.map Msg.a),.sl (n.rows.map Par.a)]] (.bool (ndE x n)):=by
 refine fn_nds1 rfl ?_
 have c:=nSame_ok x n hx hn
 simp only [Nd.a] at c ⊢
 (repeat (first | simp (maxSteps:=9^7) only [go_sem,Nd.a,Hld.a] | refine z01 (c) ?_ | refine z00 (c) ?_ | refine And.intro (by omega) ?_ | refine And.intro (fun d hd=>by (repeat (rcases hd with rfl | hd; · exact ⟨rfl,rfl⟩)); cases hd) ?_))
def idxG {α:Type} (p:α->Bool):List α->Nat->Int
 | [],_=>-1
 | x :: l,j=>if p x then j else idxG p l (j + 1)
theorem zeb {α:Type} (p:α->Bool):∀ (l:List α) (j:Nat),decide (0≤idxG p l j) = l.any p
 | [],j=>rfl
 | x :: l,j=>by
  rw [idxG,List.any_cons]
  cases h:p x with
  | true=>rw [if_pos rfl,Bool.true_or]; simp
  | false=>rw [if_neg (by simp),Bool.false_or]; exact zeb p l (j + 1)
def nifI (l:List Nd) (c:AV) (r:Int) (p:Nd->Bool) (k:Nat) (σ:St):Prop :=
 ∃ j:Nat,j≤l.length∧k = l.length - j∧σ.T 0 = .sl (l.map Nd.a)∧σ.T 1 = c∧σ.T 7 = .int .i64 l.length∧σ.T 8 = .int .i64 j∧idxG p (l.drop j) j = r
theorem nif_ok (l:List Nd) (f:FuncId) (fi ca:List AV) (p:Nd->Bool) (hl:l.length≤1000000) (hp:∀ m,m ∈ l->AFn Tryz.prog f (fi ++ [m.a] ++ ca) (.bool (p m))) :
  AFn Tryz.prog 63 [.sl (l.map Nd.a),.clo f fi ca] (.int .i64 (idxG p l 0)):=by
 refine fn_nif rfl ?_
 simp (maxSteps:=9^7) only [go_sem,Nd.a,Hld.a,List.length_map]
 refine z0c (nifI l (.clo f fi ca) (idxG p l 0) p) (k:=l.length) ⟨0,by omega,rfl,rfl,rfl,?_,rfl,rfl⟩ ?_
 ·(simp (maxSteps:=9^7) only [go_sem,Nd.a,Hld.a,List.length_map]) <;> rfl
 rintro k σ ⟨j,hj,rfl,t0,t1,t7,t8,hr⟩
 simp only [zps]
 by_cases hlt:j < l.length
 ·have hlt':(j:Int) < (l.length:Int):=by omega
  obtain ⟨x,hx⟩:=z0o hlt
  have hg:=z0v (f:=Nd.a) hx
  have hpx':=hp x (List.mem_of_getElem? hx)
  simp only [Nd.a] at hg hpx'
  have hw:=z2s (j:=j) (by omega)
  simp (maxSteps:=9^7) only [go_sem,Nd.a,Hld.a,t0,t1,t7,t8,hlt',hg,hlt,List.length_map,Int.toNat_natCast]
  refine ⟨by omega,z01 hpx' ?_⟩
  rw [z0u hx,idxG] at hr
  cases hpx:p x with
  | true =>
   rw [hpx,if_pos rfl] at hr
   simp (maxSteps:=9^7) only [go_sem,Nd.a,Hld.a,t0,t1,t7,t8,hr]
  | false =>
   rw [hpx,if_neg (by simp)] at hr
   simp (maxSteps:=9^7) only [go_sem,Nd.a,Hld.a,t0,t1,t7,t8,hw]
   refine ⟨l.length - (j + 1),by omega,j + 1,by omega,rfl,?_,?_,?_,?_,hr⟩ <;> (simp (maxSteps:=9^7) only [go_sem,Nd.a,Hld.a,t0,t1,t7,t8,hw])
 ·have hlt':¬ (j:Int) < (l.length:Int):=by omega
  have hr':idxG p l 0 = -1:=by rw [← hr,List.drop_eq_nil_of_le (by omega)]; rfl
  simp (maxSteps:=9^7) only [go_sem,Nd.a,Hld.a,t0,t1,t7,t8,hlt',hr',List.length_map]
theorem ncf_ok (l:List Nd) (f:FuncId) (fi ca:List AV) (p:Nd->Bool) (hl:l.length≤1000000) (hp:∀ m,m ∈ l->AFn Tryz.prog f (fi ++ [m.a] ++ ca) (.bool (p m))) :
  AFn Tryz.prog 41 [.sl (l.map Nd.a),.clo f fi ca] (.bool (l.any p)):=by
 refine fn_ncf rfl ?_
 have c:=nif_ok l f fi ca p hl hp
 rw [← zeb p l 0]
 (repeat (first | simp (maxSteps:=9^7) only [go_sem,Nd.a,Hld.a] | refine z01 (c) ?_ | refine z00 (c) ?_ | refine And.intro (by omega) ?_ | refine And.intro (fun d hd=>by (repeat (rcases hd with rfl | hd; · exact ⟨rfl,rfl⟩)); cases hd) ?_))
def hldE (a b:Hld):Bool:=(a.thread == b.thread) && ((a.slot == b.slot) && (a.wr == b.wr))
theorem hldE_comm (a b:Hld):hldE a b = hldE b a:=by
 unfold hldE
 rw [Bool.beq_comm (a:=a.thread),Bool.beq_comm (a:=a.slot),Bool.beq_comm (a:=a.wr)]
end
end Go.Proofs.YtlhblpbfhfhlpaaGreatDoor
