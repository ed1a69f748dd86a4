/-
  Part 11 of a proof: TeB, TeC.
-/
import Derived.Test.YtlhblpbfhfhlpaaGreatLF10
set_option linter.unusedVariables false
set_option linter.unusedSimpArgs false
set_option maxRecDepth 100000
attribute [local go_sem] reduceCtorEq Nat.reduceEqDiff Nat.reduceBEq Nat.reduceAdd Nat.reduceSub Nat.reduceMul Nat.reduceLT Nat.reduceLeDiff Nat.reduceBNe Int.reduceBEq Int.reduceBNe Int.reduceLT Int.reduceLE
attribute [local go_sem ↓] reduceIte
namespace Go.Proofs.YtlhblpbfhfhlpaaGreat
attribute [local go_sem] Spn.a Msg.a Par.a Nd.a
section
open Go.RowKit
attribute [local go_sem ↓] z18 z0h
def zfx:List ROp:=[⟨.box 6 87 (.t 0),some 2,none,[3,4],[]⟩,⟨.box 3 81 (.t 1),some 3,none,[4],[]⟩,⟨.alloc 6 87 (.agg [(.int .i64 0),(.int .i64 0),(.str ⟨#[]⟩),(.str ⟨#[]⟩),(.bool false),(.str ⟨#[]⟩)]),some 4,none,[],[]⟩,⟨.mv (.c (.bool false)),some 5,none,[],[]⟩]
def zxg:Reg:=⟨[],zfx,[2,3,4],[],false⟩
def zjo:List ROp:=[⟨.load 6 true (.t 2),some 7,none,[8,10,6],[]⟩,⟨.callv (.c (.clo 66 [] [])) [(.t 7)],some 8,none,[10,6],[]⟩,⟨.load 3 true (.t 3),some 9,none,[8,10,6],[]⟩,⟨.callv (.c (.clo 59 [] [])) [(.t 8),(.t 9)],some 10,none,[6],[]⟩,⟨.alloc 3 81 (.agg [(.str ⟨#[]⟩),(.str ⟨#[]⟩),(.bool false)]),some 6,none,[8,10],[]⟩]
def zxf:Reg:=⟨zjo,[⟨.store 3 (.t 6) (.t 10),none,none,[],[6]⟩],[8,10,6],[],true⟩
def zfw:List ROp:=[⟨.load 3 true (.t 6),some 11,none,[12],[]⟩,⟨.callv (.c (.clo 96 [] [])) [(.t 11)],some 12,none,[],[]⟩]
def zxe:Reg:=⟨[],zfw,[12],[],false⟩
def zfv:List ROp:=[⟨.bld [(.int .i64 0),(.int .i64 0),(.str ⟨#[]⟩),(.str ⟨#[]⟩),(.bool false),(.str ⟨#[]⟩)] [],some 13,none,[],[]⟩,⟨.store 6 (.t 4) (.t 13),none,none,[],[]⟩,⟨.mv (.c (.bool false)),some 5,none,[],[]⟩]
def zxd:Reg:=⟨[],zfv,[],[],false⟩
def zfu:List ROp:=[⟨.faddr 1 (.t 2),some 14,none,[],[]⟩,⟨.load 1 false (.t 14),some 15,none,[],[]⟩,⟨.bin .eql (.t 15) (.c (.int .i64 4)),some 16,none,[],[]⟩]
def zxc:Reg:=⟨[],zfu,[],[],false⟩
def zft:List ROp:=[⟨.faddr 0 (.t 6),some 17,none,[],[]⟩,⟨.load 1 false (.t 17),some 18,none,[],[]⟩,⟨.faddr 2 (.t 2),some 19,none,[],[]⟩,⟨.store 1 (.t 19) (.t 18),none,none,[],[]⟩]
def zxb:Reg:=⟨[],zft,[],[],false⟩
def zfs:List ROp:=[⟨.faddr 1 (.t 6),some 20,none,[],[]⟩,⟨.load 1 false (.t 20),some 21,none,[],[]⟩,⟨.faddr 3 (.t 2),some 22,none,[],[]⟩,⟨.store 1 (.t 22) (.t 21),none,none,[],[]⟩]
def zxa:Reg:=⟨[],zfs,[],[],false⟩
def zfr:List ROp:=[⟨.faddr 2 (.t 6),some 23,none,[],[]⟩,⟨.load 1 false (.t 23),some 24,none,[],[]⟩,⟨.faddr 4 (.t 2),some 25,none,[],[]⟩,⟨.store 1 (.t 25) (.t 24),none,none,[],[]⟩]
def zx9:Reg:=⟨[],zfr,[],[],false⟩
def zfq:List ROp:=[⟨.load 6 true (.t 2),some 26,none,[],[]⟩,⟨.store 6 (.t 4) (.t 26),none,none,[],[]⟩,⟨.mv (.c (.bool true)),some 5,none,[],[]⟩]
def zx8:Reg:=⟨[],zfq,[],[],false⟩
def y7f:IR:=(.seq (.reg zxg)
 (.seq (.reg zxf)
 (.seq (.seq (.reg zxe)
 (.cond (.t 12) (.seq (.reg zxd)
 .ret)
 .skip))
 (.seq (.seq (.reg zxc)
 (.cond (.t 16) (.seq (.reg zxb)
 (.seq (.reg zxa)
 (.reg zx9)))
 .skip))
 (.seq (.reg zx8)
 .ret)))))
def zts:List RDesc:=[(.cell 4 6 true),(.tmp 5)]
theorem e_clip5_0:EqR zxg zfx [2,3,4]:=fun _ _ _=>rfl
theorem e_clip5_1 (C:FuncId->List AV->AV->Prop) (σ:St) (K:St->Prop):z0l C zxf σ K = z08 C [] [⟨.store 3 (.t 6) (.t 10),none,none,[],[6]⟩] zjo (σ.kills [8,10,6]) K:=rfl
theorem e_clip5_2:EqR zxe zfw [12]:=fun _ _ _=>rfl
theorem e_clip5_3:EqR zxd zfv []:=fun _ _ _=>rfl
theorem e_clip5_4:EqR zxc zfu []:=fun _ _ _=>rfl
theorem e_clip5_5:EqR zxb zft []:=fun _ _ _=>rfl
theorem e_clip5_6:EqR zxa zfs []:=fun _ _ _=>rfl
theorem e_clip5_7:EqR zx9 zfr []:=fun _ _ _=>rfl
theorem e_clip5_8:EqR zx8 zfq []:=fun _ _ _=>rfl
theorem fn_clip5 {args:List AV} {r:AV} (ha:args.length.ble Tryz.f91.ntmps = true) (h:run (AFn Tryz.prog) y7f (endQ zts r) (z0b args)):AFn Tryz.prog 91 args r :=
 AFn.of_code (pv:=false) (hint:=fun _=>[]) (c:=Tryz.f91.body.getD .skip) (by kernel_rfl) (by kernel_rfl) Tryz.func91 (by kernel_rfl) (by kernel_rfl) (by kernel_rfl) (of_decide_eq_true (by kernel_rfl)) (Nat.le_of_ble_eq_true ha) (Nat.le_of_ble_eq_true (by kernel_rfl)) (z09 h)
def zp8:Reg:=⟨[],[⟨.box 3 81 (.t 1),some 3,none,[4],[]⟩,⟨.mknil 6 87,some 4,none,[],[]⟩],[3,4],[],false⟩
def zp7:Reg:=⟨[],[⟨.mknil 6 87,some 5,none,[],[]⟩],[5],[],false⟩
def zp6:Reg:=⟨[],[⟨.mv (.c (.int .i64 0)),some 6,none,[],[]⟩],[],[],false⟩
def zb1:List ROp:=[⟨.mv (.t 6),some 9,none,[],[]⟩,⟨.mv (.t 0),some 10,none,[],[]⟩,⟨.len false (.t 10),some 11,none,[],[]⟩,⟨.bin .lss (.t 9) (.t 11),some 12,none,[],[]⟩]
def zp5:Reg:=⟨[],zb1,[],[],false⟩
def zc5:List ROp:=[⟨.mv (.t 0),some 16,none,[21,7],[]⟩,⟨.mv (.t 6),some 17,none,[21,7],[]⟩,⟨.iaddr 6 (.t 16) (.t 17),some 18,none,[21,7],[]⟩,⟨.load 6 true (.t 18),some 19,none,[21,7],[]⟩,⟨.load 3 true (.t 3),some 20,none,[21,7],[]⟩,⟨.callv (.c (.clo 91 [] [])) [(.t 19),(.t 20)],some 21,none,[7],[]⟩,⟨.mv (.t 21),some 15,none,[7],[]⟩,⟨.ext 0 (.t 15),some 22,none,[7],[]⟩,⟨.ext 1 (.t 15),some 23,none,[7,7],[]⟩,⟨.alloc 6 87 (.agg [(.int .i64 0),(.int .i64 0),(.str ⟨#[]⟩),(.str ⟨#[]⟩),(.bool false),(.str ⟨#[]⟩)]),some 7,none,[21],[]⟩,⟨.store 6 (.t 7) (.t 22),none,none,[],[7]⟩]
def zp4:Reg:=⟨zc5,[⟨.mv (.t 23),some 8,none,[],[]⟩],[21,7],[],true⟩
def zp3:Reg:=⟨[],[⟨.mv (.t 8),some 24,none,[],[]⟩],[],[],false⟩
def zb0:List ROp:=[⟨.mv (.t 5),some 25,none,[27],[]⟩,⟨.load 6 true (.t 7),some 26,none,[27],[]⟩,⟨.bsl 6 87 [(.t 26)],some 27,none,[],[]⟩,⟨.append 6 87 72 (.t 25) (.t 27),some 28,none,[],[]⟩,⟨.mv (.t 28),some 5,none,[],[]⟩]
def zp2:Reg:=⟨[],zb0,[27],[],false⟩
def zaz:List ROp:=[⟨.mv (.t 6),some 13,none,[],[]⟩,⟨.bin .add (.t 13) (.c (.int .i64 1)),some 14,none,[],[]⟩,⟨.mv (.t 14),some 6,none,[],[]⟩]
def zp1:Reg:=⟨[],zaz,[],[],false⟩
def zil:IR:=(.seq (.seq (.reg zp5)
 (.cond (.t 12) .skip
 (.exit 0)))
 (.seq (.block 1 (.seq (.reg zp4)
 (.seq (.reg zp3)
 (.cond (.t 24) (.reg zp2)
 .skip))))
 (.reg zp1)))
def zp0:Reg:=⟨[],[⟨.mv (.t 5),some 29,none,[],[]⟩,⟨.mv (.t 29),some 4,none,[],[]⟩],[],[],false⟩
def zyf:IR:=(.seq (.reg zp8)
 (.seq (.reg zp7)
 (.seq (.seq (.reg zp6)
 (.block 0 (.loop zil)))
 (.seq (.reg zp0)
 .ret))))
def zld:List RDesc:=[(.tmp 4)]
theorem e_clip18_0:EqR zp8 [⟨.box 3 81 (.t 1),some 3,none,[4],[]⟩,⟨.mknil 6 87,some 4,none,[],[]⟩] [3,4]:=fun _ _ _=>rfl
theorem e_clip18_1:EqR zp7 [⟨.mknil 6 87,some 5,none,[],[]⟩] [5]:=fun _ _ _=>rfl
theorem e_clip18_2:EqR zp6 [⟨.mv (.c (.int .i64 0)),some 6,none,[],[]⟩] []:=fun _ _ _=>rfl
theorem e_clip18_3:EqR zp5 zb1 []:=fun _ _ _=>rfl
theorem e_clip18_4 (C:FuncId->List AV->AV->Prop) (σ:St) (K:St->Prop):z0l C zp4 σ K = z08 C [] [⟨.mv (.t 23),some 8,none,[],[]⟩] zc5 (σ.kills [21,7]) K:=rfl
theorem e_clip18_5:EqR zp3 [⟨.mv (.t 8),some 24,none,[],[]⟩] []:=fun _ _ _=>rfl
theorem e_clip18_6:EqR zp2 zb0 [27]:=fun _ _ _=>rfl
theorem e_clip18_7:EqR zp1 zaz []:=fun _ _ _=>rfl
theorem e_clip18_9:EqR zp0 [⟨.mv (.t 5),some 29,none,[],[]⟩,⟨.mv (.t 29),some 4,none,[],[]⟩] []:=fun _ _ _=>rfl
theorem fn_clip18 {args:List AV} {r:AV} (ha:args.length.ble Tryz.f62.ntmps = true) (h:run (AFn Tryz.prog) zyf (endQ zld r) (z0b args)):AFn Tryz.prog 62 args r :=
 AFn.of_code (pv:=false) (hint:=fun _=>[]) (c:=Tryz.f62.body.getD .skip) (by kernel_rfl) (by kernel_rfl) Tryz.func62 (by kernel_rfl) (by kernel_rfl) (by kernel_rfl) (of_decide_eq_true (by kernel_rfl)) (Nat.le_of_ble_eq_true ha) (Nat.le_of_ble_eq_true (by kernel_rfl)) (z09 h)
def zwp:Reg:=⟨[],[⟨.mknil 6 87,some 2,none,[],[]⟩],[2],[],false⟩
def zfj:List ROp:=[⟨.mv (.t 0),some 7,none,[9],[]⟩,⟨.len false (.t 7),some 8,none,[9],[]⟩,⟨.call 2 [(.c (.int .i64 8)),(.c (.int .i64 1)),(.c (.int .i64 3)),(.c (.int .i64 0)),(.t 8)],some 9,none,[],[]⟩,⟨.mv (.t 9),some 3,none,[],[]⟩]
def zwo:Reg:=⟨[],zfj,[9],[],false⟩
def zwn:Reg:=⟨[],[⟨.mknil 6 87,some 4,none,[],[]⟩],[4],[],false⟩
def zwm:Reg:=⟨[],[⟨.mv (.c (.int .i64 (-1))),some 5,none,[],[]⟩],[],[],false⟩
def zwl:Reg:=⟨[],[⟨.mv (.c (.int .i64 0)),some 6,none,[],[]⟩],[],[],false⟩
def zfi:List ROp:=[⟨.mv (.t 6),some 10,none,[],[]⟩,⟨.mv (.t 0),some 11,none,[],[]⟩,⟨.len false (.t 11),some 12,none,[],[]⟩,⟨.bin .lss (.t 10) (.t 12),some 13,none,[],[]⟩]
def zwk:Reg:=⟨[],zfi,[],[],false⟩
def zfh:List ROp:=[⟨.bin .lss (.t 40) (.t 51),some 52,(some (29,false)),[],[]⟩,⟨.pick (.t 29) (.c (.bool true)) (.t 52),some 53,(some (26,true)),[],[]⟩,⟨.pick (.t 26) (.t 53) (.c (.bool false)),some 54,none,[],[]⟩]
def zjn:List ROp:=[⟨.mv (.t 3),some 16,none,[],[]⟩,⟨.mv (.t 6),some 17,none,[],[]⟩,⟨.iaddr 1 (.t 16) (.t 17),some 18,none,[],[]⟩,⟨.load 1 false (.t 18),some 19,none,[],[]⟩,⟨.mv (.t 0),some 20,none,[],[]⟩,⟨.mv (.t 6),some 21,none,[],[]⟩,⟨.iaddr 1 (.t 20) (.t 21),some 22,none,[],[]⟩,⟨.load 1 false (.t 22),some 23,none,[],[]⟩,⟨.len false (.t 23),some 24,none,[],[]⟩,⟨.bin .lss (.t 19) (.t 24),some 25,none,[],[]⟩,⟨.mv (.t 25),some 26,none,[],[]⟩,⟨.mv (.t 5),some 27,(some (26,true)),[],[]⟩,⟨.bin .lss (.t 27) (.c (.int .i64 0)),some 28,(some (26,true)),[],[]⟩,⟨.mv (.t 28),some 29,(some (26,true)),[],[]⟩,⟨.mv (.t 0),some 30,(some (29,false)),[],[]⟩,⟨.mv (.t 6),some 31,(some (29,false)),[],[]⟩,⟨.iaddr 1 (.t 30) (.t 31),some 32,(some (29,false)),[],[]⟩,⟨.load 1 false (.t 32),some 33,(some (29,false)),[],[]⟩,⟨.mv (.t 3),some 34,(some (29,false)),[],[]⟩,⟨.mv (.t 6),some 35,(some (29,false)),[],[]⟩,⟨.iaddr 1 (.t 34) (.t 35),some 36,(some (29,false)),[],[]⟩,⟨.load 1 false (.t 36),some 37,(some (29,false)),[],[]⟩,⟨.iaddr 6 (.t 33) (.t 37),some 38,(some (29,false)),[],[]⟩,⟨.faddr 0 (.t 38),some 39,(some (29,false)),[],[]⟩,⟨.load 1 false (.t 39),some 40,(some (29,false)),[],[]⟩,⟨.mv (.t 0),some 41,(some (29,false)),[],[]⟩,⟨.mv (.t 5),some 42,(some (29,false)),[],[]⟩,⟨.iaddr 1 (.t 41) (.t 42),some 43,(some (29,false)),[],[]⟩,⟨.load 1 false (.t 43),some 44,(some (29,false)),[],[]⟩,⟨.mv (.t 3),some 45,(some (29,false)),[],[]⟩,⟨.mv (.t 5),some 46,(some (29,false)),[],[]⟩,⟨.iaddr 1 (.t 45) (.t 46),some 47,(some (29,false)),[],[]⟩,⟨.load 1 false (.t 47),some 48,(some (29,false)),[],[]⟩,⟨.iaddr 6 (.t 44) (.t 48),some 49,(some (29,false)),[],[]⟩,⟨.faddr 0 (.t 49),some 50,(some (29,false)),[],[]⟩,⟨.load 1 false (.t 50),some 51,(some (29,false)),[],[]⟩]
def zwj:Reg:=⟨zjn,zfh,[],[],true⟩
def zwi:Reg:=⟨[],[⟨.mv (.t 6),some 55,none,[],[]⟩,⟨.mv (.t 55),some 5,none,[],[]⟩],[],[],false⟩
def zfg:List ROp:=[⟨.mv (.t 6),some 14,none,[],[]⟩,⟨.bin .add (.t 14) (.c (.int .i64 1)),some 15,none,[],[]⟩,⟨.mv (.t 15),some 6,none,[],[]⟩]
def zwh:Reg:=⟨[],zfg,[],[],false⟩
def zbg:IR:=(.seq (.seq (.reg zwk)
 (.cond (.t 13) .skip
 (.exit 2)))
 (.seq (.block 3 (.seq (.reg zwj)
 (.cond (.t 54) (.reg zwi)
 .skip)))
 (.reg zwh)))
def znv:Reg:=⟨[],[⟨.mv (.t 5),some 56,none,[],[]⟩,⟨.bin .lss (.t 56) (.c (.int .i64 0)),some 57,none,[],[]⟩],[],[],false⟩
def znu:Reg:=⟨[],[⟨.mv (.t 4),some 58,none,[],[]⟩,⟨.mv (.t 58),some 2,none,[],[]⟩],[],[],false⟩
def zc2:List ROp:=[⟨.mv (.t 4),some 59,none,[70],[]⟩,⟨.mv (.t 0),some 60,none,[70],[]⟩,⟨.mv (.t 5),some 61,none,[70],[]⟩,⟨.iaddr 1 (.t 60) (.t 61),some 62,none,[70],[]⟩,⟨.load 1 false (.t 62),some 63,none,[70],[]⟩,⟨.mv (.t 3),some 64,none,[70],[]⟩,⟨.mv (.t 5),some 65,none,[70],[]⟩,⟨.iaddr 1 (.t 64) (.t 65),some 66,none,[70],[]⟩,⟨.load 1 false (.t 66),some 67,none,[70],[]⟩,⟨.iaddr 6 (.t 63) (.t 67),some 68,none,[70],[]⟩,⟨.load 6 true (.t 68),some 69,none,[70],[]⟩,⟨.bsl 6 87 [(.t 69)],some 70,none,[],[]⟩]
def znt:Reg:=⟨zc2,[⟨.append 6 87 72 (.t 59) (.t 70),some 71,none,[],[]⟩,⟨.mv (.t 71),some 4,none,[],[]⟩],[70],[],true⟩
def zaj:List ROp:=[⟨.mv (.t 3),some 72,none,[],[]⟩,⟨.mv (.t 5),some 73,none,[],[]⟩,⟨.iaddr 1 (.t 72) (.t 73),some 74,none,[],[]⟩,⟨.load 1 false (.t 74),some 75,none,[],[]⟩,⟨.bin .add (.t 75) (.c (.int .i64 1)),some 76,none,[],[]⟩,⟨.iaddr 1 (.t 72) (.t 73),some 77,none,[],[]⟩,⟨.store 1 (.t 77) (.t 76),none,none,[],[]⟩]
def zns:Reg:=⟨[],zaj,[],[],false⟩
def zhx:IR:=(.block 1 (.seq (.reg zwm)
 (.seq (.seq (.reg zwl)
 (.block 2 (.loop zbg)))
 (.seq (.seq (.reg znv)
 (.cond (.t 57) (.seq (.reg znu)
 .ret)
 .skip))
 (.seq (.reg znt)
 (.reg zns))))))
def y7c:IR:=(.seq (.reg zwp)
 (.seq (.reg zwo)
 (.seq (.reg zwn)
 (.block 0 (.loop zhx)))))
def ztp:List RDesc:=[(.tmp 2)]
theorem e_lists_0:EqR zwp [⟨.mknil 6 87,some 2,none,[],[]⟩] [2]:=fun _ _ _=>rfl
theorem e_lists_1:EqR zwo zfj [9]:=fun _ _ _=>rfl
theorem e_lists_2:EqR zwn [⟨.mknil 6 87,some 4,none,[],[]⟩] [4]:=fun _ _ _=>rfl
theorem e_lists_3:EqR zwm [⟨.mv (.c (.int .i64 (-1))),some 5,none,[],[]⟩] []:=fun _ _ _=>rfl
theorem e_lists_4:EqR zwl [⟨.mv (.c (.int .i64 0)),some 6,none,[],[]⟩] []:=fun _ _ _=>rfl
theorem e_lists_5:EqR zwk zfi []:=fun _ _ _=>rfl
theorem e_lists_6 (C:FuncId->List AV->AV->Prop) (σ:St) (K:St->Prop):z0l C zwj σ K = z08 C [] zfh zjn (σ.kills []) K:=rfl
theorem e_lists_7:EqR zwi [⟨.mv (.t 6),some 55,none,[],[]⟩,⟨.mv (.t 55),some 5,none,[],[]⟩] []:=fun _ _ _=>rfl
theorem e_lists_8:EqR zwh zfg []:=fun _ _ _=>rfl
theorem e_lists_10:EqR znv [⟨.mv (.t 5),some 56,none,[],[]⟩,⟨.bin .lss (.t 56) (.c (.int .i64 0)),some 57,none,[],[]⟩] []:=fun _ _ _=>rfl
theorem e_lists_11:EqR znu [⟨.mv (.t 4),some 58,none,[],[]⟩,⟨.mv (.t 58),some 2,none,[],[]⟩] []:=fun _ _ _=>rfl
theorem e_lists_12 (C:FuncId->List AV->AV->Prop) (σ:St) (K:St->Prop):z0l C znt σ K = z08 C [] [⟨.append 6 87 72 (.t 59) (.t 70),some 71,none,[],[]⟩,⟨.mv (.t 71),some 4,none,[],[]⟩] zc2 (σ.kills [70]) K:=rfl
theorem e_lists_13:EqR zns zaj []:=fun _ _ _=>rfl
theorem fn_lists {args:List AV} {r:AV} (ha:args.length.ble Tryz.f61.ntmps = true) (h:run (AFn Tryz.prog) y7c (endQ ztp r) (z0b args)):AFn Tryz.prog 61 args r :=
 AFn.of_code (pv:=false) (hint:=fun _=>[]) (c:=Tryz.f61.body.getD .skip) (by kernel_rfl) (by kernel_rfl) Tryz.func61 (by kernel_rfl) (by kernel_rfl) (by kernel_rfl) (of_decide_eq_true (by kernel_rfl)) (Nat.le_of_ble_eq_true ha) (Nat.le_of_ble_eq_true (by kernel_rfl)) (z09 h)
attribute [local go_sem ↓] y7f
attribute [local go_sem] zts e_clip5_0 zfx e_clip5_1 zjo e_clip5_2 zfw e_clip5_3 zfv e_clip5_4 zfu e_clip5_5 zft e_clip5_6 zfs e_clip5_7 zfr e_clip5_8 zfq
attribute [local go_sem ↓] zyf
attribute [local go_sem] zld e_clip18_0 e_clip18_1 e_clip18_2 e_clip18_3 zb1 e_clip18_4 zc5 e_clip18_5 e_clip18_6 zb0 e_clip18_7 zaz e_clip18_9
attribute [local go_sem ↓] y7c
attribute [local go_sem] ztp e_lists_0 e_lists_1 zfj e_lists_2 e_lists_3 e_lists_4 e_lists_5 zfi e_lists_6 zfh zjn e_lists_7 e_lists_8 zfg e_lists_10 e_lists_11 e_lists_12 zc2 e_lists_13 zaj
def zke (m:Msg) (s:Spn):Msg × Bool :=
 if (m.span.meet s).empty then (Msg.zero,false) else (if m.kind = 4 then ⟨m.stamp,m.kind,(m.span.meet s).lo,(m.span.meet s).hi,(m.span.meet s).op,m.val⟩ else m,true)
def Spn.le (s:Spn) (n:Nat):Prop:=s.lo.size≤n∧s.hi.size≤n
theorem maxS_le {a b:ByteArray} {n:Nat} (ha:a.size≤n) (hb:b.size≤n):(maxS a b).size≤n:=by unfold maxS; split <;> assumption
theorem minS_le {a b:ByteArray} {n:Nat} (ha:a.size≤n) (hb:b.size≤n):(minS a b).size≤n:=by unfold minS; split <;> assumption
theorem norm_le {s:Spn} {n:Nat} (h:s.le n):s.norm.le n:=by
 unfold Spn.norm
 split
 ·exact ⟨Nat.zero_le _,Nat.zero_le _⟩
 ·split
  ·exact ⟨h.1,Nat.zero_le _⟩
  ·exact h
theorem zru {a b:Spn} {n:Nat} (ha:a.le n) (hb:b.le n):(a.meet b).le n:=by
 unfold Spn.meet
 refine norm_le ⟨maxS_le ha.1 hb.1,?_⟩
 show (if a.op then b.hi else if b.op then a.hi else minS a.hi b.hi).size≤n
 split
 ·exact hb.2
 ·split
  ·exact ha.2
  ·exact minS_le ha.2 hb.2
theorem zj7 {s:Spn} {n:Nat} (h:s.le n) (hn:n≤9223372036854775807):SOk s:=⟨Nat.le_trans h.1 hn,Nat.le_trans h.2 hn⟩
def Msg.le (m:Msg) (n:Nat):Prop:=m.key.size≤n∧m.hi.size≤n∧m.val.size≤n
theorem zbo {m:Msg} {n:Nat} (h:m.le n):m.span.le (n + 1):=by
 unfold Msg.span
 split
 ·exact ⟨Nat.le_succ_of_le h.1,Nat.le_succ_of_le h.2.1⟩
 ·refine ⟨Nat.le_succ_of_le h.1,?_⟩
  show (m.key ++ (⟨#[0]⟩:ByteArray)).size≤_
  rw [ByteArray.size_append]
  exact Nat.add_le_add_right h.1 1
theorem clip5_ok (m:Msg) (s:Spn) (n:Nat) (hn:n≤1000000000) (hm:m.le n) (hs:s.le n):AFn Tryz.prog 91 [m.a,s.a] (.tup [(zke m s).1.a,.bool (zke m s).2]):=by
 refine fn_clip5 rfl ?_
 have c1:=zgd m (by have:=hm.1; omega)
 have l1:=zbo hm
 have l2:s.le (n + 1):=⟨Nat.le_succ_of_le hs.1,Nat.le_succ_of_le hs.2⟩
 have c2:=y10 m.span s (zj7 l1 (by omega)) (zj7 l2 (by omega))
 have c3:=z42 (m.span.meet s) (zj7 (zru l1 l2) (by omega))
 unfold zke
 generalize m.span.meet s = x at *
 generalize m.span = sp at *
 generalize hb:x.empty = b at *
 obtain ⟨lo,hi,op⟩:=x
 obtain ⟨stamp,kind,key,mhi,mop,val⟩:=m
 cases b
 ·by_cases h4:kind = 4
  ·have h4':(kind == 4) = true:=by simp [h4]
   subst h4
   simp only [Bool.false_eq_true,if_false,if_true]
   (repeat (first | simp (maxSteps:=9^7) only [go_sem,h4'] | refine z01 (c1) ?_ | refine z00 (c1) ?_ | refine z01 (c2) ?_ | refine z00 (c2) ?_ | refine z01 (c3) ?_ | refine z00 (c3) ?_ | refine And.intro (by omega) ?_ | refine And.intro (fun d hd=>by (repeat (rcases hd with rfl | hd; · exact ⟨rfl,rfl⟩)); cases hd) ?_))
  ·have h4':(kind == 4) = false:=by simp [h4]
   simp only [Bool.false_eq_true,if_false,if_neg h4]
   (repeat (first | simp (maxSteps:=9^7) only [go_sem,h4'] | refine z01 (c1) ?_ | refine z00 (c1) ?_ | refine z01 (c2) ?_ | refine z00 (c2) ?_ | refine z01 (c3) ?_ | refine z00 (c3) ?_ | refine And.intro (by omega) ?_ | refine And.intro (fun d hd=>by (repeat (rcases hd with rfl | hd; · exact ⟨rfl,rfl⟩)); cases hd) ?_))
 ·simp only [if_true]
  (repeat (first | simp (maxSteps:=9^7) only [go_sem] | refine z01 (c1) ?_ | refine z00 (c1) ?_ | refine z01 (c2) ?_ | refine z00 (c2) ?_ | refine z01 (c3) ?_ | refine z00 (c3) ?_ | refine And.intro (by omega) ?_ | refine And.intro (fun d hd=>by (repeat (rcases hd with rfl | hd; · exact ⟨rfl,rfl⟩)); cases hd) ?_))
  all_goals first | rfl | exact ⟨rfl,rfl,rfl,rfl,rfl,rfl⟩
def z6p (l:List Msg) (s:Spn):List Msg:=l.filterMap fun m=>if (zke m s).2 then some (zke m s).1 else none
def clipInv (l:List Msg) (s:Spn) (k:Nat) (σ:St):Prop :=
 ∃ (j:Nat) (out:List Msg),j≤l.length∧k = l.length - j∧out.length≤j∧σ.T 0 = .sl (l.map Msg.a)∧σ.T 3 = .ptr 3 0 0∧σ.H 3 = some ⟨3,81,[s.a],0⟩∧σ.T 5 = .rs 5 0 out.length∧σ.H 5 = some ⟨6,87,out.map Msg.a,0⟩∧σ.T 6 = .int .i64 j ∧
  out ++ z6p (l.drop j) s = z6p l s
theorem clipL_cons (m:Msg) (l:List Msg) (s:Spn):z6p (m :: l) s = (if (zke m s).2 then [(zke m s).1] else []) ++ z6p l s:=by
 unfold z6p
 rw [List.filterMap_cons]
 cases (zke m s).2 <;> rfl
theorem z9a:∀ (l:List Msg) (s:Spn),(z6p l s).length≤l.length:=fun l s=>List.length_filterMap_le _ l
set_option maxHeartbeats 1000000 in
theorem zz6 (l:List Msg) (s:Spn) (n:Nat) (hn:n≤1000000000) (hl:l.length≤1000000) (hm:∀ m,m ∈ l->m.le n) (hs:s.le n):AFn Tryz.prog 62 [.sl (l.map Msg.a),s.a] (.own 6 87 ((z6p l s).map Msg.a)):=by
 refine fn_clip18 rfl ?_
 obtain ⟨lo,hi,op⟩:=s
 simp (maxSteps:=9^7) only [go_sem]
 refine z06 (clipInv l ⟨lo,hi,op⟩) (k:=l.length) ⟨0,[],by omega,rfl,by simp,rfl,?_,?_,?_,?_,rfl,rfl⟩ ?_
 iterate 4 focus ((simp (maxSteps:=9^7) only [go_sem]) <;> rfl)
 rintro k σ ⟨j,out,hj,rfl,ho,t0,t3,h3,t5,h5,t6,hr⟩
 simp only [zil]
 by_cases hlt:j < l.length
 ·have hlt':(j:Int) < (l.length:Int):=by omega
  obtain ⟨x,hx⟩:=z0f hlt
  have hgj:=z0k (f:=Msg.a) hx
  have hw:=z1a (j:=j) (by omega)
  have cc:=clip5_ok x ⟨lo,hi,op⟩ n hn (hm x (List.mem_of_getElem? hx)) hs
  rw [z0d hx,clipL_cons] at hr
  have ht:List.take out.length (out.map Msg.a) = out.map Msg.a:=List.take_of_length_le (by rw [List.length_map]; exact Nat.le_refl _)
  obtain ⟨y,b,hyb⟩:∃ y b,zke x ⟨lo,hi,op⟩ = (y,b):=⟨_,_,rfl⟩
  rw [hyb] at cc hr
  simp only at cc hr
  simp only [Msg.a,Spn.a] at hgj h3
  cases b
  ·simp only [Bool.false_eq_true,if_false,List.nil_append] at hr
   (repeat (first | simp (maxSteps:=9^7) only [go_sem,t0,t3,h3,t5,h5,t6,hlt',hgj,List.length_map,Int.toNat_natCast,hw] | refine z01 (cc) ?_ | refine z00 (cc) ?_ | refine And.intro (by omega) ?_ | refine And.intro (fun d hd=>by (repeat (rcases hd with rfl | hd; · exact ⟨rfl,rfl⟩)); cases hd) ?_))
   refine ⟨l.length - (j + 1),by omega,j + 1,out,by omega,rfl,by omega,?_,?_,?_,?_,?_,?_,hr⟩
   iterate 6 focus ((simp (maxSteps:=9^7) only [go_sem,t0,t3,h3,t5,h5,hw]) <;> rfl)
  ·simp only [if_true] at hr
   (repeat (first | simp (maxSteps:=9^7) only [go_sem,t0,t3,h3,t5,h5,t6,hlt',hgj,List.length_map,Int.toNat_natCast,hw,ht] | refine z01 (cc) ?_ | refine z00 (cc) ?_ | refine And.intro (by omega) ?_ | refine And.intro (fun d hd=>by (repeat (rcases hd with rfl | hd; · exact ⟨rfl,rfl⟩)); cases hd) ?_ | refine And.intro (And.intro (by omega) (fun d hd=>by (repeat (rcases hd with rfl | hd; · exact ⟨rfl,rfl⟩)); cases hd)) ?_))
   refine ⟨l.length - (j + 1),by omega,j + 1,out ++ [y],by omega,rfl,by simp; omega,?_,?_,?_,?_,?_,?_,by rw [List.append_assoc]; exact hr⟩
   iterate 6 focus ((simp (maxSteps:=9^7) only [go_sem,t0,t3,h3,List.length_append,List.map_append,ht,hw]) <;> rfl)
 ·have hlt':¬ (j:Int) < (l.length:Int):=by omega
  rw [List.drop_eq_nil_of_le (by omega)] at hr
  have hr':out = z6p l ⟨lo,hi,op⟩:=by rw [← hr]; exact (List.append_nil _).symm
  rw [← hr']
  simp (maxSteps:=9^7) only [go_sem,t0,t3,h3,t5,h5,t6,hlt',List.length_map]
def z1h:List Msg->List Msg->List Msg
 | [],l=>l
 | l,[]=>l
 | x :: l,y :: m=>if y.stamp < x.stamp then y :: z1h (x :: l) m else x :: z1h l (y :: m)
termination_by a b=>a.length + b.length
theorem z4k (l:List Msg):z1h [] l = l:=by rw [z1h]
theorem z52 (l:List Msg):z1h l [] = l:=by
 cases l with
 | nil=>rw [z1h]
 | cons x l=>rw [z1h]; simp
theorem z8a (x y:Msg) (l m:List Msg):z1h (x :: l) (y :: m) = if y.stamp < x.stamp then y :: z1h (x :: l) m else x :: z1h l (y :: m):=by rw [z1h]
theorem zbq:∀ (n:Nat) (a b:List Msg),a.length + b.length≤n->(z1h a b).length = a.length + b.length
 | _,[],b,_=>by rw [z4k]; simp
 | _,x :: a,[],_=>by rw [z52]; simp
 | 0,x :: a,y :: b,h=>by simp at h
 | n + 1,x :: a,y :: b,h=>by
  rw [z8a]
  simp only [List.length_cons] at h
  split
  ·rw [List.length_cons,zbq n (x :: a) b (by simp only [List.length_cons]; omega)]; simp only [List.length_cons]; omega
  ·rw [List.length_cons,zbq n a (y :: b) (by simp only [List.length_cons]; omega)]; simp only [List.length_cons]; omega
theorem zbp:∀ (n:Nat) (a b:List Msg),a.length + b.length≤n->∀ m,m ∈ z1h a b->m ∈ a∨m ∈ b
 | _,[],b,_,m,h=>by rw [z4k] at h; exact .inr h
 | _,x :: a,[],_,m,h=>by rw [z52] at h; exact .inl h
 | 0,x :: a,y :: b,h,_,_=>by simp at h
 | n + 1,x :: a,y :: b,h,m,hm=>by
  rw [z8a] at hm
  simp only [List.length_cons] at h
  split at hm
  ·rcases List.mem_cons.1 hm with rfl | hm
   ·exact .inr (List.mem_cons_self ..)
   ·rcases zbp n (x :: a) b (by simp only [List.length_cons]; omega) m hm with q | q
    ·exact .inl q
    ·exact .inr (List.mem_cons_of_mem _ q)
  ·rcases List.mem_cons.1 hm with rfl | hm
   ·exact .inl (List.mem_cons_self ..)
   ·rcases zbp n a (y :: b) (by simp only [List.length_cons]; omega) m hm with q | q
    ·exact .inl (List.mem_cons_of_mem _ q)
    ·exact .inr q
def zce (a b:List Msg):Nat->Int
 | 0=>-1
 | 1=>if a = [] then -1 else 0
 | _=>match a,b with
  | [],[]=>-1
  | [],_ :: _=>1
  | _ :: _,[]=>0
  | x :: _,y :: _=>if y.stamp < x.stamp then 1 else 0
def y6x (a b:List Msg) (p q:Nat) (out:List Msg) (k:Nat) (σ:St):Prop :=
 ∃ i:Nat,i≤2∧k = 2 - i∧σ.T 0 = .sl [.sl (a.map Msg.a),.sl (b.map Msg.a)]∧σ.T 3 = .rs 9 0 2∧σ.H 9 = some ⟨1,3,[.int .i64 p,.int .i64 q],0⟩∧σ.T 4 = .rs 4 0 out.length∧σ.H 4 = some ⟨6,87,out.map Msg.a,0⟩ ∧
  σ.T 5 = .int .i64 (zce (a.drop p) (b.drop q) i)∧σ.T 6 = .int .i64 i
def liInv (a b R:List Msg) (k:Nat) (σ:St):Prop :=
 ∃ (p q:Nat) (out:List Msg),p≤a.length∧q≤b.length∧k = (a.length - p) + (b.length - q)∧out.length = p + q∧σ.T 0 = .sl [.sl (a.map Msg.a),.sl (b.map Msg.a)]∧σ.T 3 = .rs 9 0 2∧σ.H 9 = some ⟨1,3,[.int .i64 p,.int .i64 q],0⟩∧σ.T 4 = .rs 4 0 out.length∧σ.H 4 = some ⟨6,87,out.map Msg.a,0⟩ ∧
  out ++ z1h (a.drop p) (b.drop q) = R
set_option maxHeartbeats 2000000 in
theorem best_step (C:FuncId->List AV->AV->Prop) (Q:XK->St->Prop) (a b:List Msg) (ha:a.length≤1000000) (hb:b.length≤1000000) (p q:Nat) (out:List Msg)
  (hQ:∀ σ,y6x a b p q out 0 σ->Q (.exit 2) σ) (k:Nat) (σ:St) (hI:y6x a b p q out k σ):run C zbg (z2h (fun σ'=>∃ m,m < k∧y6x a b p q out m σ') Q) σ:=by
 obtain ⟨i,hi,rfl,t0,t3,h9,t4,h4,t5,t6⟩:=hI
 simp only [zbg]
 have z0:Int.toNat 0 = 0:=rfl
 have z1:Int.toNat 1 = 1:=rfl
 have c2:((2:Nat):Int) = 2:=rfl
 have w0:IntKind.i64.wrap (0 + 1) = ((1:Nat):Int):=by decide
 have w1:IntKind.i64.wrap (1 + 1) = ((2:Nat):Int):=by decide
 match i,hi with
 | 0,_ =>
  have t6:σ.T 6 = .int .i64 0:=t6
  have t5:σ.T 5 = .int .i64 (-1):=t5
  by_cases hp:p < a.length
  ·have hp':(p:Int) < (a.length:Int):=by omega
   obtain ⟨x,hx⟩:=z0f hp
   have hne:¬ a.drop p = []:=by rw [z0d hx]; simp
   simp (maxSteps:=9^7) only [go_sem,t0,t3,h9,t4,h4,t5,t6,hp',z0,c2,w0,List.length_map]
   refine ⟨1,by omega,1,by omega,rfl,?_,?_,?_,?_,?_,?_,?_⟩
   iterate 7 focus ((simp (maxSteps:=9^7) only [go_sem,t0,t3,h9,t4,h4,zce,if_neg hne,w0]) <;> rfl)
   
  ·have hp':¬ (p:Int) < (a.length:Int):=by omega
   have hne:a.drop p = []:=List.drop_eq_nil_of_le (by omega)
   simp (maxSteps:=9^7) only [go_sem,t0,t3,h9,t4,h4,t5,t6,hp',z0,c2,w0,List.length_map]
   refine ⟨1,by omega,1,by omega,rfl,?_,?_,?_,?_,?_,?_,?_⟩
   iterate 7 focus ((simp (maxSteps:=9^7) only [go_sem,t0,t3,h9,t4,h4,t5,zce,if_pos hne,w0]) <;> rfl)
 | 1,_ =>
  have t6:σ.T 6 = .int .i64 1:=t6
  have t5:σ.T 5 = .int .i64 (if a.drop p = [] then -1 else 0):=t5
  by_cases hq:q < b.length
  ·have hq':(q:Int) < (b.length:Int):=by omega
   obtain ⟨y,hy⟩:=z0f hq
   have hgy:=z0k (f:=Msg.a) hy
   simp only [Msg.a] at hgy
   by_cases hp:p < a.length
   ·have hp':(p:Int) < (a.length:Int):=by omega
    obtain ⟨x,hx⟩:=z0f hp
    have hgx:=z0k (f:=Msg.a) hx
    simp only [Msg.a] at hgx
    rw [if_neg (by rw [z0d hx]; simp)] at t5
    by_cases hs:y.stamp < x.stamp
    ·simp (maxSteps:=9^7) only [go_sem,t0,t3,h9,t4,h4,t5,t6,hp',hq',hgx,hgy,hs,z0,z1,c2,w1,List.length_map,Int.toNat_natCast]
     (repeat refine And.intro (by omega) ?_)
     refine ⟨0,by omega,2,by omega,rfl,?_,?_,?_,?_,?_,?_,?_⟩
     iterate 7 focus ((simp (maxSteps:=9^7) only [go_sem,t0,t3,h9,t4,h4,zce,z0d hx,z0d hy,hs,w1,c2]) <;> rfl)
    ·simp (maxSteps:=9^7) only [go_sem,t0,t3,h9,t4,h4,t5,t6,hp',hq',hgx,hgy,hs,z0,z1,c2,w1,List.length_map,Int.toNat_natCast]
     (repeat refine And.intro (by omega) ?_)
     refine ⟨0,by omega,2,by omega,rfl,?_,?_,?_,?_,?_,?_,?_⟩
     iterate 7 focus ((simp (maxSteps:=9^7) only [go_sem,t0,t3,h9,t4,h4,t5,zce,z0d hx,z0d hy,hs,w1,c2]) <;> rfl)
   ·have hne:a.drop p = []:=List.drop_eq_nil_of_le (by omega)
    rw [if_pos hne] at t5
    simp (maxSteps:=9^7) only [go_sem,t0,t3,h9,t4,h4,t5,t6,hq',hgy,z0,z1,c2,w1,List.length_map,Int.toNat_natCast]
    (repeat refine And.intro (by omega) ?_)
    refine ⟨0,by omega,2,by omega,rfl,?_,?_,?_,?_,?_,?_,?_⟩
    iterate 7 focus ((simp (maxSteps:=9^7) only [go_sem,t0,t3,h9,t4,h4,zce,hne,z0d hy,w1,c2]) <;> rfl)
  ·have hq':¬ (q:Int) < (b.length:Int):=by omega
   have hne:b.drop q = []:=List.drop_eq_nil_of_le (by omega)
   have hb2:zce (a.drop p) (b.drop q) 2 = (if a.drop p = [] then -1 else 0):=by
    rw [hne]; unfold zce
    cases a.drop p <;> simp
   simp (maxSteps:=9^7) only [go_sem,t0,t3,h9,t4,h4,t6,hq',z0,z1,c2,w1,List.length_map,Int.toNat_natCast]
   (repeat refine And.intro (by omega) ?_)
   refine ⟨0,by omega,2,by omega,rfl,?_,?_,?_,?_,?_,?_,?_⟩
   iterate 7 focus ((simp (maxSteps:=9^7) only [go_sem,t0,t3,h9,t4,h4,t5,hb2,w1,c2]) <;> rfl)
 | 2,_ =>
  have t6':σ.T 6 = .int .i64 2:=t6
  simp (maxSteps:=9^7) only [go_sem,t0,t3,h9,t4,h4,t6',c2,List.length_map]
  refine hQ _ ⟨2,by omega,rfl,?_,?_,?_,?_,?_,?_,?_⟩
  iterate 7 focus ((simp (maxSteps:=9^7) only [go_sem,t0,t3,h9,t4,h4,t5,t6]) <;> rfl)
theorem best_cases (a b:List Msg) (p q:Nat) :
  (∃ x,a[p]? = some x∧zce (a.drop p) (b.drop q) 2 = 0∧z1h (a.drop p) (b.drop q) = x :: z1h (a.drop (p + 1)) (b.drop q)) ∨
  (∃ y,b[q]? = some y∧zce (a.drop p) (b.drop q) 2 = 1∧z1h (a.drop p) (b.drop q) = y :: z1h (a.drop p) (b.drop (q + 1))) ∨
  (zce (a.drop p) (b.drop q) 2 = -1∧z1h (a.drop p) (b.drop q) = []):=by
 rcases Nat.lt_or_ge p a.length with hp | hp
 ·obtain ⟨x,hx⟩:=z0f hp
  rcases Nat.lt_or_ge q b.length with hq | hq
  ·obtain ⟨y,hy⟩:=z0f hq
   rw [z0d hx,z0d hy,z8a]
   by_cases h:y.stamp < x.stamp
   ·rw [if_pos h]
    exact .inr (.inl ⟨y,hy,by unfold zce; simp only; rw [if_pos h],by first | rfl | rw [z0d hx]⟩)
   ·rw [if_neg h]
    exact .inl ⟨x,hx,by unfold zce; simp only; rw [if_neg h],by first | rfl | rw [z0d hy]⟩
  ·rw [List.drop_eq_nil_of_le hq,z0d hx,z52,z52]
   exact .inl ⟨x,hx,rfl,rfl⟩
 ·rw [List.drop_eq_nil_of_le hp]
  rcases Nat.lt_or_ge q b.length with hq | hq
  ·obtain ⟨y,hy⟩:=z0f hq
   rw [z0d hy,z4k,z4k]
   exact .inr (.inl ⟨y,hy,rfl,rfl⟩)
  ·rw [List.drop_eq_nil_of_le hq,z4k]
   exact .inr (.inr ⟨rfl,rfl⟩)
theorem wrapN (n:Nat) (h:n≤1000000000000000):IntKind.i64.wrap ((n:Int) + 1) = ((n + 1:Nat):Int):=z1a h
set_option maxHeartbeats 4000000 in
theorem lists_ok (a b:List Msg) (ha:a.length≤1000000) (hb:b.length≤1000000):AFn Tryz.prog 61 [.sl [.sl (a.map Msg.a),.sl (b.map Msg.a)]] (.own 6 87 ((z1h a b).map Msg.a)):=by
 refine fn_lists rfl ?_
 obtain ⟨R,hR⟩:∃ R,z1h a b = R:=⟨_,rfl⟩
 rw [hR]
 have z0:Int.toNat 0 = 0:=rfl
 have z1:Int.toNat 1 = 1:=rfl
 have z2:Int.toNat 2 = 2:=rfl
 have c2:((2:Nat):Int) = 2:=rfl
 simp (maxSteps:=9^7) only [go_sem,c2,z2,List.replicate_succ,List.replicate_zero]
 (repeat refine And.intro (by omega) ?_)
 refine z06 (liInv a b R) (k:=a.length + b.length) ⟨0,0,[],by omega,by omega,by omega,rfl,?_,?_,?_,?_,?_,hR⟩ ?_
 iterate 5 focus ((simp (maxSteps:=9^7) only [go_sem]) <;> rfl)
 clear hR
 rintro k σ ⟨p,q,out,hp,hq,rfl,ho,t0,t3,h9,t4,h4,hr⟩
 simp only [zhx]
 simp (maxSteps:=9^7) only [go_sem]
 refine z06 (y6x a b p q out) (k:=2) ⟨0,by omega,rfl,?_,?_,?_,?_,?_,?_,?_⟩ (best_step _ _ a b ha hb p q out ?_)
 iterate 7 focus ((simp (maxSteps:=9^7) only [go_sem,t0,t3,h9,t4,h4]) <;> rfl)
 rintro σ ⟨i,hi,hi2,t0,t3,h9,t4,h4,t5,t6⟩
 obtain rfl:i = 2:=by omega
 have ht:List.take out.length (out.map Msg.a) = out.map Msg.a:=List.take_of_length_le (by rw [List.length_map]; exact Nat.le_refl _)
 have hw:=wrapN p (by omega)
 have hw':=wrapN q (by omega)
 have hR0:AFn Tryz.prog 89 [.sl []] (.bool true):=ztb [] (by decide) (fun x hx=>by cases hx)
 rcases best_cases a b p q with ⟨x,hx,hb0,hm⟩ | ⟨y,hy,hb0,hm⟩ | ⟨hb0,hm⟩
 ·rw [hb0] at t5
  rw [hm] at hr
  have hp1:=(List.getElem?_eq_some_iff.1 hx).1
  have hgx:=z0k (f:=Msg.a) hx
  simp only [Msg.a] at hgx
  have hp':(p:Int) < (a.length:Int):=by omega
  (repeat (first | simp (maxSteps:=9^7) only [go_sem,t0,t3,h9,t4,h4,t5,z0,z1,hp',hgx,List.length_map,Int.toNat_natCast,hw,ht] | refine z01 (hR0) ?_ | refine z00 (hR0) ?_ | refine And.intro (by omega) ?_ | refine And.intro (fun d hd=>by (repeat (rcases hd with rfl | hd; · exact ⟨rfl,rfl⟩)); cases hd) ?_ | refine And.intro (And.intro (by omega) (fun d hd=>by (repeat (rcases hd with rfl | hd; · exact ⟨rfl,rfl⟩)); cases hd)) ?_))
  refine ⟨(a.length - (p + 1)) + (b.length - q),by omega,p + 1,q,out ++ [x],by omega,by omega,rfl,by simp; omega,?_,?_,?_,?_,?_,by rw [List.append_assoc]; exact hr⟩
  iterate 5 focus ((simp (maxSteps:=9^7) only [go_sem,t0,t3,hw,List.length_append,List.length_cons,List.length_nil,List.map_append,List.map_cons,List.map_nil,ht]) <;> rfl)
 ·rw [hb0] at t5
  rw [hm] at hr
  have hq1:=(List.getElem?_eq_some_iff.1 hy).1
  have hgy:=z0k (f:=Msg.a) hy
  simp only [Msg.a] at hgy
  have hq':(q:Int) < (b.length:Int):=by omega
  (repeat (first | simp (maxSteps:=9^7) only [go_sem,t0,t3,h9,t4,h4,t5,z0,z1,hq',hgy,List.length_map,Int.toNat_natCast,hw',ht] | refine z01 (hR0) ?_ | refine z00 (hR0) ?_ | refine And.intro (by omega) ?_ | refine And.intro (fun d hd=>by (repeat (rcases hd with rfl | hd; · exact ⟨rfl,rfl⟩)); cases hd) ?_ | refine And.intro (And.intro (by omega) (fun d hd=>by (repeat (rcases hd with rfl | hd; · exact ⟨rfl,rfl⟩)); cases hd)) ?_))
  refine ⟨(a.length - p) + (b.length - (q + 1)),by omega,p,q + 1,out ++ [y],by omega,by omega,rfl,by simp; omega,?_,?_,?_,?_,?_,by rw [List.append_assoc]; exact hr⟩
  iterate 5 focus ((simp (maxSteps:=9^7) only [go_sem,t0,t3,hw',List.set_cons_succ,List.length_append,List.length_cons,List.length_nil,List.map_append,List.map_cons,List.map_nil,ht]) <;> rfl)
 ·rw [hb0] at t5
  rw [hm,List.append_nil] at hr
  subst hr
  simp (maxSteps:=9^7) only [go_sem,t0,t3,h9,t4,h4,t5,z0,z1,List.length_map,Int.toNat_natCast]
end
section
open Go.RowKit
attribute [local go_sem ↓] z18 z0h
structure Seat where
 n:Nd
 s:Spn
 ms:List Msg
def Seat.a (x:Seat):AV:=.agg [.int .i64 x.n.slot,.int .i64 x.n.level,.sl (x.n.pivots.map AV.str),.sl (x.n.kids.map (AV.int .i64)),.str x.n.high,.bool x.n.top,.int .i64 x.n.right,.int .i64 x.n.seen,.sl (x.n.msgs.map Msg.a),.sl (x.n.rows.map Par.a),.str x.s.lo,.str x.s.hi,.bool x.s.op,.sl (x.ms.map Msg.a)]
def y1o (x:Seat) (j:Nat) (kid:Nd):Seat :=
 ⟨kid,x.s.meet (z2f x.n.pivots j),z1h (z6p x.n.msgs (x.s.meet (z2f x.n.pivots j))) (z6p x.ms (x.s.meet (z2f x.n.pivots j)))⟩
def z14 (l:List Nd) (x:Seat):Nat->List Int->List Seat × Bool
 | _,[]=>([],true)
 | j,k :: ks=>if (z3w l k).2 = true∧(z3w l k).1.level = x.n.level - 1 then (y1o x j (z3w l k).1 :: (z14 l x (j + 1) ks).1,(z14 l x (j + 1) ks).2) else ([],false)
def z2s (l:List Nd):Nat->List Seat->Nat->List Seat × Bool
 | 0,out,_=>(out,true)
 | f + 1,out,i=>match out[i]? with
  | none=>(out,true)
  | some x=>if l.length < out.length then (out,false) else if x.n.level = 0 then z2s l f out (i + 1)
   else if x.n.level < 0∨zcm x.n.pivots x.n.kids = false then (out,false)
   else if (z14 l x 0 x.n.kids).2 = true then z2s l f (out ++ (z14 l x 0 x.n.kids).1) (i + 1) else (out ++ (z14 l x 0 x.n.kids).1,false)
def z3r (l:List Nd) (root:Int):List Seat × Bool :=
 if (z3w l root).2 = true then z2s l (l.length + 1) [⟨(z3w l root).1,⟨nul0,nul0,true⟩,[]⟩] 0 else ([],false)
structure Nd.Lt (n:Nd):Prop where
 lev:-9223372036854775808≤n.level∧n.level≤9223372036854775807
 piv:∀ x,x ∈ n.pivots->x.size≤2000
 npiv:n.pivots.length≤2000
 nkid:n.kids.length≤2000
 high:n.high.size≤2000
 msgs:∀ m,m ∈ n.msgs->m.le 2000
 nmsg:n.msgs.length≤2000
 rows:∀ p,p ∈ n.rows->p.key.size≤2000∧p.val.size≤2000
 nrow:n.rows.length≤2000
theorem Nd.zero_lt:Nd.zero.Lt:=⟨⟨by decide,by decide⟩,fun x h=>(by cases h),by decide,by decide,by decide,fun x h=>(by cases h),by decide,fun x h=>(by cases h),by decide⟩
theorem zc9 (slot:Int):∀ (l:List Nd) (o:Nd) (n:Nat),(z3v slot o n l).1 = o∨(z3v slot o n l).1 ∈ l
 | [],o,n=>.inl rfl
 | x :: l,o,n=>by
  rw [z3v]
  split
  ·rcases zc9 slot l x (n + 1) with h | h
   ·exact .inr (by rw [h]; exact List.mem_cons_self ..)
   ·exact .inr (List.mem_cons_of_mem _ h)
  ·rcases zc9 slot l o n with h | h
   ·exact .inl h
   ·exact .inr (List.mem_cons_of_mem _ h)
theorem zdq {l:List Nd} (h:∀ n,n ∈ l->n.Lt) (slot:Int):(z3w l slot).1.Lt:=by
 rcases zc9 slot l Nd.zero 0 with e | e
 ·show (z3v slot Nd.zero 0 l).1.Lt
  rw [e]; exact Nd.zero_lt
 ·exact h _ e
theorem ztw {p:List ByteArray} (h:∀ x,x ∈ p->x.size≤2000) (j:Nat):(z2f p j).le 2000:=by
 unfold z2f
 refine norm_le ⟨?_,?_⟩
 ·show (if j = 0 then nul0 else p.getD (j - 1) nul0).size≤2000
  split
  ·exact Nat.zero_le _
  ·rcases Nat.lt_or_ge (j - 1) p.length with q | q
   ·exact h _ (zs8 q)
   ·rw [List.getD_eq_getElem?_getD,List.getElem?_eq_none q]; exact Nat.zero_le _
 ·show (if j < p.length then p.getD j nul0 else nul0).size≤2000
  split
  ·rename_i q; exact h _ (zs8 q)
  ·exact Nat.zero_le _
theorem clipM_le {m:Msg} {s:Spn} (hm:m.le 2000) (hs:s.le 2000):(zke m s).1.le 2000:=by
 unfold zke
 split
 ·exact ⟨Nat.zero_le _,Nat.zero_le _,Nat.zero_le _⟩
 ·show (if m.kind = 4 then _ else m:Msg).le 2000
  split
  ·rename_i h4
   have:m.span.le 2000:=by
    unfold Msg.span
    rw [if_pos h4]; exact ⟨hm.1,hm.2.1⟩
   have q:=zru this hs
   exact ⟨q.1,q.2,hm.2.2⟩
  ·exact hm
theorem y8c {l:List Msg} {s:Spn} (hl:∀ m,m ∈ l->m.le 2000) (hs:s.le 2000):∀ m,m ∈ z6p l s->m.le 2000:=by
 intro m hm
 unfold z6p at hm
 rw [List.mem_filterMap] at hm
 obtain ⟨y,hy,e⟩:=hm
 split at e
 ·cases e; exact clipM_le (hl y hy) hs
 ·cases e
structure SeatOk (x:Seat) (b:Nat):Prop where
 lt:x.n.Lt
 s:x.s.le 2000
 ms:∀ m,m ∈ x.ms->m.le 2000
 nms:x.ms.length≤b
theorem kidSeat_ok {x:Seat} {b:Nat} (h:SeatOk x b) (j:Nat) {kid:Nd} (hk:kid.Lt):SeatOk (y1o x j kid) (b + 2000):=by
 have hs:=zru h.s (ztw h.lt.piv j)
 have l1:=z9a x.n.msgs (x.s.meet (z2f x.n.pivots j))
 have l2:=z9a x.ms (x.s.meet (z2f x.n.pivots j))
 have l3:=h.lt.nmsg
 have l4:=h.nms
 refine ⟨hk,hs,fun m hm=>?_,?_⟩
 ·rcases zbp _ _ _ (Nat.le_refl _) m hm with q | q
  ·exact y8c h.lt.msgs hs m q
  ·exact y8c h.ms hs m q
 ·show (z1h _ _).length≤_
  rw [zbq _ _ _ (Nat.le_refl _)]
  omega
def zug:Reg:=⟨[],[⟨.mknil 14 83,some 4,none,[],[]⟩,⟨.mv (.c (.bool false)),some 5,none,[],[]⟩],[4],[],false⟩
def zed:List ROp:=[⟨.mv (.t 0),some 17,none,[19,6],[]⟩,⟨.mv (.t 1),some 18,none,[19,6],[]⟩,⟨.callv (.c (.clo 51 [] [])) [(.t 17),(.t 18)],some 19,none,[6],[]⟩,⟨.mv (.t 19),some 16,none,[6],[]⟩,⟨.ext 0 (.t 16),some 20,none,[6],[]⟩,⟨.ext 1 (.t 16),some 21,none,[6],[]⟩,⟨.alloc 10 45 (.agg [(.int .i64 0),(.int .i64 0),(.sl []),(.sl []),(.str ⟨#[]⟩),(.bool false),(.int .i64 0),(.int .i64 0),(.sl []),(.sl [])]),some 6,none,[],[]⟩,⟨.store 10 (.t 6) (.t 20),none,none,[],[]⟩,⟨.mv (.t 21),some 7,none,[],[]⟩]
def zuf:Reg:=⟨[],zed,[19,6],[],false⟩
def zue:Reg:=⟨[],[⟨.mv (.t 7),some 22,none,[],[]⟩,⟨.un .not (.t 22),some 23,none,[],[]⟩],[],[],false⟩
def zud:Reg:=⟨[],[⟨.mknil 14 83,some 4,none,[],[]⟩,⟨.mv (.c (.bool false)),some 5,none,[],[]⟩],[4],[],false⟩
def zec:List ROp:=[⟨.load 10 true (.t 6),some 24,none,[27],[]⟩,⟨.bld [(.str ⟨#[]⟩),(.str ⟨#[]⟩),(.bool false)] [⟨2,1,(.c (.bool true))⟩],some 25,none,[27],[]⟩,⟨.bld [(.int .i64 0),(.int .i64 0),(.sl []),(.sl []),(.str ⟨#[]⟩),(.bool false),(.int .i64 0),(.int .i64 0),(.sl []),(.sl []),(.str ⟨#[]⟩),(.str ⟨#[]⟩),(.bool false),(.sl [])] [⟨0,10,(.t 24)⟩,⟨10,3,(.t 25)⟩],some 26,none,[27],[]⟩,⟨.bsl 14 83 [(.t 26)],some 27,none,[],[]⟩,⟨.mv (.t 27),some 8,none,[],[]⟩]
def zuc:Reg:=⟨[],zec,[27],[],false⟩
def zub:Reg:=⟨[],[⟨.mv (.c (.int .i64 0)),some 9,none,[],[]⟩],[],[],false⟩
def zeb:List ROp:=[⟨.mv (.t 9),some 28,none,[],[]⟩,⟨.mv (.t 8),some 29,none,[],[]⟩,⟨.len false (.t 29),some 30,none,[],[]⟩,⟨.bin .lss (.t 28) (.t 30),some 31,none,[],[]⟩]
def zua:Reg:=⟨[],zeb,[],[],false⟩
def zea:List ROp:=[⟨.mv (.t 8),some 34,none,[10],[]⟩,⟨.mv (.t 9),some 35,none,[10],[]⟩,⟨.iaddr 14 (.t 34) (.t 35),some 36,none,[10],[]⟩,⟨.load 14 true (.t 36),some 37,none,[10],[]⟩,⟨.alloc 14 83 (.agg [(.int .i64 0),(.int .i64 0),(.sl []),(.sl []),(.str ⟨#[]⟩),(.bool false),(.int .i64 0),(.int .i64 0),(.sl []),(.sl []),(.str ⟨#[]⟩),(.str ⟨#[]⟩),(.bool false),(.sl [])]),some 10,none,[],[]⟩,⟨.store 14 (.t 10) (.t 37),none,none,[],[]⟩]
def zu9:Reg:=⟨[],zea,[10],[],false⟩
def ze9:List ROp:=[⟨.mv (.t 8),some 38,none,[],[]⟩,⟨.len false (.t 38),some 39,none,[],[]⟩,⟨.mv (.t 0),some 40,none,[],[]⟩,⟨.len false (.t 40),some 41,none,[],[]⟩,⟨.bin .gtr (.t 39) (.t 41),some 42,none,[],[]⟩]
def zu8:Reg:=⟨[],ze9,[],[],false⟩
def ze8:List ROp:=[⟨.mv (.t 8),some 43,none,[],[]⟩,⟨.mv (.t 43),some 4,none,[],[]⟩,⟨.mv (.c (.bool false)),some 5,none,[],[]⟩]
def zu7:Reg:=⟨[],ze8,[],[],false⟩
def z9v:List ROp:=[⟨.faddr 0 (.t 10),some 44,none,[],[]⟩,⟨.faddr 1 (.t 44),some 45,none,[],[]⟩,⟨.load 1 false (.t 45),some 46,none,[],[]⟩,⟨.bin .eql (.t 46) (.c (.int .i64 0)),some 47,none,[],[]⟩]
def zm6:Reg:=⟨[],z9v,[],[],false⟩
def z9u:List ROp:=[⟨.faddr 0 (.t 10),some 48,none,[59],[]⟩,⟨.faddr 1 (.t 48),some 49,none,[59],[]⟩,⟨.load 1 false (.t 49),some 50,none,[59],[]⟩,⟨.bin .lss (.t 50) (.c (.int .i64 0)),some 51,none,[59],[]⟩,⟨.mv (.t 51),some 52,none,[59],[]⟩,⟨.faddr 0 (.t 10),some 53,(some (52,false)),[59],[]⟩,⟨.faddr 2 (.t 53),some 54,(some (52,false)),[59],[]⟩,⟨.load 1 false (.t 54),some 55,(some (52,false)),[59],[]⟩,⟨.faddr 0 (.t 10),some 56,(some (52,false)),[59],[]⟩,⟨.faddr 3 (.t 56),some 57,(some (52,false)),[59],[]⟩,⟨.load 1 false (.t 57),some 58,(some (52,false)),[59],[]⟩,⟨.callv (.c (.clo 58 [] [])) [(.t 55),(.t 58)],some 59,(some (52,false)),[],[]⟩,⟨.un .not (.t 59),some 60,(some (52,false)),[],[]⟩,⟨.pick (.t 52) (.c (.bool true)) (.t 60),some 61,none,[],[]⟩]
def zm5:Reg:=⟨[],z9u,[59],[],false⟩
def z9t:List ROp:=[⟨.mv (.t 8),some 62,none,[],[]⟩,⟨.mv (.t 62),some 4,none,[],[]⟩,⟨.mv (.c (.bool false)),some 5,none,[],[]⟩]
def zm4:Reg:=⟨[],z9t,[],[],false⟩
def zm3:Reg:=⟨[],[⟨.mv (.c (.int .i64 0)),some 11,none,[],[]⟩],[],[],false⟩
def z9s:List ROp:=[⟨.mv (.t 11),some 63,none,[],[]⟩,⟨.faddr 0 (.t 10),some 64,none,[],[]⟩,⟨.faddr 3 (.t 64),some 65,none,[],[]⟩,⟨.load 1 false (.t 65),some 66,none,[],[]⟩,⟨.len false (.t 66),some 67,none,[],[]⟩,⟨.bin .lss (.t 63) (.t 67),some 68,none,[],[]⟩]
def zm2:Reg:=⟨[],z9s,[],[],false⟩
def z9r:List ROp:=[⟨.mv (.t 0),some 72,none,[79,12],[]⟩,⟨.faddr 0 (.t 10),some 73,none,[79,12],[]⟩,⟨.faddr 3 (.t 73),some 74,none,[79,12],[]⟩,⟨.load 1 false (.t 74),some 75,none,[79,12],[]⟩,⟨.mv (.t 11),some 76,none,[79,12],[]⟩,⟨.iaddr 1 (.t 75) (.t 76),some 77,none,[79,12],[]⟩,⟨.load 1 false (.t 77),some 78,none,[79,12],[]⟩,⟨.callv (.c (.clo 51 [] [])) [(.t 72),(.t 78)],some 79,none,[12],[]⟩,⟨.mv (.t 79),some 71,none,[12],[]⟩,⟨.ext 0 (.t 71),some 80,none,[12],[]⟩,⟨.ext 1 (.t 71),some 81,none,[12],[]⟩,⟨.alloc 10 45 (.agg [(.int .i64 0),(.int .i64 0),(.sl []),(.sl []),(.str ⟨#[]⟩),(.bool false),(.int .i64 0),(.int .i64 0),(.sl []),(.sl [])]),some 12,none,[],[]⟩,⟨.store 10 (.t 12) (.t 80),none,none,[],[]⟩,⟨.mv (.t 81),some 13,none,[],[]⟩]
def zm1:Reg:=⟨[],z9r,[79,12],[],false⟩
def z9q:List ROp:=[⟨.mv (.t 13),some 82,none,[],[]⟩,⟨.un .not (.t 82),some 83,none,[],[]⟩,⟨.mv (.t 83),some 84,none,[],[]⟩,⟨.faddr 1 (.t 12),some 85,(some (84,false)),[],[]⟩,⟨.load 1 false (.t 85),some 86,(some (84,false)),[],[]⟩,⟨.faddr 0 (.t 10),some 87,(some (84,false)),[],[]⟩,⟨.faddr 1 (.t 87),some 88,(some (84,false)),[],[]⟩,⟨.load 1 false (.t 88),some 89,(some (84,false)),[],[]⟩,⟨.bin .sub (.t 89) (.c (.int .i64 1)),some 90,(some (84,false)),[],[]⟩,⟨.bin .neq (.t 86) (.t 90),some 91,(some (84,false)),[],[]⟩,⟨.pick (.t 84) (.c (.bool true)) (.t 91),some 92,none,[],[]⟩]
def zm0:Reg:=⟨[],z9q,[],[],false⟩
def z9p:List ROp:=[⟨.mv (.t 8),some 93,none,[],[]⟩,⟨.mv (.t 93),some 4,none,[],[]⟩,⟨.mv (.c (.bool false)),some 5,none,[],[]⟩]
def zlz:Reg:=⟨[],z9p,[],[],false⟩
def zby:List ROp:=[⟨.faddr 10 (.t 10),some 94,none,[100,101,14],[]⟩,⟨.load 3 true (.t 94),some 95,none,[100,101,14],[]⟩,⟨.faddr 0 (.t 10),some 96,none,[100,101,14],[]⟩,⟨.faddr 2 (.t 96),some 97,none,[100,101,14],[]⟩,⟨.load 1 false (.t 97),some 98,none,[100,101,14],[]⟩,⟨.mv (.t 11),some 99,none,[100,101,14],[]⟩,⟨.callv (.c (.clo 60 [] [])) [(.t 98),(.t 99)],some 100,none,[101,14],[]⟩,⟨.callv (.c (.clo 59 [] [])) [(.t 95),(.t 100)],some 101,none,[14],[]⟩,⟨.alloc 3 81 (.agg [(.str ⟨#[]⟩),(.str ⟨#[]⟩),(.bool false)]),some 14,none,[100,101],[]⟩]
def zly:Reg:=⟨zby,[⟨.store 3 (.t 14) (.t 101),none,none,[],[14]⟩],[100,101,14],[],true⟩
def z9o:List ROp:=[⟨.callv (.c (.clo 62 [] [])) [(.t 108),(.t 109)],some 110,none,[111,112],[]⟩,⟨.bsl 1 42 [(.t 106),(.t 110)],some 111,none,[112],[]⟩,⟨.callv (.c (.clo 61 [] [])) [(.t 111)],some 112,none,[],[]⟩,⟨.mv (.t 112),some 15,none,[],[]⟩]
def zbx:List ROp:=[⟨.faddr 0 (.t 10),some 102,none,[106,110,111,112],[]⟩,⟨.faddr 8 (.t 102),some 103,none,[106,110,111,112],[]⟩,⟨.load 1 false (.t 103),some 104,none,[106,110,111,112],[]⟩,⟨.load 3 true (.t 14),some 105,none,[106,110,111,112],[]⟩,⟨.callv (.c (.clo 62 [] [])) [(.t 104),(.t 105)],some 106,none,[110,111,112],[]⟩,⟨.faddr 13 (.t 10),some 107,none,[106,110,111,112],[]⟩,⟨.load 1 false (.t 107),some 108,none,[106,110,111,112],[]⟩,⟨.load 3 true (.t 14),some 109,none,[106,110,111,112],[]⟩]
def zlx:Reg:=⟨zbx,z9o,[106,110,111,112],[],true⟩
def z9n:List ROp:=[⟨.mv (.t 8),some 113,none,[118],[]⟩,⟨.load 10 true (.t 12),some 114,none,[118],[]⟩,⟨.load 3 true (.t 14),some 115,none,[118],[]⟩,⟨.mv (.t 15),some 116,none,[118],[]⟩,⟨.bld [(.int .i64 0),(.int .i64 0),(.sl []),(.sl []),(.str ⟨#[]⟩),(.bool false),(.int .i64 0),(.int .i64 0),(.sl []),(.sl []),(.str ⟨#[]⟩),(.str ⟨#[]⟩),(.bool false),(.sl [])] [⟨0,10,(.t 114)⟩,⟨10,3,(.t 115)⟩,⟨13,1,(.t 116)⟩],some 117,none,[118],[]⟩,⟨.bsl 14 83 [(.t 117)],some 118,none,[],[]⟩,⟨.append 14 83 216 (.t 113) (.t 118),some 119,none,[],[]⟩,⟨.mv (.t 119),some 8,none,[],[]⟩]
def zlw:Reg:=⟨[],z9n,[118],[],false⟩
def z9m:List ROp:=[⟨.mv (.t 11),some 69,none,[],[]⟩,⟨.bin .add (.t 69) (.c (.int .i64 1)),some 70,none,[],[]⟩,⟨.mv (.t 70),some 11,none,[],[]⟩]
def zlv:Reg:=⟨[],z9m,[],[],false⟩
def z83:IR:=(.seq (.seq (.reg zm2)
 (.cond (.t 68) .skip
 (.exit 2)))
 (.seq (.block 3 (.seq (.reg zm1)
 (.seq (.seq (.reg zm0)
 (.cond (.t 92) (.seq (.reg zlz)
 .ret)
 .skip))
 (.seq (.reg zly)
 (.seq (.reg zlx)
 (.reg zlw))))))
 (.reg zlv)))
def z9l:List ROp:=[⟨.mv (.t 9),some 32,none,[],[]⟩,⟨.bin .add (.t 32) (.c (.int .i64 1)),some 33,none,[],[]⟩,⟨.mv (.t 33),some 9,none,[],[]⟩]
def zlu:Reg:=⟨[],z9l,[],[],false⟩
def zgg:IR:=(.seq (.seq (.reg zua)
 (.cond (.t 31) .skip
 (.exit 0)))
 (.seq (.block 1 (.seq (.reg zu9)
 (.seq (.seq (.reg zu8)
 (.cond (.t 42) (.seq (.reg zu7)
 .ret)
 .skip))
 (.seq (.seq (.reg zm6)
 (.cond (.t 47) (.exit 1)
 .skip))
 (.seq (.seq (.reg zm5)
 (.cond (.t 61) (.seq (.reg zm4)
 .ret)
 .skip))
 (.seq (.reg zm3)
 (.block 2 (.loop z83))))))))
 (.reg zlu)))
def z9k:List ROp:=[⟨.mv (.t 8),some 120,none,[],[]⟩,⟨.mv (.t 120),some 4,none,[],[]⟩,⟨.mv (.c (.bool true)),some 5,none,[],[]⟩]
def zlt:Reg:=⟨[],z9k,[],[],false⟩
def y72:IR:=(.seq (.reg zug)
 (.seq (.reg zuf)
 (.seq (.seq (.reg zue)
 (.cond (.t 23) (.seq (.reg zud)
 .ret)
 .skip))
 (.seq (.reg zuc)
 (.seq (.seq (.reg zub)
 (.block 0 (.loop zgg)))
 (.seq (.reg zlt)
 .ret))))))
def ztf:List RDesc:=[(.tmp 4),(.tmp 5)]
theorem e_seats_0:EqR zug [⟨.mknil 14 83,some 4,none,[],[]⟩,⟨.mv (.c (.bool false)),some 5,none,[],[]⟩] [4]:=fun _ _ _=>rfl
theorem e_seats_1:EqR zuf zed [19,6]:=fun _ _ _=>rfl
theorem e_seats_2:EqR zue [⟨.mv (.t 7),some 22,none,[],[]⟩,⟨.un .not (.t 22),some 23,none,[],[]⟩] []:=fun _ _ _=>rfl
theorem e_seats_3:EqR zud [⟨.mknil 14 83,some 4,none,[],[]⟩,⟨.mv (.c (.bool false)),some 5,none,[],[]⟩] [4]:=fun _ _ _=>rfl
theorem e_seats_4:EqR zuc zec [27]:=fun _ _ _=>rfl
theorem e_seats_5:EqR zub [⟨.mv (.c (.int .i64 0)),some 9,none,[],[]⟩] []:=fun _ _ _=>rfl
theorem e_seats_6:EqR zua zeb []:=fun _ _ _=>rfl
theorem e_seats_7:EqR zu9 zea [10]:=fun _ _ _=>rfl
theorem e_seats_8:EqR zu8 ze9 []:=fun _ _ _=>rfl
theorem e_seats_9:EqR zu7 ze8 []:=fun _ _ _=>rfl
theorem e_seats_10:EqR zm6 z9v []:=fun _ _ _=>rfl
theorem e_seats_11:EqR zm5 z9u [59]:=fun _ _ _=>rfl
theorem e_seats_12:EqR zm4 z9t []:=fun _ _ _=>rfl
theorem e_seats_13:EqR zm3 [⟨.mv (.c (.int .i64 0)),some 11,none,[],[]⟩] []:=fun _ _ _=>rfl
theorem e_seats_14:EqR zm2 z9s []:=fun _ _ _=>rfl
theorem e_seats_15:EqR zm1 z9r [79,12]:=fun _ _ _=>rfl
theorem e_seats_16:EqR zm0 z9q []:=fun _ _ _=>rfl
theorem e_seats_17:EqR zlz z9p []:=fun _ _ _=>rfl
theorem e_seats_18 (C:FuncId->List AV->AV->Prop) (σ:St) (K:St->Prop):z0l C zly σ K = z08 C [] [⟨.store 3 (.t 14) (.t 101),none,none,[],[14]⟩] zby (σ.kills [100,101,14]) K:=rfl
theorem e_seats_19 (C:FuncId->List AV->AV->Prop) (σ:St) (K:St->Prop):z0l C zlx σ K = z08 C [] z9o zbx (σ.kills [106,110,111,112]) K:=rfl
theorem e_seats_20:EqR zlw z9n [118]:=fun _ _ _=>rfl
theorem e_seats_21:EqR zlv z9m []:=fun _ _ _=>rfl
theorem e_seats_23:EqR zlu z9l []:=fun _ _ _=>rfl
theorem e_seats_25:EqR zlt z9k []:=fun _ _ _=>rfl
theorem fn_seats {args:List AV} {r:AV} (ha:args.length.ble Tryz.f40.ntmps = true) (h:run (AFn Tryz.prog) y72 (endQ ztf r) (z0b args)):AFn Tryz.prog 40 args r :=
 AFn.of_code (pv:=false) (hint:=fun _=>[]) (c:=Tryz.f40.body.getD .skip) (by kernel_rfl) (by kernel_rfl) Tryz.func40 (by kernel_rfl) (by kernel_rfl) (by kernel_rfl) (of_decide_eq_true (by kernel_rfl)) (Nat.le_of_ble_eq_true ha) (Nat.le_of_ble_eq_true (by kernel_rfl)) (z09 h)
attribute [local go_sem ↓] y72
attribute [local go_sem] ztf e_seats_0 e_seats_1 zed e_seats_2 e_seats_3 e_seats_4 zec e_seats_5 e_seats_6 zeb e_seats_7 zea e_seats_8 ze9 e_seats_9 ze8 e_seats_10 z9v e_seats_11 z9u e_seats_12 z9t e_seats_13 e_seats_14 z9s e_seats_15 z9r e_seats_16 z9q e_seats_17 z9p e_seats_18 zby e_seats_19 z9o zbx e_seats_20 z9n e_seats_21 z9m e_seats_23 z9l e_seats_25 z9k
def kdInv (l:List Nd) (x:Seat) (i:Nat) (out:List Seat) (R:List Seat × Bool) (k:Nat) (σ:St):Prop :=
 ∃ (j:Nat) (done:List Seat),j≤x.n.kids.length∧k = x.n.kids.length - j∧done.length = j∧σ.T 0 = .sl (l.map Nd.a)∧σ.T 8 = .rs 27 0 (out ++ done).length∧σ.H 27 = some ⟨14,83,(out ++ done).map Seat.a,0⟩ ∧
  σ.T 9 = .int .i64 i∧σ.T 10 = .ptr 10 0 0∧σ.H 10 = some ⟨14,83,[x.a],0⟩∧σ.T 11 = .int .i64 j∧(done ++ (z14 l x j (x.n.kids.drop j)).1,(z14 l x j (x.n.kids.drop j)).2) = R
def stEnd (l:List Nd) (i:Nat) (o:List Seat) (σ:St):Prop :=
 σ.T 0 = .sl (l.map Nd.a)∧σ.T 8 = .rs 27 0 o.length∧σ.H 27 = some ⟨14,83,o.map Seat.a,0⟩∧σ.T 9 = .int .i64 i
def stRet (o:List Seat) (σ:St):Prop :=
 σ.T 4 = .rs 27 0 o.length∧σ.H 27 = some ⟨14,83,o.map Seat.a,0⟩∧σ.T 5 = .bool false
set_option maxHeartbeats 4000000 in
theorem kids_step (Q:XK->St->Prop) (l:List Nd) (x:Seat) (b i:Nat) (out:List Seat) (R:List Seat × Bool) (hl:l.length≤1000) (hn:∀ n,n ∈ l->n.Lt) (ho:SeatOk x b) (hb:b≤500000) (hlev:0 < x.n.level)
  (hr:x.n.kids.length = x.n.pivots.length + 1) (hout:out.length≤100000) (hEnd:∀ σ,R.2 = true->stEnd l i (out ++ R.1) σ->Q (.exit 2) σ) (hRet:∀ σ,R.2 = false->stRet (out ++ R.1) σ->Q .ret σ)
  (k:Nat) (σ:St) (hI:kdInv l x i out R k σ):run (AFn Tryz.prog) z83 (z2h (fun σ'=>∃ m,m < k∧kdInv l x i out R m σ') Q) σ:=by
 obtain ⟨j,done,hj,rfl,hd,t0,t8,h27,t9,t10,h10,t11,hR⟩:=hI
 simp only [z83]
 have hlt:=ho.lt
 simp only [Seat.a] at h10
 by_cases hlt':j < x.n.kids.length
 ·have hltI:(j:Int) < (x.n.kids.length:Int):=by omega
  obtain ⟨kd,hx⟩:=z0f hlt'
  have hgj:=z0k (f:=AV.int .i64) hx
  have hw:=z1a (j:=j) (by have:=hlt.nkid; omega)
  have cf:=y1x l kd (by omega)
  have fl:=zdq hn kd
  have hwl:IntKind.i64.wrap (x.n.level - 1) = x.n.level - 1:=IntWalk.i64_in _ (by have:=hlt.lev; omega)
  rw [z0d hx,z14] at hR
  have hj9:j≤x.n.pivots.length:=by omega
  have cr:=range15_ok x.n.pivots j (by have:=hlt.npiv; omega) hj9 (fun y hy=>by have:=hlt.piv y hy; omega)
  have r1:=ztw hlt.piv j
  have cm:=y10 x.s (z2f x.n.pivots j) (zj7 ho.s (by omega)) (zj7 r1 (by omega))
  have r2:=zru ho.s r1
  have c1:=zz6 x.n.msgs (x.s.meet (z2f x.n.pivots j)) 2000 (by omega) (by have:=hlt.nmsg; omega) hlt.msgs r2
  have c2:=zz6 x.ms (x.s.meet (z2f x.n.pivots j)) 2000 (by omega) (by have:=ho.nms; omega) ho.ms r2
  have l1:=z9a x.n.msgs (x.s.meet (z2f x.n.pivots j))
  have l2:=z9a x.ms (x.s.meet (z2f x.n.pivots j))
  have c3:=lists_ok (z6p x.n.msgs (x.s.meet (z2f x.n.pivots j))) (z6p x.ms (x.s.meet (z2f x.n.pivots j))) (by have:=hlt.nmsg; omega) (by have:=ho.nms; omega)
  have ht:∀ o:List Seat,List.take o.length (o.map Seat.a) = o.map Seat.a:=fun o=>List.take_of_length_le (by rw [List.length_map]; exact Nat.le_refl _)
  have htm:∀ o:List Msg,List.take o.length (o.map Msg.a) = o.map Msg.a:=fun o=>List.take_of_length_le (by rw [List.length_map]; exact Nat.le_refl _)
  unfold y1o at hR
  generalize z6p x.n.msgs (x.s.meet (z2f x.n.pivots j)) = ca at *
  generalize z6p x.ms (x.s.meet (z2f x.n.pivots j)) = cb at *
  generalize z1h ca cb = mm at *
  generalize x.s.meet (z2f x.n.pivots j) = ns at *
  generalize z2f x.n.pivots j = rg at *
  generalize (z3w l kd).1 = kid at *
  generalize (z3w l kd).2 = is at *
  cases is
  ·rw [if_neg (by simp)] at hR
   subst hR
   (repeat (first | simp (maxSteps:=9^7) only [go_sem,Seat.a,t0,t8,h27,t9,t10,h10,t11,hltI,hgj,List.length_map,Int.toNat_natCast,hwl] | refine z01 (cf) ?_ | refine z00 (cf) ?_ | refine And.intro (by omega) ?_ | refine And.intro (fun d hd=>by (repeat (rcases hd with rfl | hd; · exact ⟨rfl,rfl⟩)); cases hd) ?_))
   refine hRet _ rfl ⟨?_,?_,?_⟩
   iterate 3 focus ((simp (maxSteps:=9^7) only [go_sem,Seat.a,t8,List.append_nil,h27]) <;> rfl)
  by_cases hv:kid.level = x.n.level - 1
  case neg =>
   have hv':(kid.level != x.n.level - 1) = true:=by simp [hv]
   rw [if_neg (fun h=>hv h.2)] at hR
   subst hR
   (repeat (first | simp (maxSteps:=9^7) only [go_sem,Seat.a,t0,t8,h27,t9,t10,h10,t11,hltI,hgj,List.length_map,Int.toNat_natCast,hwl,hv'] | refine z01 (cf) ?_ | refine z00 (cf) ?_ | refine And.intro (by omega) ?_ | refine And.intro (fun d hd=>by (repeat (rcases hd with rfl | hd; · exact ⟨rfl,rfl⟩)); cases hd) ?_))
   refine hRet _ rfl ⟨?_,?_,?_⟩
   iterate 3 focus ((simp (maxSteps:=9^7) only [go_sem,Seat.a,t8,List.append_nil,h27]) <;> rfl)
  have hv':(kid.level != x.n.level - 1) = false:=by simp [hv]
  rw [if_pos ⟨rfl,hv⟩] at hR
  have hlo:(out ++ done).length≤110000:=by rw [List.length_append]; have:=hlt.nkid; omega
  have hoa:(out ++ (done ++ [(⟨kid,ns,mm⟩:Seat)])) = (out ++ done) ++ [(⟨kid,ns,mm⟩:Seat)]:=by rw [List.append_assoc]
  have hR':((done ++ [(⟨kid,ns,mm⟩:Seat)]) ++ (z14 l x (j + 1) (x.n.kids.drop (j + 1))).1,(z14 l x (j + 1) (x.n.kids.drop (j + 1))).2) = R:=by rw [List.append_assoc]; exact hR
  have hta:=ht (out ++ done)
  have hca:=htm ca
  have hcb:=htm cb
  have hmm:=htm mm
  clear ht htm hR
  generalize hod:out ++ done = od at *
  (repeat (first | simp (maxSteps:=9^7) only [go_sem,Seat.a,t0,t8,h27,t9,t10,h10,t11,hltI,hgj,List.length_map,Int.toNat_natCast,hwl,hv',hw,hta,hca,hcb,hmm] | refine z01 (cf) ?_ | refine z00 (cf) ?_ | refine z01 (cr) ?_ | refine z00 (cr) ?_ | refine z01 (cm) ?_ | refine z00 (cm) ?_ | refine z01 (c1) ?_ | refine z00 (c1) ?_ | refine z01 (c2) ?_ | refine z00 (c2) ?_ | refine z01 (c3) ?_ | refine z00 (c3) ?_ | refine And.intro (by omega) ?_ | refine And.intro (fun d hd=>by (repeat (rcases hd with rfl | hd; · exact ⟨rfl,rfl⟩)); cases hd) ?_ | refine And.intro (And.intro (by omega) (fun d hd=>by (repeat (rcases hd with rfl | hd; · exact ⟨rfl,rfl⟩)); cases hd)) ?_))
  refine ⟨x.n.kids.length - (j + 1),by omega,j + 1,done ++ [⟨kid,ns,mm⟩],by omega,rfl,by simp; omega,?_,?_,?_,?_,?_,?_,?_,hR'⟩
  ·simp (maxSteps:=9^7) only [go_sem,Seat.a,t0]
  ·rw [hoa]
   simp (maxSteps:=9^7) only [go_sem,Seat.a,List.length_append,List.length_cons,List.length_nil]
  ·rw [hoa]
   simp (maxSteps:=9^7) only [go_sem,Seat.a,List.map_append,List.map_cons,List.map_nil,hta]
  iterate 4 focus ((simp (maxSteps:=9^7) only [go_sem,Seat.a,t9,t10,h10,hw]) <;> rfl)
 ·have hltI:¬ (j:Int) < (x.n.kids.length:Int):=by omega
  rw [List.drop_eq_nil_of_le (by omega),z14,List.append_nil] at hR
  subst hR
  simp (maxSteps:=9^7) only [go_sem,Seat.a,t0,t8,h27,t9,t10,h10,t11,hltI,List.length_map]
  refine hEnd _ rfl ⟨?_,?_,?_,?_⟩
  iterate 4 focus ((simp (maxSteps:=9^7) only [go_sem,Seat.a,t0,t8,h27,t9]) <;> rfl)
theorem SeatOk.mono {x:Seat} {b c:Nat} (h:SeatOk x b) (hb:b≤c):SeatOk x c:=⟨h.lt,h.s,h.ms,Nat.le_trans h.nms hb⟩
theorem z90 {l:List Nd} {x:Seat} {b:Nat} (hn:∀ n,n ∈ l->n.Lt) (h:SeatOk x b):∀ (ks:List Int) (j:Nat),(z14 l x j ks).1.length≤ks.length∧∀ y,y ∈ (z14 l x j ks).1->SeatOk y (b + 2000)
 | [],j=>⟨Nat.le_refl _,fun y hy=>by cases hy⟩
 | k :: ks,j=>by
  rw [z14]
  split
  ·obtain ⟨r1,r2⟩:=z90 hn h ks (j + 1)
   refine ⟨Nat.succ_le_succ r1,fun y hy=>?_⟩
   rcases List.mem_cons.1 hy with rfl | hy
   ·exact kidSeat_ok h j (zdq hn k)
   ·exact r2 y hy
  ·exact ⟨Nat.zero_le _,fun y hy=>by cases hy⟩
def z8n (out:List Seat):Prop:=∀ (i:Nat) (x:Seat),out[i]? = some x->SeatOk x (2000 * i)
theorem zg3 {l:List Nd} {out:List Seat} {x:Seat} {i:Nat} (hn:∀ n,n ∈ l->n.Lt) (h:z8n out) (hx:out[i]? = some x) (ks:List Int):z8n (out ++ (z14 l x 0 ks).1):=by
 intro k y hy
 rcases Nat.lt_or_ge k out.length with hk | hk
 ·rw [List.getElem?_append_left hk] at hy
  exact h k y hy
 ·rw [List.getElem?_append_right hk] at hy
  have hi:=(List.getElem?_eq_some_iff.1 hx).1
  exact ((z90 hn (h i x hx) ks 0).2 y (List.mem_of_getElem? hy)).mono (by omega)
def stInv (l:List Nd) (R:List Seat × Bool) (k:Nat) (σ:St):Prop :=
 ∃ (i:Nat) (out:List Seat),i≤l.length∧k = l.length + 1 - i∧stEnd l i out σ∧z2s l (l.length + 1 - i) out i = R∧z8n out∧out.length≤10000
set_option maxHeartbeats 4000000 in
theorem seats_ok (l:List Nd) (root:Int) (hl:l.length≤200) (hn:∀ n,n ∈ l->n.Lt):AFn Tryz.prog 40 [.sl (l.map Nd.a),.int .i64 root] (.tup [.sl ((z3r l root).1.map Seat.a),.bool (z3r l root).2]):=by
 refine fn_seats rfl ?_
 have cf:=y1x l root (by omega)
 have fl:=zdq hn root
 have ht:∀ o:List Seat,List.take o.length (o.map Seat.a) = o.map Seat.a:=fun o=>List.take_of_length_le (by rw [List.length_map]; exact Nat.le_refl _)
 unfold z3r
 generalize (z3w l root).1 = nd at *
 generalize (z3w l root).2 = is at *
 cases is
 ·rw [if_neg (by simp)]
  (repeat (first | simp (maxSteps:=9^7) only [go_sem,Seat.a] | refine z01 (cf) ?_ | refine z00 (cf) ?_ | refine And.intro (by omega) ?_ | refine And.intro (fun d hd=>by (repeat (rcases hd with rfl | hd; · exact ⟨rfl,rfl⟩)); cases hd) ?_))
  all_goals first | rfl | exact ⟨rfl,rfl⟩
 rw [if_pos rfl]
 have h0:z8n [(⟨nd,⟨nul0,nul0,true⟩,[]⟩:Seat)]:=by
  intro i x hx
  cases i with
  | zero=>cases hx; exact ⟨fl,⟨Nat.zero_le _,Nat.zero_le _⟩,fun m hm=>(by cases hm),Nat.zero_le _⟩
  | succ i=>simp at hx
 obtain ⟨R,hR⟩:∃ R,z2s l (l.length + 1) [(⟨nd,⟨nul0,nul0,true⟩,[]⟩:Seat)] 0 = R:=⟨_,rfl⟩
 rw [hR]
 (repeat (first | simp (maxSteps:=9^7) only [go_sem,Seat.a] | refine z01 (cf) ?_ | refine z00 (cf) ?_ | refine And.intro (by omega) ?_ | refine And.intro (fun d hd=>by (repeat (rcases hd with rfl | hd; · exact ⟨rfl,rfl⟩)); cases hd) ?_))
 refine z06 (stInv l R) (k:=l.length + 1) ⟨0,[⟨nd,⟨nul0,nul0,true⟩,[]⟩],by omega,rfl,⟨?_,?_,?_,?_⟩,hR,h0,by simp⟩ ?_
 iterate 4 focus ((simp (maxSteps:=9^7) only [go_sem,Seat.a]) <;> rfl)
 clear hR h0
 rintro k σ ⟨i,out,hi,rfl,⟨t0,t8,h27,t9⟩,hR,hok,hlen⟩
 simp only [zgg]
 obtain ⟨f,hf⟩:∃ f,l.length + 1 - i = f + 1:=⟨l.length - i,by omega⟩
 rw [hf,z2s] at hR
 have hta:=ht out
 by_cases hlt:i < out.length
 case neg =>
  have hlt':¬ (i:Int) < (out.length:Int):=by omega
  rw [List.getElem?_eq_none (by omega)] at hR
  subst hR
  simp (maxSteps:=9^7) only [go_sem,Seat.a,t0,t8,h27,t9,hlt',hta]
 have hlt':(i:Int) < (out.length:Int):=by omega
 obtain ⟨x,hx⟩:=z0f hlt
 have xok:=hok i x hx
 rw [hx] at hR
 simp only at hR
 have hgx:=z0k (f:=Seat.a) hx
 have hgx':(out.map Seat.a)[i]? = some x.a:=by rw [List.getElem?_map,hx]; rfl
 simp only [Seat.a] at hgx' hgx
 have hw:=z1a (j:=i) (by omega)
 by_cases hbig:l.length < out.length
 ·have hbig':(l.length:Int) < (out.length:Int):=by omega
  rw [if_pos hbig] at hR
  subst hR
  simp (maxSteps:=9^7) only [go_sem,Seat.a,t0,t8,h27,t9,hlt',hta,hgx,hgx',hbig',List.length_map,Int.toNat_natCast,Nat.zero_add]
  all_goals omega
 have hbig':¬ (l.length:Int) < (out.length:Int):=by omega
 rw [if_neg hbig] at hR
 by_cases hz:x.n.level = 0
 ·have hz':(x.n.level == 0) = true:=by simp [hz]
  rw [if_pos hz] at hR
  simp (maxSteps:=9^7) only [go_sem,Seat.a,t0,t8,h27,t9,hlt',hta,hgx,hgx',hbig',hz',hw,List.length_map,Int.toNat_natCast,Nat.zero_add]
  (repeat refine And.intro (by omega) ?_)
  refine ⟨l.length + 1 - (i + 1),by omega,i + 1,out,by omega,rfl,⟨?_,?_,?_,?_⟩,by rw [show l.length + 1 - (i + 1) = f by omega]; exact hR,hok,hlen⟩
  iterate 4 focus ((simp (maxSteps:=9^7) only [go_sem,Seat.a,t0,t8,h27,hw]) <;> rfl)
 have hz':(x.n.level == 0) = false:=by simp [hz]
 rw [if_neg hz] at hR
 have ck:=zl1 x.n.pivots x.n.kids (by have:=xok.lt.npiv; omega) (fun y hy=>by have:=xok.lt.piv y hy; omega)
 by_cases hneg:x.n.level < 0
 ·rw [if_pos (.inl hneg)] at hR
  subst hR
  (repeat (first | simp (maxSteps:=9^7) only [go_sem,Seat.a,t0,t8,h27,t9,hlt',hta,hgx,hgx',hbig',hz',hneg,List.length_map,Int.toNat_natCast,Nat.zero_add] | refine z01 (ck) ?_ | refine z00 (ck) ?_ | refine And.intro (by omega) ?_ | refine And.intro (fun d hd=>by (repeat (rcases hd with rfl | hd; · exact ⟨rfl,rfl⟩)); cases hd) ?_))
  all_goals omega
 cases hrk:zcm x.n.pivots x.n.kids
 ·rw [if_pos (.inr hrk)] at hR
  subst hR
  rw [hrk] at ck
  (repeat (first | simp (maxSteps:=9^7) only [go_sem,Seat.a,t0,t8,h27,t9,hlt',hta,hgx,hgx',hbig',hz',hneg,List.length_map,Int.toNat_natCast,Nat.zero_add] | refine z01 (ck) ?_ | refine z00 (ck) ?_ | refine And.intro (by omega) ?_ | refine And.intro (fun d hd=>by (repeat (rcases hd with rfl | hd; · exact ⟨rfl,rfl⟩)); cases hd) ?_))
  all_goals omega
 rw [if_neg (by rintro (h | h); exact hneg h; rw [hrk] at h; cases h)] at hR
 rw [hrk] at ck
 have hkl:x.n.kids.length = x.n.pivots.length + 1:=by
  unfold zcm at hrk
  rw [Bool.and_eq_true,decide_eq_true_eq] at hrk
  exact hrk.2
 (repeat (first | simp (maxSteps:=9^7) only [go_sem,Seat.a,t0,t8,h27,t9,hlt',hta,hgx,hgx',hbig',hz',hneg,List.length_map,Int.toNat_natCast,Nat.zero_add] | refine z01 (ck) ?_ | refine z00 (ck) ?_ | refine And.intro (by omega) ?_ | refine And.intro (fun d hd=>by (repeat (rcases hd with rfl | hd; · exact ⟨rfl,rfl⟩)); cases hd) ?_))
 have hkg:=z90 hn xok x.n.kids 0
 have hap:=zg3 hn hok hx x.n.kids
 have hta2:=ht (out ++ (z14 l x 0 x.n.kids).1)
 have hnk:=xok.lt.nkid
 refine z06 (kdInv l x i out (z14 l x 0 x.n.kids)) (k:=x.n.kids.length) ⟨0,[],by omega,rfl,rfl,?_,?_,?_,?_,?_,?_,?_,rfl⟩ (kids_step _ l x (2000 * i) i out (z14 l x 0 x.n.kids) (by omega) hn xok (by omega) (by omega) hkl (by omega) ?_ ?_)
 iterate 7 focus ((simp (maxSteps:=9^7) only [go_sem,Seat.a,t0,t8,List.append_nil,h27,t9]) <;> rfl)
 ·rintro σ h2 ⟨t0,t8,h27,t9⟩
  rw [if_pos h2] at hR
  generalize hoo:out ++ (z14 l x 0 x.n.kids).1 = oo at *
  have hol:oo.length≤10000:=by rw [← hoo,List.length_append]; omega
  simp (maxSteps:=9^7) only [go_sem,Seat.a,t0,t8,h27,t9,hw]
  refine ⟨l.length + 1 - (i + 1),by omega,i + 1,oo,by omega,rfl,⟨?_,?_,?_,?_⟩,by rw [show l.length + 1 - (i + 1) = f by omega]; exact hR,hap,hol⟩
  iterate 4 focus ((simp (maxSteps:=9^7) only [go_sem,Seat.a,t0,t8,h27,hw]) <;> rfl)
 ·rintro σ h2 ⟨t4,h27,t5⟩
  rw [if_neg (by rw [h2]; simp)] at hR
  subst hR
  simp (maxSteps:=9^7) only [go_sem,Seat.a,t4,h27,t5,hta2]
end
end Go.Proofs.YtlhblpbfhfhlpaaGreat
