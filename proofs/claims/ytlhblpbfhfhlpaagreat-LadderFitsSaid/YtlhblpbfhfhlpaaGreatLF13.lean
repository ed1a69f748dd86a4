/-
  Part 13 of a proof: TeE, TeF.
-/
import Derived.Test.YtlhblpbfhfhlpaaGreatLF12
set_option linter.unusedVariables false
set_option linter.unusedSimpArgs false
set_option maxRecDepth 100000
attribute [local go_sem] reduceCtorEq Nat.reduceEqDiff Nat.reduceBEq Nat.reduceAdd Nat.reduceSub Nat.reduceMul Nat.reduceLT Nat.reduceLeDiff Nat.reduceBNe Int.reduceBEq Int.reduceBNe Int.reduceLT Int.reduceLE
attribute [local go_sem ↓] reduceIte
namespace Go.Proofs.YtlhblpbfhfhlpaaGreat
attribute [local go_sem] Spn.a Msg.a Par.a Nd.a Seat.a Cfg.a
section
open Go.RowKit
attribute [local go_sem ↓] z18 z0h
def z7t:List ROp:=[⟨.box 5 23 (.t 0),some 2,none,[3],[]⟩,⟨.box 10 45 (.t 1),some 3,none,[],[]⟩,⟨.mv (.c (.bool false)),some 4,none,[],[]⟩]
def zij:Reg:=⟨[],z7t,[2,3],[],false⟩
def z7s:List ROp:=[⟨.bin .gtr (.t 44) (.t 46),some 47,(some (41,false)),[],[]⟩,⟨.pick (.t 41) (.c (.bool true)) (.t 47),some 48,none,[],[]⟩]
def z8h:List ROp:=[⟨.faddr 9 (.t 3),some 9,none,[32,38,44],[]⟩,⟨.load 1 false (.t 9),some 10,none,[32,38,44],[]⟩,⟨.len false (.t 10),some 11,none,[32,38,44],[]⟩,⟨.bin .gtr (.t 11) (.c (.int .i64 0)),some 12,none,[32,38,44],[]⟩,⟨.mv (.t 12),some 13,none,[32,38,44],[]⟩,⟨.faddr 3 (.t 3),some 14,(some (13,false)),[32,38,44],[]⟩,⟨.load 1 false (.t 14),some 15,(some (13,false)),[32,38,44],[]⟩,⟨.len false (.t 15),some 16,(some (13,false)),[32,38,44],[]⟩,⟨.bin .lss (.t 16) (.c (.int .i64 2)),some 17,(some (13,false)),[32,38,44],[]⟩,⟨.pick (.t 13) (.c (.bool true)) (.t 17),some 18,none,[32,38,44],[]⟩,⟨.mv (.t 18),some 19,none,[32,38,44],[]⟩,⟨.faddr 3 (.t 3),some 20,(some (19,false)),[32,38,44],[]⟩,⟨.load 1 false (.t 20),some 21,(some (19,false)),[32,38,44],[]⟩,⟨.len false (.t 21),some 22,(some (19,false)),[32,38,44],[]⟩,⟨.faddr 0 (.t 2),some 23,(some (19,false)),[32,38,44],[]⟩,⟨.load 1 false (.t 23),some 24,(some (19,false)),[32,38,44],[]⟩,⟨.bin .gtr (.t 22) (.t 24),some 25,(some (19,false)),[32,38,44],[]⟩,⟨.pick (.t 19) (.c (.bool true)) (.t 25),some 26,none,[32,38,44],[]⟩,⟨.mv (.t 26),some 27,none,[32,38,44],[]⟩,⟨.faddr 2 (.t 3),some 28,(some (27,false)),[32,38,44],[]⟩,⟨.load 1 false (.t 28),some 29,(some (27,false)),[32,38,44],[]⟩,⟨.faddr 3 (.t 3),some 30,(some (27,false)),[32,38,44],[]⟩,⟨.load 1 false (.t 30),some 31,(some (27,false)),[32,38,44],[]⟩,⟨.callv (.c (.clo 58 [] [])) [(.t 29),(.t 31)],some 32,(some (27,false)),[38,44],[]⟩,⟨.un .not (.t 32),some 33,(some (27,false)),[38,44],[]⟩,⟨.pick (.t 27) (.c (.bool true)) (.t 33),some 34,none,[38,44],[]⟩,⟨.mv (.t 34),some 35,none,[38,44],[]⟩,⟨.faddr 8 (.t 3),some 36,(some (35,false)),[38,44],[]⟩,⟨.load 1 false (.t 36),some 37,(some (35,false)),[38,44],[]⟩,⟨.callv (.c (.clo 94 [] [])) [(.t 37)],some 38,(some (35,false)),[44],[]⟩,⟨.un .not (.t 38),some 39,(some (35,false)),[44],[]⟩,⟨.pick (.t 35) (.c (.bool true)) (.t 39),some 40,none,[44],[]⟩,⟨.mv (.t 40),some 41,none,[44],[]⟩,⟨.faddr 8 (.t 3),some 42,(some (41,false)),[44],[]⟩,⟨.load 1 false (.t 42),some 43,(some (41,false)),[44],[]⟩,⟨.callv (.c (.clo 95 [] [])) [(.t 43)],some 44,(some (41,false)),[],[]⟩,⟨.faddr 2 (.t 2),some 45,(some (41,false)),[44],[]⟩,⟨.load 1 false (.t 45),some 46,(some (41,false)),[44],[]⟩]
def zii:Reg:=⟨z8h,z7s,[32,38,44],[],true⟩
def zih:Reg:=⟨[],[⟨.mv (.c (.bool false)),some 4,none,[],[]⟩],[],[],false⟩
def zig:Reg:=⟨[],[⟨.mv (.c (.int .i64 0)),some 5,none,[],[]⟩],[],[],false⟩
def z7r:List ROp:=[⟨.mv (.t 5),some 49,none,[],[]⟩,⟨.faddr 3 (.t 3),some 50,none,[],[]⟩,⟨.load 1 false (.t 50),some 51,none,[],[]⟩,⟨.len false (.t 51),some 52,none,[],[]⟩,⟨.bin .lss (.t 49) (.t 52),some 53,none,[],[]⟩]
def zif:Reg:=⟨[],z7r,[],[],false⟩
def z7q:List ROp:=[⟨.faddr 3 (.t 3),some 56,none,[],[]⟩,⟨.load 1 false (.t 56),some 57,none,[],[]⟩,⟨.mv (.t 5),some 58,none,[],[]⟩,⟨.iaddr 1 (.t 57) (.t 58),some 59,none,[],[]⟩,⟨.load 1 false (.t 59),some 60,none,[],[]⟩,⟨.bin .lss (.t 60) (.c (.int .i64 0)),some 61,none,[],[]⟩]
def zie:Reg:=⟨[],z7q,[],[],false⟩
def zid:Reg:=⟨[],[⟨.mv (.c (.bool false)),some 4,none,[],[]⟩],[],[],false⟩
def z7p:List ROp:=[⟨.mv (.t 5),some 54,none,[],[]⟩,⟨.bin .add (.t 54) (.c (.int .i64 1)),some 55,none,[],[]⟩,⟨.mv (.t 55),some 5,none,[],[]⟩]
def zic:Reg:=⟨[],z7p,[],[],false⟩
def z5u:IR:=(.seq (.seq (.reg zif)
 (.cond (.t 53) .skip
 (.exit 0)))
 (.seq (.block 1 (.seq (.reg zie)
 (.cond (.t 61) (.seq (.reg zid)
 .ret)
 .skip)))
 (.reg zic)))
def zib:Reg:=⟨[],[⟨.mv (.c (.int .i64 0)),some 6,none,[],[]⟩],[],[],false⟩
def z5m:List ROp:=[⟨.mv (.t 6),some 62,none,[],[]⟩,⟨.faddr 2 (.t 3),some 63,none,[],[]⟩,⟨.load 1 false (.t 63),some 64,none,[],[]⟩,⟨.len false (.t 64),some 65,none,[],[]⟩,⟨.bin .lss (.t 62) (.t 65),some 66,none,[],[]⟩]
def zd1:Reg:=⟨[],z5m,[],[],false⟩
def z5l:List ROp:=[⟨.callv (.c (.clo 93 [] [])) [(.t 85),(.t 90)],some 91,(some (84,false)),[],[]⟩,⟨.un .not (.t 91),some 92,(some (84,false)),[],[]⟩,⟨.pick (.t 84) (.c (.bool true)) (.t 92),some 93,none,[],[]⟩]
def z62:List ROp:=[⟨.faddr 2 (.t 3),some 69,none,[91],[]⟩,⟨.load 1 false (.t 69),some 70,none,[91],[]⟩,⟨.mv (.t 6),some 71,none,[91],[]⟩,⟨.iaddr 1 (.t 70) (.t 71),some 72,none,[91],[]⟩,⟨.load 1 false (.t 72),some 73,none,[91],[]⟩,⟨.bin .eql (.t 73) (.c (.str ⟨#[]⟩)),some 74,none,[91],[]⟩,⟨.mv (.t 74),some 75,none,[91],[]⟩,⟨.faddr 2 (.t 3),some 76,(some (75,false)),[91],[]⟩,⟨.load 1 false (.t 76),some 77,(some (75,false)),[91],[]⟩,⟨.mv (.t 6),some 78,(some (75,false)),[91],[]⟩,⟨.iaddr 1 (.t 77) (.t 78),some 79,(some (75,false)),[91],[]⟩,⟨.load 1 false (.t 79),some 80,(some (75,false)),[91],[]⟩,⟨.len true (.t 80),some 81,(some (75,false)),[91],[]⟩,⟨.bin .gtr (.t 81) (.c (.int .i64 16)),some 82,(some (75,false)),[91],[]⟩,⟨.pick (.t 75) (.c (.bool true)) (.t 82),some 83,none,[91],[]⟩,⟨.mv (.t 83),some 84,none,[91],[]⟩,⟨.load 10 true (.t 3),some 85,(some (84,false)),[91],[]⟩,⟨.faddr 2 (.t 3),some 86,(some (84,false)),[91],[]⟩,⟨.load 1 false (.t 86),some 87,(some (84,false)),[91],[]⟩,⟨.mv (.t 6),some 88,(some (84,false)),[91],[]⟩,⟨.iaddr 1 (.t 87) (.t 88),some 89,(some (84,false)),[91],[]⟩,⟨.load 1 false (.t 89),some 90,(some (84,false)),[91],[]⟩]
def zd0:Reg:=⟨z62,z5l,[91],[],true⟩
def zcz:Reg:=⟨[],[⟨.mv (.c (.bool false)),some 4,none,[],[]⟩],[],[],false⟩
def z5k:List ROp:=[⟨.mv (.t 6),some 67,none,[],[]⟩,⟨.bin .add (.t 67) (.c (.int .i64 1)),some 68,none,[],[]⟩,⟨.mv (.t 68),some 6,none,[],[]⟩]
def zcy:Reg:=⟨[],z5k,[],[],false⟩
def z4z:IR:=(.seq (.seq (.reg zd1)
 (.cond (.t 66) .skip
 (.exit 2)))
 (.seq (.block 3 (.seq (.reg zd0)
 (.cond (.t 93) (.seq (.reg zcz)
 .ret)
 .skip)))
 (.reg zcy)))
def zcx:Reg:=⟨[],[⟨.mv (.c (.int .i64 0)),some 7,none,[],[]⟩],[],[],false⟩
def z5j:List ROp:=[⟨.mv (.t 7),some 94,none,[],[]⟩,⟨.faddr 8 (.t 3),some 95,none,[],[]⟩,⟨.load 1 false (.t 95),some 96,none,[],[]⟩,⟨.len false (.t 96),some 97,none,[],[]⟩,⟨.bin .lss (.t 94) (.t 97),some 98,none,[],[]⟩]
def zcw:Reg:=⟨[],z5j,[],[],false⟩
def z5i:List ROp:=[⟨.faddr 8 (.t 3),some 101,none,[106,8],[]⟩,⟨.load 1 false (.t 101),some 102,none,[106,8],[]⟩,⟨.mv (.t 7),some 103,none,[106,8],[]⟩,⟨.iaddr 6 (.t 102) (.t 103),some 104,none,[106,8],[]⟩,⟨.load 6 true (.t 104),some 105,none,[106,8],[]⟩,⟨.callv (.c (.clo 66 [] [])) [(.t 105)],some 106,none,[8],[]⟩,⟨.alloc 3 81 (.agg [(.str ⟨#[]⟩),(.str ⟨#[]⟩),(.bool false)]),some 8,none,[],[]⟩,⟨.store 3 (.t 8) (.t 106),none,none,[],[]⟩]
def zcv:Reg:=⟨[],z5i,[106,8],[],false⟩
def z5h:List ROp:=[⟨.callv (.c (.clo 90 [] [])) [(.t 125),(.t 127)],some 128,(some (123,false)),[],[]⟩,⟨.pick (.t 123) (.c (.bool true)) (.t 128),some 129,(some (120,true)),[],[]⟩,⟨.pick (.t 120) (.t 129) (.c (.bool false)),some 130,(some (116,false)),[],[]⟩,⟨.pick (.t 116) (.c (.bool true)) (.t 130),some 131,none,[],[]⟩]
def z61:List ROp:=[⟨.faddr 8 (.t 3),some 107,none,[128],[]⟩,⟨.load 1 false (.t 107),some 108,none,[128],[]⟩,⟨.mv (.t 7),some 109,none,[128],[]⟩,⟨.iaddr 6 (.t 108) (.t 109),some 110,none,[128],[]⟩,⟨.faddr 0 (.t 110),some 111,none,[128],[]⟩,⟨.load 1 false (.t 111),some 112,none,[128],[]⟩,⟨.faddr 7 (.t 3),some 113,none,[128],[]⟩,⟨.load 1 false (.t 113),some 114,none,[128],[]⟩,⟨.bin .gtr (.t 112) (.t 114),some 115,none,[128],[]⟩,⟨.mv (.t 115),some 116,none,[128],[]⟩,⟨.faddr 5 (.t 3),some 117,(some (116,false)),[128],[]⟩,⟨.load 1 false (.t 117),some 118,(some (116,false)),[128],[]⟩,⟨.un .not (.t 118),some 119,(some (116,false)),[128],[]⟩,⟨.mv (.t 119),some 120,(some (116,false)),[128],[]⟩,⟨.faddr 2 (.t 8),some 121,(some (120,true)),[128],[]⟩,⟨.load 1 false (.t 121),some 122,(some (120,true)),[128],[]⟩,⟨.mv (.t 122),some 123,(some (120,true)),[128],[]⟩,⟨.faddr 4 (.t 3),some 124,(some (123,false)),[128],[]⟩,⟨.load 1 false (.t 124),some 125,(some (123,false)),[128],[]⟩,⟨.faddr 1 (.t 8),some 126,(some (123,false)),[128],[]⟩,⟨.load 1 false (.t 126),some 127,(some (123,false)),[128],[]⟩]
def zcu:Reg:=⟨z61,z5h,[128],[],true⟩
def zct:Reg:=⟨[],[⟨.mv (.c (.bool false)),some 4,none,[],[]⟩],[],[],false⟩
def z5g:List ROp:=[⟨.mv (.t 7),some 99,none,[],[]⟩,⟨.bin .add (.t 99) (.c (.int .i64 1)),some 100,none,[],[]⟩,⟨.mv (.t 100),some 7,none,[],[]⟩]
def zcs:Reg:=⟨[],z5g,[],[],false⟩
def z4y:IR:=(.seq (.seq (.reg zcw)
 (.cond (.t 98) .skip
 (.exit 4)))
 (.seq (.block 5 (.seq (.reg zcv)
 (.seq (.reg zcu)
 (.cond (.t 131) (.seq (.reg zct)
 .ret)
 .skip))))
 (.reg zcs)))
def zcr:Reg:=⟨[],[⟨.mv (.c (.bool true)),some 4,none,[],[]⟩],[],[],false⟩
def zpr:IR:=(.seq (.reg zij)
 (.seq (.seq (.reg zii)
 (.cond (.t 48) (.seq (.reg zih)
 .ret)
 .skip))
 (.seq (.seq (.reg zig)
 (.block 0 (.loop z5u)))
 (.seq (.seq (.reg zib)
 (.block 2 (.loop z4z)))
 (.seq (.seq (.reg zcx)
 (.block 4 (.loop z4y)))
 (.seq (.reg zcr)
 .ret))))))
def zgb:List RDesc:=[(.tmp 4)]
theorem y3l:EqR zij z7t [2,3]:=fun _ _ _=>rfl
theorem y3k (C:FuncId->List AV->AV->Prop) (σ:St) (K:St->Prop):z0l C zii σ K = z08 C [] z7s z8h (σ.kills [32,38,44]) K:=rfl
theorem y3j:EqR zih [⟨.mv (.c (.bool false)),some 4,none,[],[]⟩] []:=fun _ _ _=>rfl
theorem y3i:EqR zig [⟨.mv (.c (.int .i64 0)),some 5,none,[],[]⟩] []:=fun _ _ _=>rfl
theorem y3h:EqR zif z7r []:=fun _ _ _=>rfl
theorem y3g:EqR zie z7q []:=fun _ _ _=>rfl
theorem y3f:EqR zid [⟨.mv (.c (.bool false)),some 4,none,[],[]⟩] []:=fun _ _ _=>rfl
theorem y3e:EqR zic z7p []:=fun _ _ _=>rfl
theorem y3d:EqR zib [⟨.mv (.c (.int .i64 0)),some 6,none,[],[]⟩] []:=fun _ _ _=>rfl
theorem zz1:EqR zd1 z5m []:=fun _ _ _=>rfl
theorem zz0 (C:FuncId->List AV->AV->Prop) (σ:St) (K:St->Prop):z0l C zd0 σ K = z08 C [] z5l z62 (σ.kills [91]) K:=rfl
theorem zyz:EqR zcz [⟨.mv (.c (.bool false)),some 4,none,[],[]⟩] []:=fun _ _ _=>rfl
theorem zyy:EqR zcy z5k []:=fun _ _ _=>rfl
theorem zyx:EqR zcx [⟨.mv (.c (.int .i64 0)),some 7,none,[],[]⟩] []:=fun _ _ _=>rfl
theorem zyw:EqR zcw z5j []:=fun _ _ _=>rfl
theorem zyv:EqR zcv z5i [106,8]:=fun _ _ _=>rfl
theorem zyu (C:FuncId->List AV->AV->Prop) (σ:St) (K:St->Prop):z0l C zcu σ K = z08 C [] z5h z61 (σ.kills [128]) K:=rfl
theorem zyt:EqR zct [⟨.mv (.c (.bool false)),some 4,none,[],[]⟩] []:=fun _ _ _=>rfl
theorem zys:EqR zcs z5g []:=fun _ _ _=>rfl
theorem zyr:EqR zcr [⟨.mv (.c (.bool true)),some 4,none,[],[]⟩] []:=fun _ _ _=>rfl
theorem fn_inner21 {args:List AV} {r:AV} (ha:args.length.ble Tryz.f64.ntmps = true) (h:run (AFn Tryz.prog) zpr (endQ zgb r) (z0b args)):AFn Tryz.prog 64 args r :=
 AFn.of_code (pv:=false) (hint:=fun _=>[]) (c:=Tryz.f64.body.getD .skip) (by kernel_rfl) (by kernel_rfl) Tryz.func64 (by kernel_rfl) (by kernel_rfl) (by kernel_rfl) (of_decide_eq_true (by kernel_rfl)) (Nat.le_of_ble_eq_true ha) (Nat.le_of_ble_eq_true (by kernel_rfl)) (z09 h)
def z4u:List ROp:=[⟨.box 5 23 (.t 0),some 2,none,[3],[]⟩,⟨.box 10 45 (.t 1),some 3,none,[],[]⟩,⟨.mv (.c (.bool false)),some 4,none,[],[]⟩]
def zgq:Reg:=⟨[],z4u,[2,3],[],false⟩
def z4t:List ROp:=[⟨.faddr 0 (.t 3),some 5,none,[],[]⟩,⟨.load 1 false (.t 5),some 6,none,[],[]⟩,⟨.bin .lss (.t 6) (.c (.int .i64 0)),some 7,none,[],[]⟩,⟨.mv (.t 7),some 8,none,[],[]⟩,⟨.faddr 1 (.t 3),some 9,(some (8,false)),[],[]⟩,⟨.load 1 false (.t 9),some 10,(some (8,false)),[],[]⟩,⟨.bin .lss (.t 10) (.c (.int .i64 0)),some 11,(some (8,false)),[],[]⟩,⟨.pick (.t 8) (.c (.bool true)) (.t 11),some 12,none,[],[]⟩,⟨.mv (.t 12),some 13,none,[],[]⟩,⟨.faddr 7 (.t 3),some 14,(some (13,false)),[],[]⟩,⟨.load 1 false (.t 14),some 15,(some (13,false)),[],[]⟩,⟨.bin .lss (.t 15) (.c (.int .i64 0)),some 16,(some (13,false)),[],[]⟩,⟨.pick (.t 13) (.c (.bool true)) (.t 16),some 17,none,[],[]⟩,⟨.mv (.t 17),some 18,none,[],[]⟩,⟨.faddr 5 (.t 3),some 19,(some (18,false)),[],[]⟩,⟨.load 1 false (.t 19),some 20,(some (18,false)),[],[]⟩,⟨.mv (.t 20),some 21,(some (18,false)),[],[]⟩,⟨.faddr 4 (.t 3),some 22,(some (21,true)),[],[]⟩,⟨.load 1 false (.t 22),some 23,(some (21,true)),[],[]⟩,⟨.bin .neq (.t 23) (.c (.str ⟨#[]⟩)),some 24,(some (21,true)),[],[]⟩,⟨.mv (.t 24),some 25,(some (21,true)),[],[]⟩,⟨.faddr 6 (.t 3),some 26,(some (25,false)),[],[]⟩,⟨.load 1 false (.t 26),some 27,(some (25,false)),[],[]⟩,⟨.bin .neq (.t 27) (.c (.int .i64 (-1))),some 28,(some (25,false)),[],[]⟩,⟨.pick (.t 25) (.c (.bool true)) (.t 28),some 29,(some (21,true)),[],[]⟩,⟨.pick (.t 21) (.t 29) (.c (.bool false)),some 30,(some (18,false)),[],[]⟩,⟨.pick (.t 18) (.c (.bool true)) (.t 30),some 31,none,[],[]⟩]
def zgp:Reg:=⟨[],z4t,[],[],false⟩
def zgo:Reg:=⟨[],[⟨.mv (.c (.bool false)),some 4,none,[],[]⟩],[],[],false⟩
def z4s:List ROp:=[⟨.faddr 5 (.t 3),some 32,none,[],[]⟩,⟨.load 1 false (.t 32),some 33,none,[],[]⟩,⟨.un .not (.t 33),some 34,none,[],[]⟩,⟨.mv (.t 34),some 35,none,[],[]⟩,⟨.faddr 4 (.t 3),some 36,(some (35,true)),[],[]⟩,⟨.load 1 false (.t 36),some 37,(some (35,true)),[],[]⟩,⟨.bin .eql (.t 37) (.c (.str ⟨#[]⟩)),some 38,(some (35,true)),[],[]⟩,⟨.mv (.t 38),some 39,(some (35,true)),[],[]⟩,⟨.faddr 4 (.t 3),some 40,(some (39,false)),[],[]⟩,⟨.load 1 false (.t 40),some 41,(some (39,false)),[],[]⟩,⟨.len true (.t 41),some 42,(some (39,false)),[],[]⟩,⟨.bin .gtr (.t 42) (.c (.int .i64 16)),some 43,(some (39,false)),[],[]⟩,⟨.pick (.t 39) (.c (.bool true)) (.t 43),some 44,(some (35,true)),[],[]⟩,⟨.mv (.t 44),some 45,(some (35,true)),[],[]⟩,⟨.faddr 6 (.t 3),some 46,(some (45,false)),[],[]⟩,⟨.load 1 false (.t 46),some 47,(some (45,false)),[],[]⟩,⟨.bin .lss (.t 47) (.c (.int .i64 0)),some 48,(some (45,false)),[],[]⟩,⟨.pick (.t 45) (.c (.bool true)) (.t 48),some 49,(some (35,true)),[],[]⟩,⟨.pick (.t 35) (.t 49) (.c (.bool false)),some 50,none,[],[]⟩]
def zgn:Reg:=⟨[],z4s,[],[],false⟩
def zgm:Reg:=⟨[],[⟨.mv (.c (.bool false)),some 4,none,[],[]⟩],[],[],false⟩
def z4r:List ROp:=[⟨.faddr 1 (.t 3),some 51,none,[],[]⟩,⟨.load 1 false (.t 51),some 52,none,[],[]⟩,⟨.bin .eql (.t 52) (.c (.int .i64 0)),some 53,none,[],[]⟩]
def zgl:Reg:=⟨[],z4r,[],[],false⟩
def z4q:List ROp:=[⟨.load 5 true (.t 2),some 54,none,[56],[]⟩,⟨.load 10 true (.t 3),some 55,none,[56],[]⟩,⟨.callv (.c (.clo 63 [] [])) [(.t 54),(.t 55)],some 56,none,[],[]⟩,⟨.mv (.t 56),some 4,none,[],[]⟩]
def zgk:Reg:=⟨[],z4q,[56],[],false⟩
def z4p:List ROp:=[⟨.load 5 true (.t 2),some 57,none,[59],[]⟩,⟨.load 10 true (.t 3),some 58,none,[59],[]⟩,⟨.callv (.c (.clo 64 [] [])) [(.t 57),(.t 58)],some 59,none,[],[]⟩,⟨.mv (.t 59),some 4,none,[],[]⟩]
def zgj:Reg:=⟨[],z4p,[59],[],false⟩
def zbv:IR:=(.seq (.reg zgq)
 (.seq (.seq (.reg zgp)
 (.cond (.t 31) (.seq (.reg zgo)
 .ret)
 .skip))
 (.seq (.seq (.reg zgn)
 (.cond (.t 50) (.seq (.reg zgm)
 .ret)
 .skip))
 (.seq (.seq (.reg zgl)
 (.cond (.t 53) (.seq (.reg zgk)
 .ret)
 .skip))
 (.seq (.reg zgj)
 .ret)))))
def z80:List RDesc:=[(.tmp 4)]
theorem zk3:EqR zgq z4u [2,3]:=fun _ _ _=>rfl
theorem zk2:EqR zgp z4t []:=fun _ _ _=>rfl
theorem zk1:EqR zgo [⟨.mv (.c (.bool false)),some 4,none,[],[]⟩] []:=fun _ _ _=>rfl
theorem zk0:EqR zgn z4s []:=fun _ _ _=>rfl
theorem zjz:EqR zgm [⟨.mv (.c (.bool false)),some 4,none,[],[]⟩] []:=fun _ _ _=>rfl
theorem zjy:EqR zgl z4r []:=fun _ _ _=>rfl
theorem zjx:EqR zgk z4q [56]:=fun _ _ _=>rfl
theorem zjw:EqR zgj z4p [59]:=fun _ _ _=>rfl
theorem fn_right21 {args:List AV} {r:AV} (ha:args.length.ble Tryz.f43.ntmps = true) (h:run (AFn Tryz.prog) zbv (endQ z80 r) (z0b args)):AFn Tryz.prog 43 args r :=
 AFn.of_code (pv:=false) (hint:=fun _=>[]) (c:=Tryz.f43.body.getD .skip) (by kernel_rfl) (by kernel_rfl) Tryz.func43 (by kernel_rfl) (by kernel_rfl) (by kernel_rfl) (of_decide_eq_true (by kernel_rfl)) (Nat.le_of_ble_eq_true ha) (Nat.le_of_ble_eq_true (by kernel_rfl)) (z09 h)
attribute [local go_sem ↓] zpr
attribute [local go_sem] zgb y3l z7t y3k z7s z8h y3j y3i y3h z7r y3g z7q y3f y3e z7p y3d zz1 z5m zz0 z5l z62 zyz zyy z5k zyx zyw z5j zyv z5i zyu z5h z61 zyt zys z5g zyr
attribute [local go_sem ↓] zbv
attribute [local go_sem] z80 zk3 z4u zk2 z4t zk1 zk0 z4s zjz zjy z4r zjx z4q zjw z4p
def pvB (n:Nd) (p:ByteArray):Bool:=!(p.toList == (⟨#[]⟩:ByteArray).toList) && decide ((p.size:Int)≤16) && hasN n p
def msB (n:Nd) (m:Msg):Bool:=decide (m.stamp≤n.seen) && !(!n.top && (m.span.op || lt n.high m.span.hi))
def y7g (c:Cfg) (n:Nd):Bool:=decide (n.rows.length = 0) && decide (2≤n.kids.length) && decide ((n.kids.length:Int)≤c.fanout) && zcm n.pivots n.kids && z2b n.msgs && decide ((z38 n.msgs:Int)≤c.budget) && (n.kids.all (fun k=>decide (0≤k)) && n.pivots.all (pvB n) && n.msgs.all (msB n))
def z51 (n:Nd) (t:Nat) (len:Nat) (A:Nat->Bool) (R:Bool) (k:Nat) (σ:St):Prop :=
 ∃ i:Nat,i≤len∧k = len - i∧σ.T 3 = .ptr 3 0 0∧σ.H 3 = some ⟨10,45,[n.a],0⟩∧σ.T t = .int .i64 i∧A i = R
theorem kids_loop (n:Nd) (hn:n.kids.length≤2000) (R:Bool) (Q:XK->St->Prop) (hEnd:∀ σ,R = true->σ.T 3 = .ptr 3 0 0->σ.H 3 = some ⟨10,45,[n.a],0⟩->Q (.exit 0) σ)
  (hRet:∀ σ,R = false->σ.T 4 = .bool false->Q .ret σ) (k:Nat) (σ:St) (hI:z51 n 5 n.kids.length (fun i=>(n.kids.drop i).all fun k=>decide (0≤k)) R k σ) :
  run (AFn Tryz.prog) z5u (z2h (fun σ'=>∃ m,m < k∧z51 n 5 n.kids.length (fun i=>(n.kids.drop i).all fun k=>decide (0≤k)) R m σ') Q) σ:=by
 obtain ⟨i,hi,rfl,t3,h3,t5,hr⟩:=hI
 simp only [z5u]
 have h3':=h3
 simp only [Nd.a] at h3'
 by_cases hlt:i < n.kids.length
 case neg =>
  have hlt':¬ (i:Int) < (n.kids.length:Int):=by omega
  simp only at hr
  rw [List.drop_eq_nil_of_le (by omega),List.all_nil] at hr
  subst hr
  simp (maxSteps:=9^7) only [go_sem,t3,h3',t5,hlt',List.length_map]
  refine hEnd _ rfl ?_ ?_
  iterate 2 focus ((simp (maxSteps:=9^7) only [go_sem,t3,h3]) <;> rfl)
 have hlt':(i:Int) < (n.kids.length:Int):=by omega
 obtain ⟨x,hx⟩:=z0f hlt
 have hgx:=z0k (f:=AV.int .i64) hx
 have hw:=z1a (j:=i) (by omega)
 simp only at hr
 rw [z0d hx,List.all_cons] at hr
 by_cases hneg:x < 0
 ·rw [decide_eq_false (by omega),Bool.false_and] at hr
  subst hr
  simp (maxSteps:=9^7) only [go_sem,t3,h3',t5,hlt',hgx,hneg,List.length_map,Int.toNat_natCast]
  (repeat refine And.intro (by omega) ?_)
  refine hRet _ rfl ?_
  simp (maxSteps:=9^7) only [go_sem]
 ·rw [decide_eq_true (by omega),Bool.true_and] at hr
  simp (maxSteps:=9^7) only [go_sem,t3,h3',t5,hlt',hgx,hneg,hw,List.length_map,Int.toNat_natCast]
  (repeat refine And.intro (by omega) ?_)
  refine ⟨n.kids.length - (i + 1),by omega,i + 1,by omega,rfl,?_,?_,?_,hr⟩
  iterate 3 focus ((simp (maxSteps:=9^7) only [go_sem,t3,h3,hw]) <;> rfl)
set_option maxHeartbeats 2000000 in
theorem y14 (n:Nd) (hn:n.Lt) (R:Bool) (Q:XK->St->Prop) (hEnd:∀ σ,R = true->σ.T 3 = .ptr 3 0 0->σ.H 3 = some ⟨10,45,[n.a],0⟩->Q (.exit 2) σ)
  (hRet:∀ σ,R = false->σ.T 4 = .bool false->Q .ret σ) (k:Nat) (σ:St) (hI:z51 n 6 n.pivots.length (fun i=>(n.pivots.drop i).all (pvB n)) R k σ) :
  run (AFn Tryz.prog) z4z (z2h (fun σ'=>∃ m,m < k∧z51 n 6 n.pivots.length (fun i=>(n.pivots.drop i).all (pvB n)) R m σ') Q) σ:=by
 obtain ⟨i,hi,rfl,t3,h3,t6,hr⟩:=hI
 simp only [z4z]
 have h3':=h3
 simp only [Nd.a] at h3'
 have hnp:=hn.npiv
 by_cases hlt:i < n.pivots.length
 case neg =>
  have hlt':¬ (i:Int) < (n.pivots.length:Int):=by omega
  simp only at hr
  rw [List.drop_eq_nil_of_le (by omega),List.all_nil] at hr
  subst hr
  simp (maxSteps:=9^7) only [go_sem,t3,h3',t6,hlt',List.length_map]
  refine hEnd _ rfl ?_ ?_
  iterate 2 focus ((simp (maxSteps:=9^7) only [go_sem,t3,h3]) <;> rfl)
 have hlt':(i:Int) < (n.pivots.length:Int):=by omega
 obtain ⟨x,hx⟩:=z0f hlt
 have hgx:=z0k (f:=AV.str) hx
 have hw:=z1a (j:=i) (by omega)
 have ch:=y7m n x (by have:=hn.high; omega) (by have:=hn.piv x (List.mem_of_getElem? hx); omega)
 simp only at hr
 rw [z0d hx,List.all_cons] at hr
 unfold pvB at hr
 generalize hasN n x = b3 at *
 cases b1:(x.toList == (⟨#[]⟩:ByteArray).toList)
 case true =>
  rw [b1] at hr
  simp only [Bool.not_true,Bool.false_and] at hr
  subst hr
  (repeat (first | simp (maxSteps:=9^7) only [go_sem,t3,h3',t6,hlt',hgx,b1,List.length_map,Int.toNat_natCast] | refine z01 (ch) ?_ | refine z00 (ch) ?_ | refine And.intro (by omega) ?_ | refine And.intro (fun d hd=>by (repeat (rcases hd with rfl | hd; · exact ⟨rfl,rfl⟩)); cases hd) ?_))
  all_goals (repeat refine And.intro (by omega) ?_)
  refine hRet _ rfl ?_
  simp (maxSteps:=9^7) only [go_sem]
 rw [b1] at hr
 by_cases h16:(16:Int) < (x.size:Int)
 ·rw [decide_eq_false (by omega)] at hr
  simp only [Bool.and_false,Bool.false_and] at hr
  subst hr
  (repeat (first | simp (maxSteps:=9^7) only [go_sem,t3,h3',t6,hlt',hgx,b1,h16,List.length_map,Int.toNat_natCast] | refine z01 (ch) ?_ | refine z00 (ch) ?_ | refine And.intro (by omega) ?_ | refine And.intro (fun d hd=>by (repeat (rcases hd with rfl | hd; · exact ⟨rfl,rfl⟩)); cases hd) ?_))
  all_goals (repeat refine And.intro (by omega) ?_)
  refine hRet _ rfl ?_
  simp (maxSteps:=9^7) only [go_sem]
 rw [decide_eq_true (by omega)] at hr
 cases b3
 ·simp only [Bool.and_false,Bool.false_and] at hr
  subst hr
  (repeat (first | simp (maxSteps:=9^7) only [go_sem,t3,h3',t6,hlt',hgx,b1,h16,List.length_map,Int.toNat_natCast] | refine z01 (ch) ?_ | refine z00 (ch) ?_ | refine And.intro (by omega) ?_ | refine And.intro (fun d hd=>by (repeat (rcases hd with rfl | hd; · exact ⟨rfl,rfl⟩)); cases hd) ?_))
  refine hRet _ rfl ?_
  simp (maxSteps:=9^7) only [go_sem]
 ·simp only [Bool.not_false,Bool.and_true,Bool.true_and] at hr
  (repeat (first | simp (maxSteps:=9^7) only [go_sem,t3,h3',t6,hlt',hgx,b1,h16,hw,List.length_map,Int.toNat_natCast] | refine z01 (ch) ?_ | refine z00 (ch) ?_ | refine And.intro (by omega) ?_ | refine And.intro (fun d hd=>by (repeat (rcases hd with rfl | hd; · exact ⟨rfl,rfl⟩)); cases hd) ?_))
  refine ⟨n.pivots.length - (i + 1),by omega,i + 1,by omega,rfl,?_,?_,?_,hr⟩
  iterate 3 focus ((simp (maxSteps:=9^7) only [go_sem,t3,h3,hw]) <;> rfl)
set_option maxHeartbeats 2000000 in
theorem msgs_loop (n:Nd) (hn:n.Lt) (R:Bool) (Q:XK->St->Prop) (hEnd:∀ σ,R = true->Q (.exit 4) σ)
  (hRet:∀ σ,R = false->σ.T 4 = .bool false->Q .ret σ) (k:Nat) (σ:St) (hI:z51 n 7 n.msgs.length (fun i=>(n.msgs.drop i).all (msB n)) R k σ) :
  run (AFn Tryz.prog) z4y (z2h (fun σ'=>∃ m,m < k∧z51 n 7 n.msgs.length (fun i=>(n.msgs.drop i).all (msB n)) R m σ') Q) σ:=by
 obtain ⟨i,hi,rfl,t3,h3,t7,hr⟩:=hI
 simp only [z4y]
 have h3':=h3
 simp only [Nd.a] at h3'
 have hnp:=hn.nmsg
 by_cases hlt:i < n.msgs.length
 case neg =>
  have hlt':¬ (i:Int) < (n.msgs.length:Int):=by omega
  simp only at hr
  rw [List.drop_eq_nil_of_le (by omega),List.all_nil] at hr
  subst hr
  simp (maxSteps:=9^7) only [go_sem,t3,h3',t7,hlt',List.length_map]
  exact hEnd _ rfl
 have hlt':(i:Int) < (n.msgs.length:Int):=by omega
 obtain ⟨x,hx⟩:=z0f hlt
 have hgx:=z0k (f:=Msg.a) hx
 have hw:=z1a (j:=i) (by omega)
 have hxm:=hn.msgs x (List.mem_of_getElem? hx)
 have cs:=zgd x (by have:=hxm.1; omega)
 have hsl:=zbo hxm
 have cl:=z3a n.high x.span.hi (by have:=hn.high; omega) (by have:=hsl.2; omega)
 simp only at hr
 rw [z0d hx,List.all_cons] at hr
 have hb:msB n x = (decide (x.stamp≤n.seen) && !(!n.top && (x.span.op || lt n.high x.span.hi))):=rfl
 rw [hb] at hr
 clear hb
 generalize x.span = sp at *
 obtain ⟨lo,hi2,op⟩:=sp
 simp only [Msg.a] at hgx
 simp only at cl hr
 generalize lt n.high hi2 = b3 at *
 by_cases hs:n.seen < x.stamp
 ·rw [decide_eq_false (by omega)] at hr
  simp only [Bool.false_and] at hr
  subst hr
  (repeat (first | simp (maxSteps:=9^7) only [go_sem,t3,h3',t7,hlt',hgx,hs,List.length_map,Int.toNat_natCast] | refine z01 (cs) ?_ | refine z00 (cs) ?_ | refine z01 (cl) ?_ | refine z00 (cl) ?_ | refine And.intro (by omega) ?_ | refine And.intro (fun d hd=>by (repeat (rcases hd with rfl | hd; · exact ⟨rfl,rfl⟩)); cases hd) ?_))
  all_goals (repeat refine And.intro (by omega) ?_)
  refine hRet _ rfl ?_
  simp (maxSteps:=9^7) only [go_sem]
 rw [decide_eq_true (by omega)] at hr
 cases htop:n.top
 ·rw [htop] at hr h3'
  cases op
  ·cases b3
   ·simp only [Bool.not_false,Bool.true_and,Bool.or_false,Bool.or_self,Bool.and_false] at hr
    (repeat (first | simp (maxSteps:=9^7) only [go_sem,t3,h3',t7,hlt',hgx,hs,hw,List.length_map,Int.toNat_natCast] | refine z01 (cs) ?_ | refine z00 (cs) ?_ | refine z01 (cl) ?_ | refine z00 (cl) ?_ | refine And.intro (by omega) ?_ | refine And.intro (fun d hd=>by (repeat (rcases hd with rfl | hd; · exact ⟨rfl,rfl⟩)); cases hd) ?_))
    refine ⟨n.msgs.length - (i + 1),by omega,i + 1,by omega,rfl,?_,?_,?_,hr⟩
    iterate 3 focus ((simp (maxSteps:=9^7) only [go_sem,t3,h3,hw]) <;> rfl)
   ·simp only [Bool.not_false,Bool.true_and,Bool.or_true,Bool.and_true,Bool.not_true,Bool.and_false,Bool.false_and] at hr
    subst hr
    (repeat (first | simp (maxSteps:=9^7) only [go_sem,t3,h3',t7,hlt',hgx,hs,hw,List.length_map,Int.toNat_natCast] | refine z01 (cs) ?_ | refine z00 (cs) ?_ | refine z01 (cl) ?_ | refine z00 (cl) ?_ | refine And.intro (by omega) ?_ | refine And.intro (fun d hd=>by (repeat (rcases hd with rfl | hd; · exact ⟨rfl,rfl⟩)); cases hd) ?_))
    refine hRet _ rfl ?_
    simp (maxSteps:=9^7) only [go_sem]
  ·simp only [Bool.not_false,Bool.true_and,Bool.true_or,Bool.and_true,Bool.not_true,Bool.and_false,Bool.false_and] at hr
   subst hr
   (repeat (first | simp (maxSteps:=9^7) only [go_sem,t3,h3',t7,hlt',hgx,hs,hw,List.length_map,Int.toNat_natCast] | refine z01 (cs) ?_ | refine z00 (cs) ?_ | refine z01 (cl) ?_ | refine z00 (cl) ?_ | refine And.intro (by omega) ?_ | refine And.intro (fun d hd=>by (repeat (rcases hd with rfl | hd; · exact ⟨rfl,rfl⟩)); cases hd) ?_))
   refine hRet _ rfl ?_
   simp (maxSteps:=9^7) only [go_sem]
 ·rw [htop] at hr h3'
  simp only [Bool.not_true,Bool.false_and,Bool.not_false,Bool.and_true,Bool.true_and] at hr
  (repeat (first | simp (maxSteps:=9^7) only [go_sem,t3,h3',t7,hlt',hgx,hs,hw,List.length_map,Int.toNat_natCast] | refine z01 (cs) ?_ | refine z00 (cs) ?_ | refine z01 (cl) ?_ | refine z00 (cl) ?_ | refine And.intro (by omega) ?_ | refine And.intro (fun d hd=>by (repeat (rcases hd with rfl | hd; · exact ⟨rfl,rfl⟩)); cases hd) ?_))
  refine ⟨n.msgs.length - (i + 1),by omega,i + 1,by omega,rfl,?_,?_,?_,hr⟩
  iterate 3 focus ((simp (maxSteps:=9^7) only [go_sem,t3,h3,hw]) <;> rfl)
set_option maxHeartbeats 2000000 in
theorem inner21_ok (c:Cfg) (n:Nd) (hn:n.Lt):AFn Tryz.prog 64 [c.a,n.a] (.bool (y7g c n)):=by
 refine fn_inner21 rfl ?_
 have h1:=hn.npiv
 have h2:=hn.nkid
 have h3:=hn.nmsg
 have h4:=hn.nrow
 have cR:=zl1 n.pivots n.kids (by omega) (fun x hx=>by have:=hn.piv x hx; omega)
 have cA:=refAll n.msgs (by omega) (fun m hm=>by obtain ⟨a,b,_⟩:=hn.msgs m hm; omega)
 have cZ:=ref18Size n.msgs ⟨by omega,fun m hm=>by obtain ⟨a,b,d⟩:=hn.msgs m hm; omega⟩
 unfold y7g
 obtain ⟨RK,hK⟩:∃ R,n.kids.all (fun k=>decide (0≤k)) = R:=⟨_,rfl⟩
 obtain ⟨RP,hP⟩:∃ R,n.pivots.all (pvB n) = R:=⟨_,rfl⟩
 obtain ⟨RM,hM⟩:∃ R,n.msgs.all (msB n) = R:=⟨_,rfl⟩
 rw [hK,hP,hM]
 by_cases q1:n.rows.length = 0
 case neg =>
  have q1':(0:Int) < (n.rows.length:Int):=by omega
  rw [decide_eq_false q1]
  (repeat (first | simp (maxSteps:=9^7) only [go_sem,List.length_map,q1'] | refine z01 (cR) ?_ | refine z00 (cR) ?_ | refine z01 (cA) ?_ | refine z00 (cA) ?_ | refine z01 (cZ) ?_ | refine z00 (cZ) ?_ | refine And.intro (by omega) ?_ | refine And.intro (fun d hd=>by (repeat (rcases hd with rfl | hd; · exact ⟨rfl,rfl⟩)); cases hd) ?_))
 have q1':¬ (0:Int) < (n.rows.length:Int):=by omega
 rw [decide_eq_true q1]
 by_cases q2:2≤n.kids.length
 case neg =>
  have q2':(n.kids.length:Int) < 2:=by omega
  rw [decide_eq_false q2]
  (repeat (first | simp (maxSteps:=9^7) only [go_sem,List.length_map,q1',q2'] | refine z01 (cR) ?_ | refine z00 (cR) ?_ | refine z01 (cA) ?_ | refine z00 (cA) ?_ | refine z01 (cZ) ?_ | refine z00 (cZ) ?_ | refine And.intro (by omega) ?_ | refine And.intro (fun d hd=>by (repeat (rcases hd with rfl | hd; · exact ⟨rfl,rfl⟩)); cases hd) ?_))
 have q2':¬ (n.kids.length:Int) < 2:=by omega
 rw [decide_eq_true q2]
 by_cases q3:(n.kids.length:Int)≤c.fanout
 case neg =>
  have q3':c.fanout < (n.kids.length:Int):=by omega
  rw [decide_eq_false q3]
  (repeat (first | simp (maxSteps:=9^7) only [go_sem,List.length_map,q1',q2',q3'] | refine z01 (cR) ?_ | refine z00 (cR) ?_ | refine z01 (cA) ?_ | refine z00 (cA) ?_ | refine z01 (cZ) ?_ | refine z00 (cZ) ?_ | refine And.intro (by omega) ?_ | refine And.intro (fun d hd=>by (repeat (rcases hd with rfl | hd; · exact ⟨rfl,rfl⟩)); cases hd) ?_))
 have q3':¬ c.fanout < (n.kids.length:Int):=by omega
 rw [decide_eq_true q3]
 generalize zcm n.pivots n.kids = b1 at *
 cases b1
 ·(repeat (first | simp (maxSteps:=9^7) only [go_sem,List.length_map,q1',q2',q3'] | refine z01 (cR) ?_ | refine z00 (cR) ?_ | refine z01 (cA) ?_ | refine z00 (cA) ?_ | refine z01 (cZ) ?_ | refine z00 (cZ) ?_ | refine And.intro (by omega) ?_ | refine And.intro (fun d hd=>by (repeat (rcases hd with rfl | hd; · exact ⟨rfl,rfl⟩)); cases hd) ?_))
 generalize z2b n.msgs = b2 at *
 cases b2
 ·(repeat (first | simp (maxSteps:=9^7) only [go_sem,List.length_map,q1',q2',q3'] | refine z01 (cR) ?_ | refine z00 (cR) ?_ | refine z01 (cA) ?_ | refine z00 (cA) ?_ | refine z01 (cZ) ?_ | refine z00 (cZ) ?_ | refine And.intro (by omega) ?_ | refine And.intro (fun d hd=>by (repeat (rcases hd with rfl | hd; · exact ⟨rfl,rfl⟩)); cases hd) ?_))
 by_cases q4:(z38 n.msgs:Int)≤c.budget
 case neg =>
  have q4':c.budget < (z38 n.msgs:Int):=by omega
  rw [decide_eq_false q4]
  (repeat (first | simp (maxSteps:=9^7) only [go_sem,List.length_map,q1',q2',q3',q4'] | refine z01 (cR) ?_ | refine z00 (cR) ?_ | refine z01 (cA) ?_ | refine z00 (cA) ?_ | refine z01 (cZ) ?_ | refine z00 (cZ) ?_ | refine And.intro (by omega) ?_ | refine And.intro (fun d hd=>by (repeat (rcases hd with rfl | hd; · exact ⟨rfl,rfl⟩)); cases hd) ?_))
 have q4':¬ c.budget < (z38 n.msgs:Int):=by omega
 rw [decide_eq_true q4]
 (repeat (first | simp (maxSteps:=9^7) only [go_sem,List.length_map,q1',q2',q3',q4'] | refine z01 (cR) ?_ | refine z00 (cR) ?_ | refine z01 (cA) ?_ | refine z00 (cA) ?_ | refine z01 (cZ) ?_ | refine z00 (cZ) ?_ | refine And.intro (by omega) ?_ | refine And.intro (fun d hd=>by (repeat (rcases hd with rfl | hd; · exact ⟨rfl,rfl⟩)); cases hd) ?_))
 clear cR cA cZ q1' q2' q3' q4' q4 q3 q2 q1
 refine z06 (z51 n 5 n.kids.length (fun i=>(n.kids.drop i).all fun k=>decide (0≤k)) RK) (k:=n.kids.length) ⟨0,by omega,rfl,?_,?_,?_,hK⟩ (kids_loop n h2 RK _ ?_ ?_)
 iterate 3 focus ((simp (maxSteps:=9^7) only [go_sem]) <;> rfl)
 ·intro σ hk t3 h3
  subst hk
  simp (maxSteps:=9^7) only [go_sem,t3,h3]
  refine z06 (z51 n 6 n.pivots.length (fun i=>(n.pivots.drop i).all (pvB n)) RP) (k:=n.pivots.length) ⟨0,by omega,rfl,?_,?_,?_,hP⟩ (y14 n hn RP _ ?_ ?_)
  iterate 3 focus ((simp (maxSteps:=9^7) only [go_sem,t3,h3]) <;> rfl)
  ·intro σ hk t3 h3
   subst hk
   simp (maxSteps:=9^7) only [go_sem,t3,h3]
   refine z06 (z51 n 7 n.msgs.length (fun i=>(n.msgs.drop i).all (msB n)) RM) (k:=n.msgs.length) ⟨0,by omega,rfl,?_,?_,?_,hM⟩ (msgs_loop n hn RM _ ?_ ?_)
   iterate 3 focus ((simp (maxSteps:=9^7) only [go_sem,t3,h3]) <;> rfl)
   ·intro σ hk
    subst hk
    simp (maxSteps:=9^7) only [go_sem]
   ·intro σ hk t4
    subst hk
    simp (maxSteps:=9^7) only [go_sem,t4]
  ·intro σ hk t4
   subst hk
   simp (maxSteps:=9^7) only [go_sem,t4]
 ·intro σ hk t4
  subst hk
  simp (maxSteps:=9^7) only [go_sem,t4]
end
section
open Go.RowKit
attribute [local go_sem ↓] z18 z0h
attribute [local go_sem ↓] zbv
attribute [local go_sem] z80 zk3 z4u zk2 z4t zk1 zk0 z4s zjz zjy z4r zjx z4q zjw z4p
def znd:Reg:=⟨[],[⟨.box 14 83 (.t 0),some 1,none,[],[]⟩,⟨.mv (.c (.bool false)),some 2,none,[],[]⟩],[1],[],false⟩
def zad:List ROp:=[⟨.faddr 0 (.t 1),some 7,none,[],[]⟩,⟨.faddr 5 (.t 7),some 8,none,[],[]⟩,⟨.load 1 false (.t 8),some 9,none,[],[]⟩,⟨.faddr 10 (.t 1),some 10,none,[],[]⟩,⟨.faddr 2 (.t 10),some 11,none,[],[]⟩,⟨.load 1 false (.t 11),some 12,none,[],[]⟩,⟨.beq true (.t 9) (.t 12),some 13,none,[],[]⟩,⟨.mv (.t 13),some 14,none,[],[]⟩,⟨.faddr 0 (.t 1),some 15,(some (14,false)),[],[]⟩,⟨.faddr 4 (.t 15),some 16,(some (14,false)),[],[]⟩,⟨.load 1 false (.t 16),some 17,(some (14,false)),[],[]⟩,⟨.faddr 10 (.t 1),some 18,(some (14,false)),[],[]⟩,⟨.faddr 1 (.t 18),some 19,(some (14,false)),[],[]⟩,⟨.load 1 false (.t 19),some 20,(some (14,false)),[],[]⟩,⟨.bin .neq (.t 17) (.t 20),some 21,(some (14,false)),[],[]⟩,⟨.pick (.t 14) (.c (.bool true)) (.t 21),some 22,none,[],[]⟩]
def znc:Reg:=⟨[],zad,[],[],false⟩
def znb:Reg:=⟨[],[⟨.mv (.c (.bool false)),some 2,none,[],[]⟩],[],[],false⟩
def zna:Reg:=⟨[],[⟨.mv (.c (.int .i64 0)),some 3,none,[],[]⟩],[],[],false⟩
def zac:List ROp:=[⟨.mv (.t 3),some 23,none,[],[]⟩,⟨.faddr 0 (.t 1),some 24,none,[],[]⟩,⟨.faddr 9 (.t 24),some 25,none,[],[]⟩,⟨.load 1 false (.t 25),some 26,none,[],[]⟩,⟨.len false (.t 26),some 27,none,[],[]⟩,⟨.bin .lss (.t 23) (.t 27),some 28,none,[],[]⟩]
def zn9:Reg:=⟨[],zac,[],[],false⟩
def zab:List ROp:=[⟨.callv (.c (.clo 65 [] [])) [(.t 32),(.t 39)],some 40,none,[],[]⟩,⟨.un .not (.t 40),some 41,none,[],[]⟩]
def zc1:List ROp:=[⟨.faddr 10 (.t 1),some 31,none,[40],[]⟩,⟨.load 3 true (.t 31),some 32,none,[40],[]⟩,⟨.faddr 0 (.t 1),some 33,none,[40],[]⟩,⟨.faddr 9 (.t 33),some 34,none,[40],[]⟩,⟨.load 1 false (.t 34),some 35,none,[40],[]⟩,⟨.mv (.t 3),some 36,none,[40],[]⟩,⟨.iaddr 2 (.t 35) (.t 36),some 37,none,[40],[]⟩,⟨.faddr 0 (.t 37),some 38,none,[40],[]⟩,⟨.load 1 false (.t 38),some 39,none,[40],[]⟩]
def zn8:Reg:=⟨zc1,zab,[40],[],true⟩
def zn7:Reg:=⟨[],[⟨.mv (.c (.bool false)),some 2,none,[],[]⟩],[],[],false⟩
def zaa:List ROp:=[⟨.mv (.t 3),some 29,none,[],[]⟩,⟨.bin .add (.t 29) (.c (.int .i64 1)),some 30,none,[],[]⟩,⟨.mv (.t 30),some 3,none,[],[]⟩]
def zn6:Reg:=⟨[],zaa,[],[],false⟩
def z85:IR:=(.seq (.seq (.reg zn9)
 (.cond (.t 28) .skip
 (.exit 0)))
 (.seq (.block 1 (.seq (.reg zn8)
 (.cond (.t 41) (.seq (.reg zn7)
 .ret)
 .skip)))
 (.reg zn6)))
def zn5:Reg:=⟨[],[⟨.mv (.c (.int .i64 0)),some 4,none,[],[]⟩],[],[],false⟩
def z7m:List ROp:=[⟨.mv (.t 4),some 42,none,[],[]⟩,⟨.faddr 0 (.t 1),some 43,none,[],[]⟩,⟨.faddr 2 (.t 43),some 44,none,[],[]⟩,⟨.load 1 false (.t 44),some 45,none,[],[]⟩,⟨.len false (.t 45),some 46,none,[],[]⟩,⟨.bin .lss (.t 42) (.t 46),some 47,none,[],[]⟩]
def zht:Reg:=⟨[],z7m,[],[],false⟩
def z7l:List ROp:=[⟨.bin .eql (.t 66) (.t 69),some 70,(some (60,false)),[],[]⟩,⟨.pick (.t 60) (.c (.bool true)) (.t 70),some 71,none,[],[]⟩]
def z8g:List ROp:=[⟨.faddr 10 (.t 1),some 50,none,[58],[]⟩,⟨.load 3 true (.t 50),some 51,none,[58],[]⟩,⟨.faddr 0 (.t 1),some 52,none,[58],[]⟩,⟨.faddr 2 (.t 52),some 53,none,[58],[]⟩,⟨.load 1 false (.t 53),some 54,none,[58],[]⟩,⟨.mv (.t 4),some 55,none,[58],[]⟩,⟨.iaddr 1 (.t 54) (.t 55),some 56,none,[58],[]⟩,⟨.load 1 false (.t 56),some 57,none,[58],[]⟩,⟨.callv (.c (.clo 65 [] [])) [(.t 51),(.t 57)],some 58,none,[],[]⟩,⟨.un .not (.t 58),some 59,none,[],[]⟩,⟨.mv (.t 59),some 60,none,[],[]⟩,⟨.faddr 0 (.t 1),some 61,(some (60,false)),[],[]⟩,⟨.faddr 2 (.t 61),some 62,(some (60,false)),[],[]⟩,⟨.load 1 false (.t 62),some 63,(some (60,false)),[],[]⟩,⟨.mv (.t 4),some 64,(some (60,false)),[],[]⟩,⟨.iaddr 1 (.t 63) (.t 64),some 65,(some (60,false)),[],[]⟩,⟨.load 1 false (.t 65),some 66,(some (60,false)),[],[]⟩,⟨.faddr 10 (.t 1),some 67,(some (60,false)),[],[]⟩,⟨.faddr 0 (.t 67),some 68,(some (60,false)),[],[]⟩,⟨.load 1 false (.t 68),some 69,(some (60,false)),[],[]⟩]
def zhs:Reg:=⟨z8g,z7l,[58],[],true⟩
def zhr:Reg:=⟨[],[⟨.mv (.c (.bool false)),some 2,none,[],[]⟩],[],[],false⟩
def z7k:List ROp:=[⟨.mv (.t 4),some 48,none,[],[]⟩,⟨.bin .add (.t 48) (.c (.int .i64 1)),some 49,none,[],[]⟩,⟨.mv (.t 49),some 4,none,[],[]⟩]
def zhq:Reg:=⟨[],z7k,[],[],false⟩
def z5s:IR:=(.seq (.seq (.reg zht)
 (.cond (.t 47) .skip
 (.exit 2)))
 (.seq (.block 3 (.seq (.reg zhs)
 (.cond (.t 71) (.seq (.reg zhr)
 .ret)
 .skip)))
 (.reg zhq)))
def zhp:Reg:=⟨[],[⟨.mv (.c (.int .i64 0)),some 5,none,[],[]⟩],[],[],false⟩
def z7j:List ROp:=[⟨.mv (.t 5),some 72,none,[],[]⟩,⟨.faddr 0 (.t 1),some 73,none,[],[]⟩,⟨.faddr 8 (.t 73),some 74,none,[],[]⟩,⟨.load 1 false (.t 74),some 75,none,[],[]⟩,⟨.len false (.t 75),some 76,none,[],[]⟩,⟨.bin .lss (.t 72) (.t 76),some 77,none,[],[]⟩]
def zho:Reg:=⟨[],z7j,[],[],false⟩
def z7i:List ROp:=[⟨.faddr 0 (.t 1),some 80,none,[86,6],[]⟩,⟨.faddr 8 (.t 80),some 81,none,[86,6],[]⟩,⟨.load 1 false (.t 81),some 82,none,[86,6],[]⟩,⟨.mv (.t 5),some 83,none,[86,6],[]⟩,⟨.iaddr 6 (.t 82) (.t 83),some 84,none,[86,6],[]⟩,⟨.load 6 true (.t 84),some 85,none,[86,6],[]⟩,⟨.callv (.c (.clo 66 [] [])) [(.t 85)],some 86,none,[6],[]⟩,⟨.alloc 3 81 (.agg [(.str ⟨#[]⟩),(.str ⟨#[]⟩),(.bool false)]),some 6,none,[],[]⟩,⟨.store 3 (.t 6) (.t 86),none,none,[],[]⟩]
def zhn:Reg:=⟨[],z7i,[86,6],[],false⟩
def z7h:List ROp:=[⟨.callv (.c (.clo 67 [] [])) [(.t 91)],some 92,none,[],[]⟩,⟨.feq true [(0,1),(1,1),(2,2)] (.t 90) (.t 92),some 93,none,[],[]⟩]
def z8f:List ROp:=[⟨.load 3 true (.t 6),some 87,none,[90,92],[]⟩,⟨.faddr 10 (.t 1),some 88,none,[90,92],[]⟩,⟨.load 3 true (.t 88),some 89,none,[90,92],[]⟩,⟨.callv (.c (.clo 59 [] [])) [(.t 87),(.t 89)],some 90,none,[92],[]⟩,⟨.load 3 true (.t 6),some 91,none,[90,92],[]⟩]
def zhm:Reg:=⟨z8f,z7h,[90,92],[],true⟩
def zhl:Reg:=⟨[],[⟨.mv (.c (.bool false)),some 2,none,[],[]⟩],[],[],false⟩
def z7g:List ROp:=[⟨.mv (.t 5),some 78,none,[],[]⟩,⟨.bin .add (.t 78) (.c (.int .i64 1)),some 79,none,[],[]⟩,⟨.mv (.t 79),some 5,none,[],[]⟩]
def zhk:Reg:=⟨[],z7g,[],[],false⟩
def z5r:IR:=(.seq (.seq (.reg zho)
 (.cond (.t 77) .skip
 (.exit 4)))
 (.seq (.block 5 (.seq (.reg zhn)
 (.seq (.reg zhm)
 (.cond (.t 93) (.seq (.reg zhl)
 .ret)
 .skip))))
 (.reg zhk)))
def zhj:Reg:=⟨[],[⟨.mv (.c (.bool true)),some 2,none,[],[]⟩],[],[],false⟩
def zy9:IR:=(.seq (.reg znd)
 (.seq (.seq (.reg znc)
 (.cond (.t 22) (.seq (.reg znb)
 .ret)
 .skip))
 (.seq (.seq (.reg zna)
 (.block 0 (.loop z85)))
 (.seq (.seq (.reg zn5)
 (.block 2 (.loop z5s)))
 (.seq (.seq (.reg zhp)
 (.block 4 (.loop z5r)))
 (.seq (.reg zhj)
 .ret))))))
def zl7:List RDesc:=[(.tmp 2)]
theorem e_placed_0:EqR znd [⟨.box 14 83 (.t 0),some 1,none,[],[]⟩,⟨.mv (.c (.bool false)),some 2,none,[],[]⟩] [1]:=fun _ _ _=>rfl
theorem e_placed_1:EqR znc zad []:=fun _ _ _=>rfl
theorem e_placed_2:EqR znb [⟨.mv (.c (.bool false)),some 2,none,[],[]⟩] []:=fun _ _ _=>rfl
theorem e_placed_3:EqR zna [⟨.mv (.c (.int .i64 0)),some 3,none,[],[]⟩] []:=fun _ _ _=>rfl
theorem e_placed_4:EqR zn9 zac []:=fun _ _ _=>rfl
theorem e_placed_5 (C:FuncId->List AV->AV->Prop) (σ:St) (K:St->Prop):z0l C zn8 σ K = z08 C [] zab zc1 (σ.kills [40]) K:=rfl
theorem e_placed_6:EqR zn7 [⟨.mv (.c (.bool false)),some 2,none,[],[]⟩] []:=fun _ _ _=>rfl
theorem e_placed_7:EqR zn6 zaa []:=fun _ _ _=>rfl
theorem e_placed_9:EqR zn5 [⟨.mv (.c (.int .i64 0)),some 4,none,[],[]⟩] []:=fun _ _ _=>rfl
theorem y36:EqR zht z7m []:=fun _ _ _=>rfl
theorem y35 (C:FuncId->List AV->AV->Prop) (σ:St) (K:St->Prop):z0l C zhs σ K = z08 C [] z7l z8g (σ.kills [58]) K:=rfl
theorem y34:EqR zhr [⟨.mv (.c (.bool false)),some 2,none,[],[]⟩] []:=fun _ _ _=>rfl
theorem y33:EqR zhq z7k []:=fun _ _ _=>rfl
theorem y32:EqR zhp [⟨.mv (.c (.int .i64 0)),some 5,none,[],[]⟩] []:=fun _ _ _=>rfl
theorem y31:EqR zho z7j []:=fun _ _ _=>rfl
theorem y30:EqR zhn z7i [86,6]:=fun _ _ _=>rfl
theorem y2z (C:FuncId->List AV->AV->Prop) (σ:St) (K:St->Prop):z0l C zhm σ K = z08 C [] z7h z8f (σ.kills [90,92]) K:=rfl
theorem y2y:EqR zhl [⟨.mv (.c (.bool false)),some 2,none,[],[]⟩] []:=fun _ _ _=>rfl
theorem y2x:EqR zhk z7g []:=fun _ _ _=>rfl
theorem y2w:EqR zhj [⟨.mv (.c (.bool true)),some 2,none,[],[]⟩] []:=fun _ _ _=>rfl
theorem fn_placed {args:List AV} {r:AV} (ha:args.length.ble Tryz.f44.ntmps = true) (h:run (AFn Tryz.prog) zy9 (endQ zl7 r) (z0b args)):AFn Tryz.prog 44 args r :=
 AFn.of_code (pv:=false) (hint:=fun _=>[]) (c:=Tryz.f44.body.getD .skip) (by kernel_rfl) (by kernel_rfl) Tryz.func44 (by kernel_rfl) (by kernel_rfl) (by kernel_rfl) (of_decide_eq_true (by kernel_rfl)) (Nat.le_of_ble_eq_true ha) (Nat.le_of_ble_eq_true (by kernel_rfl)) (z09 h)
attribute [local go_sem ↓] zy9
attribute [local go_sem] zl7 e_placed_0 e_placed_1 zad e_placed_2 e_placed_3 e_placed_4 zac e_placed_5 zab zc1 e_placed_6 e_placed_7 zaa e_placed_9 y36 z7m y35 z7l z8g y34 y33 z7k y32 y31 z7j y30 z7i y2z z7h z8f y2y y2x z7g y2w
def nilB0 (x:ByteArray):Bool:=x.toList == (⟨#[]⟩:ByteArray).toList
def topB (n:Nd):Bool:=if n.top then nilB0 n.high && decide (n.right = -1) else !nilB0 n.high && decide ((n.high.size:Int)≤16) && decide (0≤n.right)
def ndB (c:Cfg) (n:Nd):Bool:=decide (0≤n.slot) && decide (0≤n.level) && decide (0≤n.seen) && topB n && (if n.level = 0 then leafB c n else y7g c n)
set_option maxHeartbeats 2000000 in
theorem right21_ok (c:Cfg) (n:Nd) (hn:n.Lt):AFn Tryz.prog 43 [c.a,n.a] (.bool (ndB c n)):=by
 refine fn_right21 rfl ?_
 have cl:=leaf21_ok c n hn
 have ci:=inner21_ok c n hn
 unfold ndB
 generalize leafB c n = bl at *
 generalize y7g c n = bi at *
 have hT:∀ b,topB n = b->topB n = b:=fun _ h=>h
 by_cases q1:0≤n.slot
 case neg =>
  have q1':n.slot < 0:=by omega
  rw [decide_eq_false q1]
  (repeat (first | simp (maxSteps:=9^7) only [go_sem,q1'] | refine z01 (cl) ?_ | refine z00 (cl) ?_ | refine z01 (ci) ?_ | refine z00 (ci) ?_ | refine And.intro (by omega) ?_ | refine And.intro (fun d hd=>by (repeat (rcases hd with rfl | hd; · exact ⟨rfl,rfl⟩)); cases hd) ?_))
 have q1':¬ n.slot < 0:=by omega
 rw [decide_eq_true q1]
 by_cases q2:0≤n.level
 case neg =>
  have q2':n.level < 0:=by omega
  rw [decide_eq_false q2]
  (repeat (first | simp (maxSteps:=9^7) only [go_sem,q1',q2'] | refine z01 (cl) ?_ | refine z00 (cl) ?_ | refine z01 (ci) ?_ | refine z00 (ci) ?_ | refine And.intro (by omega) ?_ | refine And.intro (fun d hd=>by (repeat (rcases hd with rfl | hd; · exact ⟨rfl,rfl⟩)); cases hd) ?_))
 have q2':¬ n.level < 0:=by omega
 rw [decide_eq_true q2]
 by_cases q3:0≤n.seen
 case neg =>
  have q3':n.seen < 0:=by omega
  rw [decide_eq_false q3]
  (repeat (first | simp (maxSteps:=9^7) only [go_sem,q1',q2',q3'] | refine z01 (cl) ?_ | refine z00 (cl) ?_ | refine z01 (ci) ?_ | refine z00 (ci) ?_ | refine And.intro (by omega) ?_ | refine And.intro (fun d hd=>by (repeat (rcases hd with rfl | hd; · exact ⟨rfl,rfl⟩)); cases hd) ?_))
 have q3':¬ n.seen < 0:=by omega
 rw [decide_eq_true q3]
 have hz:(n.level == 0) = decide (n.level = 0):=by
  by_cases h:n.level = 0
  ·simp [h]
  ·rw [decide_eq_false h]; simp [h]
 obtain ⟨slot,level,pivots,kids,high,top,right,seen,msgs,rows⟩:=n
 simp only at q1' q2' q3' cl ci hz ⊢
 unfold topB nilB0
 simp only
 by_cases hl:level = 0
 ·rw [decide_eq_true hl] at hz
  rw [if_pos hl]
  cases top
  ·rw [if_neg (by simp)]
   cases b1:(high.toList == (⟨#[]⟩:ByteArray).toList)
   case true=>(repeat (first | simp (maxSteps:=9^7) only [go_sem,q1',q2',q3',b1,hz,bne] | refine z01 (cl) ?_ | refine z00 (cl) ?_ | refine z01 (ci) ?_ | refine z00 (ci) ?_ | refine And.intro (by omega) ?_ | refine And.intro (fun d hd=>by (repeat (rcases hd with rfl | hd; · exact ⟨rfl,rfl⟩)); cases hd) ?_))
   by_cases h16:(16:Int) < (high.size:Int)
   ·rw [decide_eq_false (p:=(high.size:Int)≤16) (by omega)]
    (repeat (first | simp (maxSteps:=9^7) only [go_sem,q1',q2',q3',b1,h16,hz,bne] | refine z01 (cl) ?_ | refine z00 (cl) ?_ | refine z01 (ci) ?_ | refine z00 (ci) ?_ | refine And.intro (by omega) ?_ | refine And.intro (fun d hd=>by (repeat (rcases hd with rfl | hd; · exact ⟨rfl,rfl⟩)); cases hd) ?_))
   rw [decide_eq_true (p:=(high.size:Int)≤16) (by omega)]
   by_cases hr:right < 0
   ·rw [decide_eq_false (p:=0≤right) (by omega)]
    (repeat (first | simp (maxSteps:=9^7) only [go_sem,q1',q2',q3',b1,h16,hr,hz,bne] | refine z01 (cl) ?_ | refine z00 (cl) ?_ | refine z01 (ci) ?_ | refine z00 (ci) ?_ | refine And.intro (by omega) ?_ | refine And.intro (fun d hd=>by (repeat (rcases hd with rfl | hd; · exact ⟨rfl,rfl⟩)); cases hd) ?_))
   ·rw [decide_eq_true (p:=0≤right) (by omega)]
    (repeat (first | simp (maxSteps:=9^7) only [go_sem,q1',q2',q3',b1,h16,hr,hz,bne] | refine z01 (cl) ?_ | refine z00 (cl) ?_ | refine z01 (ci) ?_ | refine z00 (ci) ?_ | refine And.intro (by omega) ?_ | refine And.intro (fun d hd=>by (repeat (rcases hd with rfl | hd; · exact ⟨rfl,rfl⟩)); cases hd) ?_))
  ·rw [if_pos rfl]
   cases b1:(high.toList == (⟨#[]⟩:ByteArray).toList)
   case false=>(repeat (first | simp (maxSteps:=9^7) only [go_sem,q1',q2',q3',b1,hz,bne] | refine z01 (cl) ?_ | refine z00 (cl) ?_ | refine z01 (ci) ?_ | refine z00 (ci) ?_ | refine And.intro (by omega) ?_ | refine And.intro (fun d hd=>by (repeat (rcases hd with rfl | hd; · exact ⟨rfl,rfl⟩)); cases hd) ?_))
   by_cases hr:right = -1
   ·have hr':(right == -1) = true:=by simp [hr]
    rw [decide_eq_true hr]
    (repeat (first | simp (maxSteps:=9^7) only [go_sem,q1',q2',q3',b1,hr',hz,bne] | refine z01 (cl) ?_ | refine z00 (cl) ?_ | refine z01 (ci) ?_ | refine z00 (ci) ?_ | refine And.intro (by omega) ?_ | refine And.intro (fun d hd=>by (repeat (rcases hd with rfl | hd; · exact ⟨rfl,rfl⟩)); cases hd) ?_))
   ·have hr':(right == -1) = false:=by simp [hr]
    rw [decide_eq_false hr]
    (repeat (first | simp (maxSteps:=9^7) only [go_sem,q1',q2',q3',b1,hr',hz,bne] | refine z01 (cl) ?_ | refine z00 (cl) ?_ | refine z01 (ci) ?_ | refine z00 (ci) ?_ | refine And.intro (by omega) ?_ | refine And.intro (fun d hd=>by (repeat (rcases hd with rfl | hd; · exact ⟨rfl,rfl⟩)); cases hd) ?_))
 ·rw [decide_eq_false hl] at hz
  rw [if_neg hl]
  cases top
  ·rw [if_neg (by simp)]
   cases b1:(high.toList == (⟨#[]⟩:ByteArray).toList)
   case true=>(repeat (first | simp (maxSteps:=9^7) only [go_sem,q1',q2',q3',b1,hz,bne] | refine z01 (cl) ?_ | refine z00 (cl) ?_ | refine z01 (ci) ?_ | refine z00 (ci) ?_ | refine And.intro (by omega) ?_ | refine And.intro (fun d hd=>by (repeat (rcases hd with rfl | hd; · exact ⟨rfl,rfl⟩)); cases hd) ?_))
   by_cases h16:(16:Int) < (high.size:Int)
   ·rw [decide_eq_false (p:=(high.size:Int)≤16) (by omega)]
    (repeat (first | simp (maxSteps:=9^7) only [go_sem,q1',q2',q3',b1,h16,hz,bne] | refine z01 (cl) ?_ | refine z00 (cl) ?_ | refine z01 (ci) ?_ | refine z00 (ci) ?_ | refine And.intro (by omega) ?_ | refine And.intro (fun d hd=>by (repeat (rcases hd with rfl | hd; · exact ⟨rfl,rfl⟩)); cases hd) ?_))
   rw [decide_eq_true (p:=(high.size:Int)≤16) (by omega)]
   by_cases hr:right < 0
   ·rw [decide_eq_false (p:=0≤right) (by omega)]
    (repeat (first | simp (maxSteps:=9^7) only [go_sem,q1',q2',q3',b1,h16,hr,hz,bne] | refine z01 (cl) ?_ | refine z00 (cl) ?_ | refine z01 (ci) ?_ | refine z00 (ci) ?_ | refine And.intro (by omega) ?_ | refine And.intro (fun d hd=>by (repeat (rcases hd with rfl | hd; · exact ⟨rfl,rfl⟩)); cases hd) ?_))
   ·rw [decide_eq_true (p:=0≤right) (by omega)]
    (repeat (first | simp (maxSteps:=9^7) only [go_sem,q1',q2',q3',b1,h16,hr,hz,bne] | refine z01 (cl) ?_ | refine z00 (cl) ?_ | refine z01 (ci) ?_ | refine z00 (ci) ?_ | refine And.intro (by omega) ?_ | refine And.intro (fun d hd=>by (repeat (rcases hd with rfl | hd; · exact ⟨rfl,rfl⟩)); cases hd) ?_))
  ·rw [if_pos rfl]
   cases b1:(high.toList == (⟨#[]⟩:ByteArray).toList)
   case false=>(repeat (first | simp (maxSteps:=9^7) only [go_sem,q1',q2',q3',b1,hz,bne] | refine z01 (cl) ?_ | refine z00 (cl) ?_ | refine z01 (ci) ?_ | refine z00 (ci) ?_ | refine And.intro (by omega) ?_ | refine And.intro (fun d hd=>by (repeat (rcases hd with rfl | hd; · exact ⟨rfl,rfl⟩)); cases hd) ?_))
   by_cases hr:right = -1
   ·have hr':(right == -1) = true:=by simp [hr]
    rw [decide_eq_true hr]
    (repeat (first | simp (maxSteps:=9^7) only [go_sem,q1',q2',q3',b1,hr',hz,bne] | refine z01 (cl) ?_ | refine z00 (cl) ?_ | refine z01 (ci) ?_ | refine z00 (ci) ?_ | refine And.intro (by omega) ?_ | refine And.intro (fun d hd=>by (repeat (rcases hd with rfl | hd; · exact ⟨rfl,rfl⟩)); cases hd) ?_))
   ·have hr':(right == -1) = false:=by simp [hr]
    rw [decide_eq_false hr]
    (repeat (first | simp (maxSteps:=9^7) only [go_sem,q1',q2',q3',b1,hr',hz,bne] | refine z01 (cl) ?_ | refine z00 (cl) ?_ | refine z01 (ci) ?_ | refine z00 (ci) ?_ | refine And.intro (by omega) ?_ | refine And.intro (fun d hd=>by (repeat (rcases hd with rfl | hd; · exact ⟨rfl,rfl⟩)); cases hd) ?_))
def eqS (a b:Spn):Bool:=(a.lo.toList == b.lo.toList) && ((a.hi.toList == b.hi.toList) && (a.op == b.op))
def rwB (x:Seat) (p:Par):Bool:=x.s.has p.key
def pwB (x:Seat) (p:ByteArray):Bool:=x.s.has p && !(p.toList == x.s.lo.toList)
def mwB (x:Seat) (m:Msg):Bool:=eqS (m.span.meet x.s) m.span.norm
def zin (x:Seat):Bool:=(x.n.top == x.s.op) && (x.n.high.toList == x.s.hi.toList) && (x.n.rows.all (rwB x) && x.n.pivots.all (pwB x) && x.n.msgs.all (mwB x))
def zrp (x:Seat) (t:Nat) (len:Nat) (A:Nat->Bool) (R:Bool) (k:Nat) (σ:St):Prop :=
 ∃ i:Nat,i≤len∧k = len - i∧σ.T 1 = .ptr 1 0 0∧σ.H 1 = some ⟨14,83,[x.a],0⟩∧σ.T t = .int .i64 i∧A i = R
set_option maxHeartbeats 2000000 in
theorem prow_loop (x:Seat) (b:Nat) (hx0:SeatOk x b) (R:Bool) (Q:XK->St->Prop) (hEnd:∀ σ,R = true->σ.T 1 = .ptr 1 0 0->σ.H 1 = some ⟨14,83,[x.a],0⟩->Q (.exit 0) σ)
  (hRet:∀ σ,R = false->σ.T 2 = .bool false->Q .ret σ) (k:Nat) (σ:St) (hI:zrp x 3 x.n.rows.length (fun i=>(x.n.rows.drop i).all (rwB x)) R k σ) :
  run (AFn Tryz.prog) z85 (z2h (fun σ'=>∃ m,m < k∧zrp x 3 x.n.rows.length (fun i=>(x.n.rows.drop i).all (rwB x)) R m σ') Q) σ:=by
 have hn:=hx0.lt
 have n1:=hn.nrow
 have n2:=hn.npiv
 have n3:=hn.nmsg
 have hs:=zj7 hx0.s (by omega)
 obtain ⟨i,hi,rfl,t1,h1,tt,hr⟩:=hI
 simp only [z85]
 have h1':=h1
 simp only [Seat.a] at h1'
 by_cases hlt:i < x.n.rows.length
 case neg =>
  have hlt':¬ (i:Int) < (x.n.rows.length:Int):=by omega
  simp only at hr
  rw [List.drop_eq_nil_of_le (by omega),List.all_nil] at hr
  subst hr
  simp (maxSteps:=9^7) only [go_sem,t1,h1',tt,hlt',List.length_map]
  refine hEnd _ rfl ?_ ?_
  iterate 2 focus ((simp (maxSteps:=9^7) only [go_sem,t1,h1]) <;> rfl)
 have hlt':(i:Int) < (x.n.rows.length:Int):=by omega
 obtain ⟨y,hx⟩:=z0f hlt
 have hgx:=z0k (f:=Par.a) hx
 have hw:=z1a (j:=i) (by omega)
 simp only at hr
 rw [z0d hx,List.all_cons] at hr
 simp only [Par.a] at hgx
 have ch:=y4j x.s y.key hs (by have:=(hn.rows y (List.mem_of_getElem? hx)).1; omega)
 unfold rwB at hr
 generalize hbb:x.s.has y.key = bb at *
 cases bb
 ·rw [Bool.false_and] at hr
  subst hr
  (repeat (first | simp (maxSteps:=9^7) only [go_sem,t1,h1',tt,hlt',hgx,List.length_map,Int.toNat_natCast] | refine z01 (ch) ?_ | refine z00 (ch) ?_ | refine And.intro (by omega) ?_ | refine And.intro (fun d hd=>by (repeat (rcases hd with rfl | hd; · exact ⟨rfl,rfl⟩)); cases hd) ?_))
  all_goals (repeat refine And.intro (by omega) ?_)
  refine hRet _ rfl ?_
  simp (maxSteps:=9^7) only [go_sem]
 ·rw [Bool.true_and] at hr
  (repeat (first | simp (maxSteps:=9^7) only [go_sem,t1,h1',tt,hlt',hgx,hw,List.length_map,Int.toNat_natCast] | refine z01 (ch) ?_ | refine z00 (ch) ?_ | refine And.intro (by omega) ?_ | refine And.intro (fun d hd=>by (repeat (rcases hd with rfl | hd; · exact ⟨rfl,rfl⟩)); cases hd) ?_))
  refine ⟨x.n.rows.length - (i + 1),by omega,i + 1,by omega,rfl,?_,?_,?_,hr⟩
  iterate 3 focus ((simp (maxSteps:=9^7) only [go_sem,t1,h1,hw]) <;> rfl)
set_option maxHeartbeats 2000000 in
theorem ppiv_loop (x:Seat) (b:Nat) (hx0:SeatOk x b) (R:Bool) (Q:XK->St->Prop) (hEnd:∀ σ,R = true->σ.T 1 = .ptr 1 0 0->σ.H 1 = some ⟨14,83,[x.a],0⟩->Q (.exit 2) σ)
  (hRet:∀ σ,R = false->σ.T 2 = .bool false->Q .ret σ) (k:Nat) (σ:St) (hI:zrp x 4 x.n.pivots.length (fun i=>(x.n.pivots.drop i).all (pwB x)) R k σ) :
  run (AFn Tryz.prog) z5s (z2h (fun σ'=>∃ m,m < k∧zrp x 4 x.n.pivots.length (fun i=>(x.n.pivots.drop i).all (pwB x)) R m σ') Q) σ:=by
 have hn:=hx0.lt
 have n1:=hn.nrow
 have n2:=hn.npiv
 have n3:=hn.nmsg
 have hs:=zj7 hx0.s (by omega)
 obtain ⟨i,hi,rfl,t1,h1,tt,hr⟩:=hI
 simp only [z5s]
 have h1':=h1
 simp only [Seat.a] at h1'
 by_cases hlt:i < x.n.pivots.length
 case neg =>
  have hlt':¬ (i:Int) < (x.n.pivots.length:Int):=by omega
  simp only at hr
  rw [List.drop_eq_nil_of_le (by omega),List.all_nil] at hr
  subst hr
  simp (maxSteps:=9^7) only [go_sem,t1,h1',tt,hlt',List.length_map]
  refine hEnd _ rfl ?_ ?_
  iterate 2 focus ((simp (maxSteps:=9^7) only [go_sem,t1,h1]) <;> rfl)
 have hlt':(i:Int) < (x.n.pivots.length:Int):=by omega
 obtain ⟨y,hx⟩:=z0f hlt
 have hgx:=z0k (f:=AV.str) hx
 have hw:=z1a (j:=i) (by omega)
 simp only at hr
 rw [z0d hx,List.all_cons] at hr
 have ch:=y4j x.s y hs (by have:=hn.piv y (List.mem_of_getElem? hx); omega)
 have hb:pwB x y = (x.s.has y && !(y.toList == x.s.lo.toList)):=rfl
 rw [hb] at hr
 clear hb
 generalize hbb:x.s.has y = bb at *
 cases bb
 ·simp only [Bool.false_and] at hr
  subst hr
  (repeat (first | simp (maxSteps:=9^7) only [go_sem,t1,h1',tt,hlt',hgx,List.length_map,Int.toNat_natCast] | refine z01 (ch) ?_ | refine z00 (ch) ?_ | refine And.intro (by omega) ?_ | refine And.intro (fun d hd=>by (repeat (rcases hd with rfl | hd; · exact ⟨rfl,rfl⟩)); cases hd) ?_))
  all_goals (repeat refine And.intro (by omega) ?_)
  refine hRet _ rfl ?_
  simp (maxSteps:=9^7) only [go_sem]
 cases b2:(y.toList == x.s.lo.toList)
 ·rw [b2] at hr
  simp only [Bool.not_false,Bool.and_true,Bool.true_and] at hr
  (repeat (first | simp (maxSteps:=9^7) only [go_sem,t1,h1',tt,hlt',hgx,hw,b2,List.length_map,Int.toNat_natCast] | refine z01 (ch) ?_ | refine z00 (ch) ?_ | refine And.intro (by omega) ?_ | refine And.intro (fun d hd=>by (repeat (rcases hd with rfl | hd; · exact ⟨rfl,rfl⟩)); cases hd) ?_))
  refine ⟨x.n.pivots.length - (i + 1),by omega,i + 1,by omega,rfl,?_,?_,?_,hr⟩
  iterate 3 focus ((simp (maxSteps:=9^7) only [go_sem,t1,h1,hw]) <;> rfl)
 ·rw [b2] at hr
  simp only [Bool.not_true,Bool.and_false,Bool.false_and] at hr
  subst hr
  (repeat (first | simp (maxSteps:=9^7) only [go_sem,t1,h1',tt,hlt',hgx,b2,List.length_map,Int.toNat_natCast] | refine z01 (ch) ?_ | refine z00 (ch) ?_ | refine And.intro (by omega) ?_ | refine And.intro (fun d hd=>by (repeat (rcases hd with rfl | hd; · exact ⟨rfl,rfl⟩)); cases hd) ?_))
  all_goals (repeat refine And.intro (by omega) ?_)
  refine hRet _ rfl ?_
  simp (maxSteps:=9^7) only [go_sem]
set_option maxHeartbeats 2000000 in
theorem pmsg_loop (x:Seat) (b:Nat) (hx0:SeatOk x b) (R:Bool) (Q:XK->St->Prop) (hEnd:∀ σ,R = true->σ.T 1 = .ptr 1 0 0->σ.H 1 = some ⟨14,83,[x.a],0⟩->Q (.exit 4) σ)
  (hRet:∀ σ,R = false->σ.T 2 = .bool false->Q .ret σ) (k:Nat) (σ:St) (hI:zrp x 5 x.n.msgs.length (fun i=>(x.n.msgs.drop i).all (mwB x)) R k σ) :
  run (AFn Tryz.prog) z5r (z2h (fun σ'=>∃ m,m < k∧zrp x 5 x.n.msgs.length (fun i=>(x.n.msgs.drop i).all (mwB x)) R m σ') Q) σ:=by
 have hn:=hx0.lt
 have n1:=hn.nrow
 have n2:=hn.npiv
 have n3:=hn.nmsg
 have hs:=zj7 hx0.s (by omega)
 obtain ⟨i,hi,rfl,t1,h1,tt,hr⟩:=hI
 simp only [z5r]
 have h1':=h1
 simp only [Seat.a] at h1'
 by_cases hlt:i < x.n.msgs.length
 case neg =>
  have hlt':¬ (i:Int) < (x.n.msgs.length:Int):=by omega
  simp only at hr
  rw [List.drop_eq_nil_of_le (by omega),List.all_nil] at hr
  subst hr
  simp (maxSteps:=9^7) only [go_sem,t1,h1',tt,hlt',List.length_map]
  refine hEnd _ rfl ?_ ?_
  iterate 2 focus ((simp (maxSteps:=9^7) only [go_sem,t1,h1]) <;> rfl)
 have hlt':(i:Int) < (x.n.msgs.length:Int):=by omega
 obtain ⟨y,hx⟩:=z0f hlt
 have hgx:=z0k (f:=Msg.a) hx
 have hw:=z1a (j:=i) (by omega)
 simp only at hr
 rw [z0d hx,List.all_cons] at hr
 have hm:=hn.msgs y (List.mem_of_getElem? hx)
 have hsl:=zbo hm
 have hs2:x.s.le 2001:=⟨Nat.le_succ_of_le hx0.s.1,Nat.le_succ_of_le hx0.s.2⟩
 have c1:=zgd y (by have:=hm.1; omega)
 have c2:=y10 y.span x.s (zj7 hsl (by omega)) (zj7 hs2 (by omega))
 have c3:=z4x y.span (zj7 hsl (by omega))
 have hb:mwB x y = eqS (y.span.meet x.s) y.span.norm:=rfl
 rw [hb] at hr
 clear hb
 unfold eqS at hr
 generalize y.span.meet x.s = u at *
 generalize y.span.norm = v at *
 generalize y.span = sp at *
 simp only [Msg.a] at hgx
 obtain ⟨lo,hi2,op⟩:=sp
 obtain ⟨ulo,uhi,uop⟩:=u
 obtain ⟨vlo,vhi,vop⟩:=v
 simp only at hr
 generalize hbb:((ulo.toList == vlo.toList) && ((uhi.toList == vhi.toList) && (uop == vop))) = bb at *
 cases bb
 ·rw [Bool.false_and] at hr
  subst hr
  (repeat (first | simp (maxSteps:=9^7) only [go_sem,t1,h1',tt,hlt',hgx,hbb,List.length_map,Int.toNat_natCast] | refine z01 (c1) ?_ | refine z00 (c1) ?_ | refine z01 (c2) ?_ | refine z00 (c2) ?_ | refine z01 (c3) ?_ | refine z00 (c3) ?_ | refine And.intro (by omega) ?_ | refine And.intro (fun d hd=>by (repeat (rcases hd with rfl | hd; · exact ⟨rfl,rfl⟩)); cases hd) ?_))
  all_goals (repeat refine And.intro (by omega) ?_)
  refine hRet _ rfl ?_
  simp (maxSteps:=9^7) only [go_sem]
 ·rw [Bool.true_and] at hr
  (repeat (first | simp (maxSteps:=9^7) only [go_sem,t1,h1',tt,hlt',hgx,hw,hbb,List.length_map,Int.toNat_natCast] | refine z01 (c1) ?_ | refine z00 (c1) ?_ | refine z01 (c2) ?_ | refine z00 (c2) ?_ | refine z01 (c3) ?_ | refine z00 (c3) ?_ | refine And.intro (by omega) ?_ | refine And.intro (fun d hd=>by (repeat (rcases hd with rfl | hd; · exact ⟨rfl,rfl⟩)); cases hd) ?_))
  refine ⟨x.n.msgs.length - (i + 1),by omega,i + 1,by omega,rfl,?_,?_,?_,hr⟩
  iterate 3 focus ((simp (maxSteps:=9^7) only [go_sem,t1,h1,hw]) <;> rfl)
set_option maxHeartbeats 2000000 in
theorem placed_ok (x:Seat) (b:Nat) (hx0:SeatOk x b):AFn Tryz.prog 44 [x.a] (.bool (zin x)):=by
 refine fn_placed rfl ?_
 unfold zin
 obtain ⟨RK,hK⟩:∃ R,x.n.rows.all (rwB x) = R:=⟨_,rfl⟩
 obtain ⟨RP,hP⟩:∃ R,x.n.pivots.all (pwB x) = R:=⟨_,rfl⟩
 obtain ⟨RM,hM⟩:∃ R,x.n.msgs.all (mwB x) = R:=⟨_,rfl⟩
 rw [hK,hP,hM]
 cases q1:(x.n.top == x.s.op)
 ·simp (maxSteps:=9^7) only [go_sem,q1]
 cases q2:(x.n.high.toList == x.s.hi.toList)
 ·simp (maxSteps:=9^7) only [go_sem,q1,q2]
 simp (maxSteps:=9^7) only [go_sem,q1,q2]
 refine z06 (zrp x 3 x.n.rows.length (fun i=>(x.n.rows.drop i).all (rwB x)) RK) (k:=x.n.rows.length) ⟨0,by omega,rfl,?_,?_,?_,hK⟩ (prow_loop x b hx0 RK _ ?_ ?_)
 iterate 3 focus ((simp (maxSteps:=9^7) only [go_sem]) <;> rfl)
 ·intro σ hk t1 h1
  subst hk
  simp (maxSteps:=9^7) only [go_sem,t1,h1]
  refine z06 (zrp x 4 x.n.pivots.length (fun i=>(x.n.pivots.drop i).all (pwB x)) RP) (k:=x.n.pivots.length) ⟨0,by omega,rfl,?_,?_,?_,hP⟩ (ppiv_loop x b hx0 RP _ ?_ ?_)
  iterate 3 focus ((simp (maxSteps:=9^7) only [go_sem,t1,h1]) <;> rfl)
  ·intro σ hk t1 h1
   subst hk
   simp (maxSteps:=9^7) only [go_sem,t1,h1]
   refine z06 (zrp x 5 x.n.msgs.length (fun i=>(x.n.msgs.drop i).all (mwB x)) RM) (k:=x.n.msgs.length) ⟨0,by omega,rfl,?_,?_,?_,hM⟩ (pmsg_loop x b hx0 RM _ ?_ ?_)
   iterate 3 focus ((simp (maxSteps:=9^7) only [go_sem,t1,h1]) <;> rfl)
   ·intro σ hk _ _
    subst hk
    simp (maxSteps:=9^7) only [go_sem]
   ·intro σ hk t4
    subst hk
    simp (maxSteps:=9^7) only [go_sem,t4]
  ·intro σ hk t4
   subst hk
   simp (maxSteps:=9^7) only [go_sem,t4]
 ·intro σ hk t4
  subst hk
  simp (maxSteps:=9^7) only [go_sem,t4]
end
end Go.Proofs.YtlhblpbfhfhlpaaGreat
