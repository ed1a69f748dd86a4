/-
  Part 15 of a proof: TeE, TeF.
-/
import Derived.Test.YtkfciapeikkmfaaDoorST14
set_option linter.unusedVariables false
set_option linter.unusedSimpArgs false
set_option maxRecDepth 100000
namespace Go.Proofs.YtkfciapeikkmfaaDoor
attribute [local go_sem] Spn.a Msg.a Par.a Nd.a Seat.a Cfg.a
section
open Go.RowKit
attribute [local go_sem ↓] z1m z0h
def z8d:List ROp:=[⟨.box 5 37 (.t 0),some 2,none,[3],[]⟩,⟨.box 10 27 (.t 1),some 3,none,[],[]⟩,⟨.mv (.c (.bool false)),some 4,none,[],[]⟩]
def zl4:Reg:=⟨[],z8d,[2,3],[],false⟩
def z8c:List ROp:=[⟨.bin .gtr (.t 44) (.t 46),some 47,(some (41,false)),[],[]⟩,⟨.pick (.t 41) (.c (.bool true)) (.t 47),some 48,none,[],[]⟩]
def z91:List ROp:=[⟨.faddr 9 (.t 3),some 9,none,[32,38,44],[]⟩,⟨.load 1 false (.t 9),some 10,none,[32,38,44],[]⟩,⟨.len false (.t 10),some 11,none,[32,38,44],[]⟩,⟨.bin .gtr (.t 11) (.c (.int .i64 0)),some 12,none,[32,38,44],[]⟩,⟨.mv (.t 12),some 13,none,[32,38,44],[]⟩,⟨.faddr 3 (.t 3),some 14,(some (13,false)),[32,38,44],[]⟩,⟨.load 1 false (.t 14),some 15,(some (13,false)),[32,38,44],[]⟩,⟨.len false (.t 15),some 16,(some (13,false)),[32,38,44],[]⟩,⟨.bin .lss (.t 16) (.c (.int .i64 2)),some 17,(some (13,false)),[32,38,44],[]⟩,⟨.pick (.t 13) (.c (.bool true)) (.t 17),some 18,none,[32,38,44],[]⟩,⟨.mv (.t 18),some 19,none,[32,38,44],[]⟩,⟨.faddr 3 (.t 3),some 20,(some (19,false)),[32,38,44],[]⟩,⟨.load 1 false (.t 20),some 21,(some (19,false)),[32,38,44],[]⟩,⟨.len false (.t 21),some 22,(some (19,false)),[32,38,44],[]⟩,⟨.faddr 0 (.t 2),some 23,(some (19,false)),[32,38,44],[]⟩,⟨.load 1 false (.t 23),some 24,(some (19,false)),[32,38,44],[]⟩,⟨.bin .gtr (.t 22) (.t 24),some 25,(some (19,false)),[32,38,44],[]⟩,⟨.pick (.t 19) (.c (.bool true)) (.t 25),some 26,none,[32,38,44],[]⟩,⟨.mv (.t 26),some 27,none,[32,38,44],[]⟩,⟨.faddr 2 (.t 3),some 28,(some (27,false)),[32,38,44],[]⟩,⟨.load 1 false (.t 28),some 29,(some (27,false)),[32,38,44],[]⟩,⟨.faddr 3 (.t 3),some 30,(some (27,false)),[32,38,44],[]⟩,⟨.load 1 false (.t 30),some 31,(some (27,false)),[32,38,44],[]⟩,⟨.callv (.c (.clo 29 [] [])) [(.t 29),(.t 31)],some 32,(some (27,false)),[38,44],[]⟩,⟨.un .not (.t 32),some 33,(some (27,false)),[38,44],[]⟩,⟨.pick (.t 27) (.c (.bool true)) (.t 33),some 34,none,[38,44],[]⟩,⟨.mv (.t 34),some 35,none,[38,44],[]⟩,⟨.faddr 8 (.t 3),some 36,(some (35,false)),[38,44],[]⟩,⟨.load 1 false (.t 36),some 37,(some (35,false)),[38,44],[]⟩,⟨.callv (.c (.clo 79 [] [])) [(.t 37)],some 38,(some (35,false)),[44],[]⟩,⟨.un .not (.t 38),some 39,(some (35,false)),[44],[]⟩,⟨.pick (.t 35) (.c (.bool true)) (.t 39),some 40,none,[44],[]⟩,⟨.mv (.t 40),some 41,none,[44],[]⟩,⟨.faddr 8 (.t 3),some 42,(some (41,false)),[44],[]⟩,⟨.load 1 false (.t 42),some 43,(some (41,false)),[44],[]⟩,⟨.callv (.c (.clo 80 [] [])) [(.t 43)],some 44,(some (41,false)),[],[]⟩,⟨.faddr 2 (.t 2),some 45,(some (41,false)),[44],[]⟩,⟨.load 1 false (.t 45),some 46,(some (41,false)),[44],[]⟩]
def zl3:Reg:=⟨z91,z8c,[32,38,44],[],true⟩
def zl2:Reg:=⟨[],[⟨.mv (.c (.bool false)),some 4,none,[],[]⟩],[],[],false⟩
def zl1:Reg:=⟨[],[⟨.mv (.c (.int .i64 0)),some 5,none,[],[]⟩],[],[],false⟩
def z8b:List ROp:=[⟨.mv (.t 5),some 49,none,[],[]⟩,⟨.faddr 3 (.t 3),some 50,none,[],[]⟩,⟨.load 1 false (.t 50),some 51,none,[],[]⟩,⟨.len false (.t 51),some 52,none,[],[]⟩,⟨.bin .lss (.t 49) (.t 52),some 53,none,[],[]⟩]
def zl0:Reg:=⟨[],z8b,[],[],false⟩
def z8a:List ROp:=[⟨.faddr 3 (.t 3),some 56,none,[],[]⟩,⟨.load 1 false (.t 56),some 57,none,[],[]⟩,⟨.mv (.t 5),some 58,none,[],[]⟩,⟨.iaddr 1 (.t 57) (.t 58),some 59,none,[],[]⟩,⟨.load 1 false (.t 59),some 60,none,[],[]⟩,⟨.bin .lss (.t 60) (.c (.int .i64 0)),some 61,none,[],[]⟩]
def zkz:Reg:=⟨[],z8a,[],[],false⟩
def zky:Reg:=⟨[],[⟨.mv (.c (.bool false)),some 4,none,[],[]⟩],[],[],false⟩
def z89:List ROp:=[⟨.mv (.t 5),some 54,none,[],[]⟩,⟨.bin .add (.t 54) (.c (.int .i64 1)),some 55,none,[],[]⟩,⟨.mv (.t 55),some 5,none,[],[]⟩]
def zkx:Reg:=⟨[],z89,[],[],false⟩
def z64:IR:=(.seq (.seq (.reg zl0)
 (.cond (.t 53) .skip
 (.exit 0)))
 (.seq (.block 1 (.seq (.reg zkz)
 (.cond (.t 61) (.seq (.reg zky)
 .ret)
 .skip)))
 (.reg zkx)))
def zkw:Reg:=⟨[],[⟨.mv (.c (.int .i64 0)),some 6,none,[],[]⟩],[],[],false⟩
def z5w:List ROp:=[⟨.mv (.t 6),some 62,none,[],[]⟩,⟨.faddr 2 (.t 3),some 63,none,[],[]⟩,⟨.load 1 false (.t 63),some 64,none,[],[]⟩,⟨.len false (.t 64),some 65,none,[],[]⟩,⟨.bin .lss (.t 62) (.t 65),some 66,none,[],[]⟩]
def zes:Reg:=⟨[],z5w,[],[],false⟩
def z5v:List ROp:=[⟨.callv (.c (.clo 78 [] [])) [(.t 85),(.t 90)],some 91,(some (84,false)),[],[]⟩,⟨.un .not (.t 91),some 92,(some (84,false)),[],[]⟩,⟨.pick (.t 84) (.c (.bool true)) (.t 92),some 93,none,[],[]⟩]
def z6d:List ROp:=[⟨.faddr 2 (.t 3),some 69,none,[91],[]⟩,⟨.load 1 false (.t 69),some 70,none,[91],[]⟩,⟨.mv (.t 6),some 71,none,[91],[]⟩,⟨.iaddr 1 (.t 70) (.t 71),some 72,none,[91],[]⟩,⟨.load 1 false (.t 72),some 73,none,[91],[]⟩,⟨.bin .eql (.t 73) (.c (.str ⟨#[]⟩)),some 74,none,[91],[]⟩,⟨.mv (.t 74),some 75,none,[91],[]⟩,⟨.faddr 2 (.t 3),some 76,(some (75,false)),[91],[]⟩,⟨.load 1 false (.t 76),some 77,(some (75,false)),[91],[]⟩,⟨.mv (.t 6),some 78,(some (75,false)),[91],[]⟩,⟨.iaddr 1 (.t 77) (.t 78),some 79,(some (75,false)),[91],[]⟩,⟨.load 1 false (.t 79),some 80,(some (75,false)),[91],[]⟩,⟨.len true (.t 80),some 81,(some (75,false)),[91],[]⟩,⟨.bin .gtr (.t 81) (.c (.int .i64 16)),some 82,(some (75,false)),[91],[]⟩,⟨.pick (.t 75) (.c (.bool true)) (.t 82),some 83,none,[91],[]⟩,⟨.mv (.t 83),some 84,none,[91],[]⟩,⟨.load 10 true (.t 3),some 85,(some (84,false)),[91],[]⟩,⟨.faddr 2 (.t 3),some 86,(some (84,false)),[91],[]⟩,⟨.load 1 false (.t 86),some 87,(some (84,false)),[91],[]⟩,⟨.mv (.t 6),some 88,(some (84,false)),[91],[]⟩,⟨.iaddr 1 (.t 87) (.t 88),some 89,(some (84,false)),[91],[]⟩,⟨.load 1 false (.t 89),some 90,(some (84,false)),[91],[]⟩]
def zer:Reg:=⟨z6d,z5v,[91],[],true⟩
def zeq:Reg:=⟨[],[⟨.mv (.c (.bool false)),some 4,none,[],[]⟩],[],[],false⟩
def z5u:List ROp:=[⟨.mv (.t 6),some 67,none,[],[]⟩,⟨.bin .add (.t 67) (.c (.int .i64 1)),some 68,none,[],[]⟩,⟨.mv (.t 68),some 6,none,[],[]⟩]
def zep:Reg:=⟨[],z5u,[],[],false⟩
def z54:IR:=(.seq (.seq (.reg zes)
 (.cond (.t 66) .skip
 (.exit 2)))
 (.seq (.block 3 (.seq (.reg zer)
 (.cond (.t 93) (.seq (.reg zeq)
 .ret)
 .skip)))
 (.reg zep)))
def zeo:Reg:=⟨[],[⟨.mv (.c (.int .i64 0)),some 7,none,[],[]⟩],[],[],false⟩
def z5t:List ROp:=[⟨.mv (.t 7),some 94,none,[],[]⟩,⟨.faddr 8 (.t 3),some 95,none,[],[]⟩,⟨.load 1 false (.t 95),some 96,none,[],[]⟩,⟨.len false (.t 96),some 97,none,[],[]⟩,⟨.bin .lss (.t 94) (.t 97),some 98,none,[],[]⟩]
def zen:Reg:=⟨[],z5t,[],[],false⟩
def z5s:List ROp:=[⟨.faddr 8 (.t 3),some 101,none,[106,8],[]⟩,⟨.load 1 false (.t 101),some 102,none,[106,8],[]⟩,⟨.mv (.t 7),some 103,none,[106,8],[]⟩,⟨.iaddr 6 (.t 102) (.t 103),some 104,none,[106,8],[]⟩,⟨.load 6 true (.t 104),some 105,none,[106,8],[]⟩,⟨.callv (.c (.clo 68 [] [])) [(.t 105)],some 106,none,[8],[]⟩,⟨.alloc 3 29 (.agg [(.str ⟨#[]⟩),(.str ⟨#[]⟩),(.bool false)]),some 8,none,[],[]⟩,⟨.store 3 (.t 8) (.t 106),none,none,[],[]⟩]
def zem:Reg:=⟨[],z5s,[106,8],[],false⟩
def z5r:List ROp:=[⟨.callv (.c (.clo 53 [] [])) [(.t 125),(.t 127)],some 128,(some (123,false)),[],[]⟩,⟨.pick (.t 123) (.c (.bool true)) (.t 128),some 129,(some (120,true)),[],[]⟩,⟨.pick (.t 120) (.t 129) (.c (.bool false)),some 130,(some (116,false)),[],[]⟩,⟨.pick (.t 116) (.c (.bool true)) (.t 130),some 131,none,[],[]⟩]
def z6c:List ROp:=[⟨.faddr 8 (.t 3),some 107,none,[128],[]⟩,⟨.load 1 false (.t 107),some 108,none,[128],[]⟩,⟨.mv (.t 7),some 109,none,[128],[]⟩,⟨.iaddr 6 (.t 108) (.t 109),some 110,none,[128],[]⟩,⟨.faddr 0 (.t 110),some 111,none,[128],[]⟩,⟨.load 1 false (.t 111),some 112,none,[128],[]⟩,⟨.faddr 7 (.t 3),some 113,none,[128],[]⟩,⟨.load 1 false (.t 113),some 114,none,[128],[]⟩,⟨.bin .gtr (.t 112) (.t 114),some 115,none,[128],[]⟩,⟨.mv (.t 115),some 116,none,[128],[]⟩,⟨.faddr 5 (.t 3),some 117,(some (116,false)),[128],[]⟩,⟨.load 1 false (.t 117),some 118,(some (116,false)),[128],[]⟩,⟨.un .not (.t 118),some 119,(some (116,false)),[128],[]⟩,⟨.mv (.t 119),some 120,(some (116,false)),[128],[]⟩,⟨.faddr 2 (.t 8),some 121,(some (120,true)),[128],[]⟩,⟨.load 1 false (.t 121),some 122,(some (120,true)),[128],[]⟩,⟨.mv (.t 122),some 123,(some (120,true)),[128],[]⟩,⟨.faddr 4 (.t 3),some 124,(some (123,false)),[128],[]⟩,⟨.load 1 false (.t 124),some 125,(some (123,false)),[128],[]⟩,⟨.faddr 1 (.t 8),some 126,(some (123,false)),[128],[]⟩,⟨.load 1 false (.t 126),some 127,(some (123,false)),[128],[]⟩]
def zel:Reg:=⟨z6c,z5r,[128],[],true⟩
def zek:Reg:=⟨[],[⟨.mv (.c (.bool false)),some 4,none,[],[]⟩],[],[],false⟩
def z5q:List ROp:=[⟨.mv (.t 7),some 99,none,[],[]⟩,⟨.bin .add (.t 99) (.c (.int .i64 1)),some 100,none,[],[]⟩,⟨.mv (.t 100),some 7,none,[],[]⟩]
def zej:Reg:=⟨[],z5q,[],[],false⟩
def z52:IR:=(.seq (.seq (.reg zen)
 (.cond (.t 98) .skip
 (.exit 4)))
 (.seq (.block 5 (.seq (.reg zem)
 (.seq (.reg zel)
 (.cond (.t 131) (.seq (.reg zek)
 .ret)
 .skip))))
 (.reg zej)))
def zei:Reg:=⟨[],[⟨.mv (.c (.bool true)),some 4,none,[],[]⟩],[],[],false⟩
def zto:IR:=(.seq (.reg zl4)
 (.seq (.seq (.reg zl3)
 (.cond (.t 48) (.seq (.reg zl2)
 .ret)
 .skip))
 (.seq (.seq (.reg zl1)
 (.block 0 (.loop z64)))
 (.seq (.seq (.reg zkw)
 (.block 2 (.loop z54)))
 (.seq (.seq (.reg zeo)
 (.block 4 (.loop z52)))
 (.seq (.reg zei)
 .ret))))))
def zid:List RDesc:=[(.tmp 4)]
theorem y5y:EqR zl4 z8d [2,3]:=fun _ _ _=>rfl
theorem y5x (C:FuncId->List AV->AV->Prop) (σ:St) (K:St->Prop):z0m C zl3 σ K = z07 C [] z8c z91 (σ.kills [32,38,44]) K:=rfl
theorem y5w:EqR zl2 [⟨.mv (.c (.bool false)),some 4,none,[],[]⟩] []:=fun _ _ _=>rfl
theorem y5v:EqR zl1 [⟨.mv (.c (.int .i64 0)),some 5,none,[],[]⟩] []:=fun _ _ _=>rfl
theorem y5u:EqR zl0 z8b []:=fun _ _ _=>rfl
theorem y5t:EqR zkz z8a []:=fun _ _ _=>rfl
theorem y5s:EqR zky [⟨.mv (.c (.bool false)),some 4,none,[],[]⟩] []:=fun _ _ _=>rfl
theorem y5r:EqR zkx z89 []:=fun _ _ _=>rfl
theorem y5q:EqR zkw [⟨.mv (.c (.int .i64 0)),some 6,none,[],[]⟩] []:=fun _ _ _=>rfl
theorem y29:EqR zes z5w []:=fun _ _ _=>rfl
theorem y28 (C:FuncId->List AV->AV->Prop) (σ:St) (K:St->Prop):z0m C zer σ K = z07 C [] z5v z6d (σ.kills [91]) K:=rfl
theorem y27:EqR zeq [⟨.mv (.c (.bool false)),some 4,none,[],[]⟩] []:=fun _ _ _=>rfl
theorem y26:EqR zep z5u []:=fun _ _ _=>rfl
theorem y25:EqR zeo [⟨.mv (.c (.int .i64 0)),some 7,none,[],[]⟩] []:=fun _ _ _=>rfl
theorem y24:EqR zen z5t []:=fun _ _ _=>rfl
theorem y23:EqR zem z5s [106,8]:=fun _ _ _=>rfl
theorem y22 (C:FuncId->List AV->AV->Prop) (σ:St) (K:St->Prop):z0m C zel σ K = z07 C [] z5r z6c (σ.kills [128]) K:=rfl
theorem y21:EqR zek [⟨.mv (.c (.bool false)),some 4,none,[],[]⟩] []:=fun _ _ _=>rfl
theorem y20:EqR zej z5q []:=fun _ _ _=>rfl
theorem y1z:EqR zei [⟨.mv (.c (.bool true)),some 4,none,[],[]⟩] []:=fun _ _ _=>rfl
theorem fn_inner21 {args:List AV} {r:AV} (ha:args.length.ble Tryd.f66.ntmps = true) (h:run (AFn Tryd.prog) zto (endQ zid r) (z0a args)):AFn Tryd.prog 66 args r :=
 AFn.of_code (pv:=false) (hint:=fun _=>[]) (c:=Tryd.f66.body.getD .skip) (by kernel_rfl) (by kernel_rfl) Tryd.func66 (by kernel_rfl) (by kernel_rfl) (by kernel_rfl) (of_decide_eq_true (by kernel_rfl)) (Nat.le_of_ble_eq_true ha) (Nat.le_of_ble_eq_true (by kernel_rfl)) (z0b h)
def z4w:List ROp:=[⟨.box 5 37 (.t 0),some 2,none,[3],[]⟩,⟨.box 10 27 (.t 1),some 3,none,[],[]⟩,⟨.mv (.c (.bool false)),some 4,none,[],[]⟩]
def zjf:Reg:=⟨[],z4w,[2,3],[],false⟩
def z4v:List ROp:=[⟨.faddr 0 (.t 3),some 5,none,[],[]⟩,⟨.load 1 false (.t 5),some 6,none,[],[]⟩,⟨.bin .lss (.t 6) (.c (.int .i64 0)),some 7,none,[],[]⟩,⟨.mv (.t 7),some 8,none,[],[]⟩,⟨.faddr 1 (.t 3),some 9,(some (8,false)),[],[]⟩,⟨.load 1 false (.t 9),some 10,(some (8,false)),[],[]⟩,⟨.bin .lss (.t 10) (.c (.int .i64 0)),some 11,(some (8,false)),[],[]⟩,⟨.pick (.t 8) (.c (.bool true)) (.t 11),some 12,none,[],[]⟩,⟨.mv (.t 12),some 13,none,[],[]⟩,⟨.faddr 7 (.t 3),some 14,(some (13,false)),[],[]⟩,⟨.load 1 false (.t 14),some 15,(some (13,false)),[],[]⟩,⟨.bin .lss (.t 15) (.c (.int .i64 0)),some 16,(some (13,false)),[],[]⟩,⟨.pick (.t 13) (.c (.bool true)) (.t 16),some 17,none,[],[]⟩,⟨.mv (.t 17),some 18,none,[],[]⟩,⟨.faddr 5 (.t 3),some 19,(some (18,false)),[],[]⟩,⟨.load 1 false (.t 19),some 20,(some (18,false)),[],[]⟩,⟨.mv (.t 20),some 21,(some (18,false)),[],[]⟩,⟨.faddr 4 (.t 3),some 22,(some (21,true)),[],[]⟩,⟨.load 1 false (.t 22),some 23,(some (21,true)),[],[]⟩,⟨.bin .neq (.t 23) (.c (.str ⟨#[]⟩)),some 24,(some (21,true)),[],[]⟩,⟨.mv (.t 24),some 25,(some (21,true)),[],[]⟩,⟨.faddr 6 (.t 3),some 26,(some (25,false)),[],[]⟩,⟨.load 1 false (.t 26),some 27,(some (25,false)),[],[]⟩,⟨.bin .neq (.t 27) (.c (.int .i64 (-1))),some 28,(some (25,false)),[],[]⟩,⟨.pick (.t 25) (.c (.bool true)) (.t 28),some 29,(some (21,true)),[],[]⟩,⟨.pick (.t 21) (.t 29) (.c (.bool false)),some 30,(some (18,false)),[],[]⟩,⟨.pick (.t 18) (.c (.bool true)) (.t 30),some 31,none,[],[]⟩]
def zje:Reg:=⟨[],z4v,[],[],false⟩
def zjd:Reg:=⟨[],[⟨.mv (.c (.bool false)),some 4,none,[],[]⟩],[],[],false⟩
def z4u:List ROp:=[⟨.faddr 5 (.t 3),some 32,none,[],[]⟩,⟨.load 1 false (.t 32),some 33,none,[],[]⟩,⟨.un .not (.t 33),some 34,none,[],[]⟩,⟨.mv (.t 34),some 35,none,[],[]⟩,⟨.faddr 4 (.t 3),some 36,(some (35,true)),[],[]⟩,⟨.load 1 false (.t 36),some 37,(some (35,true)),[],[]⟩,⟨.bin .eql (.t 37) (.c (.str ⟨#[]⟩)),some 38,(some (35,true)),[],[]⟩,⟨.mv (.t 38),some 39,(some (35,true)),[],[]⟩,⟨.faddr 4 (.t 3),some 40,(some (39,false)),[],[]⟩,⟨.load 1 false (.t 40),some 41,(some (39,false)),[],[]⟩,⟨.len true (.t 41),some 42,(some (39,false)),[],[]⟩,⟨.bin .gtr (.t 42) (.c (.int .i64 16)),some 43,(some (39,false)),[],[]⟩,⟨.pick (.t 39) (.c (.bool true)) (.t 43),some 44,(some (35,true)),[],[]⟩,⟨.mv (.t 44),some 45,(some (35,true)),[],[]⟩,⟨.faddr 6 (.t 3),some 46,(some (45,false)),[],[]⟩,⟨.load 1 false (.t 46),some 47,(some (45,false)),[],[]⟩,⟨.bin .lss (.t 47) (.c (.int .i64 0)),some 48,(some (45,false)),[],[]⟩,⟨.pick (.t 45) (.c (.bool true)) (.t 48),some 49,(some (35,true)),[],[]⟩,⟨.pick (.t 35) (.t 49) (.c (.bool false)),some 50,none,[],[]⟩]
def zjc:Reg:=⟨[],z4u,[],[],false⟩
def zjb:Reg:=⟨[],[⟨.mv (.c (.bool false)),some 4,none,[],[]⟩],[],[],false⟩
def z4t:List ROp:=[⟨.faddr 1 (.t 3),some 51,none,[],[]⟩,⟨.load 1 false (.t 51),some 52,none,[],[]⟩,⟨.bin .eql (.t 52) (.c (.int .i64 0)),some 53,none,[],[]⟩]
def zja:Reg:=⟨[],z4t,[],[],false⟩
def z4s:List ROp:=[⟨.load 5 true (.t 2),some 54,none,[56],[]⟩,⟨.load 10 true (.t 3),some 55,none,[56],[]⟩,⟨.callv (.c (.clo 65 [] [])) [(.t 54),(.t 55)],some 56,none,[],[]⟩,⟨.mv (.t 56),some 4,none,[],[]⟩]
def zj9:Reg:=⟨[],z4s,[56],[],false⟩
def z4r:List ROp:=[⟨.load 5 true (.t 2),some 57,none,[59],[]⟩,⟨.load 10 true (.t 3),some 58,none,[59],[]⟩,⟨.callv (.c (.clo 66 [] [])) [(.t 57),(.t 58)],some 59,none,[],[]⟩,⟨.mv (.t 59),some 4,none,[],[]⟩]
def zj8:Reg:=⟨[],z4r,[59],[],false⟩
def zdd:IR:=(.seq (.reg zjf)
 (.seq (.seq (.reg zje)
 (.cond (.t 31) (.seq (.reg zjd)
 .ret)
 .skip))
 (.seq (.seq (.reg zjc)
 (.cond (.t 50) (.seq (.reg zjb)
 .ret)
 .skip))
 (.seq (.seq (.reg zja)
 (.cond (.t 53) (.seq (.reg zj9)
 .ret)
 .skip))
 (.seq (.reg zj8)
 .ret)))))
def z8i:List RDesc:=[(.tmp 4)]
theorem zmn:EqR zjf z4w [2,3]:=fun _ _ _=>rfl
theorem zmm:EqR zje z4v []:=fun _ _ _=>rfl
theorem zml:EqR zjd [⟨.mv (.c (.bool false)),some 4,none,[],[]⟩] []:=fun _ _ _=>rfl
theorem zmk:EqR zjc z4u []:=fun _ _ _=>rfl
theorem zmj:EqR zjb [⟨.mv (.c (.bool false)),some 4,none,[],[]⟩] []:=fun _ _ _=>rfl
theorem zmi:EqR zja z4t []:=fun _ _ _=>rfl
theorem zmh:EqR zj9 z4s [56]:=fun _ _ _=>rfl
theorem zmg:EqR zj8 z4r [59]:=fun _ _ _=>rfl
theorem fn_right21 {args:List AV} {r:AV} (ha:args.length.ble Tryd.f50.ntmps = true) (h:run (AFn Tryd.prog) zdd (endQ z8i r) (z0a args)):AFn Tryd.prog 50 args r :=
 AFn.of_code (pv:=false) (hint:=fun _=>[]) (c:=Tryd.f50.body.getD .skip) (by kernel_rfl) (by kernel_rfl) Tryd.func50 (by kernel_rfl) (by kernel_rfl) (by kernel_rfl) (of_decide_eq_true (by kernel_rfl)) (Nat.le_of_ble_eq_true ha) (Nat.le_of_ble_eq_true (by kernel_rfl)) (z0b h)
attribute [local go_sem ↓] zto
attribute [local go_sem] zid y5y z8d y5x z8c z91 y5w y5v y5u z8b y5t z8a y5s y5r z89 y5q y29 z5w y28 z5v z6d y27 y26 z5u y25 y24 z5t y23 z5s y22 z5r z6c y21 y20 z5q y1z
attribute [local go_sem ↓] zdd
attribute [local go_sem] z8i zmn z4w zmm z4v zml zmk z4u zmj zmi z4t zmh z4s zmg z4r
def pvB (n:Nd) (p:ByteArray):Bool:=!(p.toList == (⟨#[]⟩:ByteArray).toList) && decide ((p.size:Int)≤16) && hasN n p
def msB (n:Nd) (m:Msg):Bool:=decide (m.stamp≤n.seen) && !(!n.top && (m.span.op || lt n.high m.span.hi))
def ztp (c:Cfg) (n:Nd):Bool:=decide (n.rows.length = 0) && decide (2≤n.kids.length) && decide ((n.kids.length:Int)≤c.fanout) && z60 n.pivots n.kids && z2f n.msgs && decide ((z38 n.msgs:Int)≤c.budget) && (n.kids.all (fun k=>decide (0≤k)) && n.pivots.all (pvB n) && n.msgs.all (msB n))
def z55 (n:Nd) (t:Nat) (len:Nat) (A:Nat->Bool) (R:Bool) (k:Nat) (σ:St):Prop :=
 ∃ i:Nat,i≤len∧k = len - i∧σ.T 3 = .ptr 3 0 0∧σ.H 3 = some ⟨10,27,[n.a],0⟩∧σ.T t = .int .i64 i∧A i = R
theorem kids_loop (n:Nd) (hn:n.kids.length≤2000) (R:Bool) (Q:XK->St->Prop) (hEnd:∀ σ,R = true->σ.T 3 = .ptr 3 0 0->σ.H 3 = some ⟨10,27,[n.a],0⟩->Q (.exit 0) σ)
  (hRet:∀ σ,R = false->σ.T 4 = .bool false->Q .ret σ) (k:Nat) (σ:St) (hI:z55 n 5 n.kids.length (fun i=>(n.kids.drop i).all fun k=>decide (0≤k)) R k σ) :
  run (AFn Tryd.prog) z64 (z30 (fun σ'=>∃ m,m < k∧z55 n 5 n.kids.length (fun i=>(n.kids.drop i).all fun k=>decide (0≤k)) R m σ') Q) σ:=by
 obtain ⟨i,hi,rfl,t3,h3,t5,hr⟩:=hI
 simp only [z64]
 have h3':=h3
 simp only [Nd.a] at h3'
 by_cases hlt:i < n.kids.length
 case neg =>
  have hlt':¬ (i:Int) < (n.kids.length:Int):=by omega
  simp only at hr
  rw [List.drop_eq_nil_of_le (by omega),List.all_nil] at hr
  subst hr
  simp (maxSteps:=9^7) only [go_sem,↓reduceIte,reduceCtorEq,Nat.reduceEqDiff,Nat.reduceBEq,Nat.reduceAdd,Nat.reduceSub,Nat.reduceMul,Nat.reduceLT,Nat.reduceLeDiff,Nat.reduceBNe,Int.reduceBEq,Int.reduceBNe,Int.reduceLT,Int.reduceLE,t3,h3',t5,hlt',List.length_map]
  refine hEnd _ rfl ?_ ?_
  iterate 2 focus ((simp (maxSteps:=9^7) only [go_sem,↓reduceIte,reduceCtorEq,Nat.reduceEqDiff,Nat.reduceBEq,Nat.reduceAdd,Nat.reduceSub,Nat.reduceMul,Nat.reduceLT,Nat.reduceLeDiff,Nat.reduceBNe,Int.reduceBEq,Int.reduceBNe,Int.reduceLT,Int.reduceLE,t3,h3]) <;> rfl)
 have hlt':(i:Int) < (n.kids.length:Int):=by omega
 obtain ⟨x,hx⟩:=z0f hlt
 have hgx:=z0j (f:=AV.int .i64) hx
 have hw:=z1j (j:=i) (by omega)
 simp only at hr
 rw [z0c hx,List.all_cons] at hr
 by_cases hneg:x < 0
 ·rw [decide_eq_false (by omega),Bool.false_and] at hr
  subst hr
  simp (maxSteps:=9^7) only [go_sem,↓reduceIte,reduceCtorEq,Nat.reduceEqDiff,Nat.reduceBEq,Nat.reduceAdd,Nat.reduceSub,Nat.reduceMul,Nat.reduceLT,Nat.reduceLeDiff,Nat.reduceBNe,Int.reduceBEq,Int.reduceBNe,Int.reduceLT,Int.reduceLE,t3,h3',t5,hlt',hgx,hneg,List.length_map,Int.toNat_natCast]
  (repeat refine And.intro (by omega) ?_)
  refine hRet _ rfl ?_
  simp (maxSteps:=9^7) only [go_sem,↓reduceIte,reduceCtorEq,Nat.reduceEqDiff,Nat.reduceBEq,Nat.reduceAdd,Nat.reduceSub,Nat.reduceMul,Nat.reduceLT,Nat.reduceLeDiff,Nat.reduceBNe,Int.reduceBEq,Int.reduceBNe,Int.reduceLT,Int.reduceLE]
 ·rw [decide_eq_true (by omega),Bool.true_and] at hr
  simp (maxSteps:=9^7) only [go_sem,↓reduceIte,reduceCtorEq,Nat.reduceEqDiff,Nat.reduceBEq,Nat.reduceAdd,Nat.reduceSub,Nat.reduceMul,Nat.reduceLT,Nat.reduceLeDiff,Nat.reduceBNe,Int.reduceBEq,Int.reduceBNe,Int.reduceLT,Int.reduceLE,t3,h3',t5,hlt',hgx,hneg,hw,List.length_map,Int.toNat_natCast]
  (repeat refine And.intro (by omega) ?_)
  refine ⟨n.kids.length - (i + 1),by omega,i + 1,by omega,rfl,?_,?_,?_,hr⟩
  iterate 3 focus ((simp (maxSteps:=9^7) only [go_sem,↓reduceIte,reduceCtorEq,Nat.reduceEqDiff,Nat.reduceBEq,Nat.reduceAdd,Nat.reduceSub,Nat.reduceMul,Nat.reduceLT,Nat.reduceLeDiff,Nat.reduceBNe,Int.reduceBEq,Int.reduceBNe,Int.reduceLT,Int.reduceLE,t3,h3,hw]) <;> rfl)
set_option maxHeartbeats 2000000 in
theorem y3a (n:Nd) (hn:n.Lt) (R:Bool) (Q:XK->St->Prop) (hEnd:∀ σ,R = true->σ.T 3 = .ptr 3 0 0->σ.H 3 = some ⟨10,27,[n.a],0⟩->Q (.exit 2) σ)
  (hRet:∀ σ,R = false->σ.T 4 = .bool false->Q .ret σ) (k:Nat) (σ:St) (hI:z55 n 6 n.pivots.length (fun i=>(n.pivots.drop i).all (pvB n)) R k σ) :
  run (AFn Tryd.prog) z54 (z30 (fun σ'=>∃ m,m < k∧z55 n 6 n.pivots.length (fun i=>(n.pivots.drop i).all (pvB n)) R m σ') Q) σ:=by
 obtain ⟨i,hi,rfl,t3,h3,t6,hr⟩:=hI
 simp only [z54]
 have h3':=h3
 simp only [Nd.a] at h3'
 have hnp:=hn.npiv
 by_cases hlt:i < n.pivots.length
 case neg =>
  have hlt':¬ (i:Int) < (n.pivots.length:Int):=by omega
  simp only at hr
  rw [List.drop_eq_nil_of_le (by omega),List.all_nil] at hr
  subst hr
  simp (maxSteps:=9^7) only [go_sem,↓reduceIte,reduceCtorEq,Nat.reduceEqDiff,Nat.reduceBEq,Nat.reduceAdd,Nat.reduceSub,Nat.reduceMul,Nat.reduceLT,Nat.reduceLeDiff,Nat.reduceBNe,Int.reduceBEq,Int.reduceBNe,Int.reduceLT,Int.reduceLE,t3,h3',t6,hlt',List.length_map]
  refine hEnd _ rfl ?_ ?_
  iterate 2 focus ((simp (maxSteps:=9^7) only [go_sem,↓reduceIte,reduceCtorEq,Nat.reduceEqDiff,Nat.reduceBEq,Nat.reduceAdd,Nat.reduceSub,Nat.reduceMul,Nat.reduceLT,Nat.reduceLeDiff,Nat.reduceBNe,Int.reduceBEq,Int.reduceBNe,Int.reduceLT,Int.reduceLE,t3,h3]) <;> rfl)
 have hlt':(i:Int) < (n.pivots.length:Int):=by omega
 obtain ⟨x,hx⟩:=z0f hlt
 have hgx:=z0j (f:=AV.str) hx
 have hw:=z1j (j:=i) (by omega)
 have ch:=y8z n x (by have:=hn.high; omega) (by have:=hn.piv x (List.mem_of_getElem? hx); omega)
 simp only at hr
 rw [z0c hx,List.all_cons] at hr
 unfold pvB at hr
 generalize hasN n x = b3 at *
 cases b1:(x.toList == (⟨#[]⟩:ByteArray).toList)
 case true =>
  rw [b1] at hr
  simp only [Bool.not_true,Bool.false_and] at hr
  subst hr
  (repeat (first | simp (maxSteps:=9^7) only [go_sem,↓reduceIte,reduceCtorEq,Nat.reduceEqDiff,Nat.reduceBEq,Nat.reduceAdd,Nat.reduceSub,Nat.reduceMul,Nat.reduceLT,Nat.reduceLeDiff,Nat.reduceBNe,Int.reduceBEq,Int.reduceBNe,Int.reduceLT,Int.reduceLE,t3,h3',t6,hlt',hgx,b1,List.length_map,Int.toNat_natCast] | refine z01 (ch) ?_ | refine z00 (ch) ?_ | refine And.intro (by omega) ?_ | refine And.intro (fun d hd=>by (repeat (rcases hd with rfl | hd; · exact ⟨rfl,rfl⟩)); cases hd) ?_))
  all_goals (repeat refine And.intro (by omega) ?_)
  refine hRet _ rfl ?_
  simp (maxSteps:=9^7) only [go_sem,↓reduceIte,reduceCtorEq,Nat.reduceEqDiff,Nat.reduceBEq,Nat.reduceAdd,Nat.reduceSub,Nat.reduceMul,Nat.reduceLT,Nat.reduceLeDiff,Nat.reduceBNe,Int.reduceBEq,Int.reduceBNe,Int.reduceLT,Int.reduceLE]
 rw [b1] at hr
 by_cases h16:(16:Int) < (x.size:Int)
 ·rw [decide_eq_false (by omega)] at hr
  simp only [Bool.and_false,Bool.false_and] at hr
  subst hr
  (repeat (first | simp (maxSteps:=9^7) only [go_sem,↓reduceIte,reduceCtorEq,Nat.reduceEqDiff,Nat.reduceBEq,Nat.reduceAdd,Nat.reduceSub,Nat.reduceMul,Nat.reduceLT,Nat.reduceLeDiff,Nat.reduceBNe,Int.reduceBEq,Int.reduceBNe,Int.reduceLT,Int.reduceLE,t3,h3',t6,hlt',hgx,b1,h16,List.length_map,Int.toNat_natCast] | refine z01 (ch) ?_ | refine z00 (ch) ?_ | refine And.intro (by omega) ?_ | refine And.intro (fun d hd=>by (repeat (rcases hd with rfl | hd; · exact ⟨rfl,rfl⟩)); cases hd) ?_))
  all_goals (repeat refine And.intro (by omega) ?_)
  refine hRet _ rfl ?_
  simp (maxSteps:=9^7) only [go_sem,↓reduceIte,reduceCtorEq,Nat.reduceEqDiff,Nat.reduceBEq,Nat.reduceAdd,Nat.reduceSub,Nat.reduceMul,Nat.reduceLT,Nat.reduceLeDiff,Nat.reduceBNe,Int.reduceBEq,Int.reduceBNe,Int.reduceLT,Int.reduceLE]
 rw [decide_eq_true (by omega)] at hr
 cases b3
 ·simp only [Bool.and_false,Bool.false_and] at hr
  subst hr
  (repeat (first | simp (maxSteps:=9^7) only [go_sem,↓reduceIte,reduceCtorEq,Nat.reduceEqDiff,Nat.reduceBEq,Nat.reduceAdd,Nat.reduceSub,Nat.reduceMul,Nat.reduceLT,Nat.reduceLeDiff,Nat.reduceBNe,Int.reduceBEq,Int.reduceBNe,Int.reduceLT,Int.reduceLE,t3,h3',t6,hlt',hgx,b1,h16,List.length_map,Int.toNat_natCast] | refine z01 (ch) ?_ | refine z00 (ch) ?_ | refine And.intro (by omega) ?_ | refine And.intro (fun d hd=>by (repeat (rcases hd with rfl | hd; · exact ⟨rfl,rfl⟩)); cases hd) ?_))
  refine hRet _ rfl ?_
  simp (maxSteps:=9^7) only [go_sem,↓reduceIte,reduceCtorEq,Nat.reduceEqDiff,Nat.reduceBEq,Nat.reduceAdd,Nat.reduceSub,Nat.reduceMul,Nat.reduceLT,Nat.reduceLeDiff,Nat.reduceBNe,Int.reduceBEq,Int.reduceBNe,Int.reduceLT,Int.reduceLE]
 ·simp only [Bool.not_false,Bool.and_true,Bool.true_and] at hr
  (repeat (first | simp (maxSteps:=9^7) only [go_sem,↓reduceIte,reduceCtorEq,Nat.reduceEqDiff,Nat.reduceBEq,Nat.reduceAdd,Nat.reduceSub,Nat.reduceMul,Nat.reduceLT,Nat.reduceLeDiff,Nat.reduceBNe,Int.reduceBEq,Int.reduceBNe,Int.reduceLT,Int.reduceLE,t3,h3',t6,hlt',hgx,b1,h16,hw,List.length_map,Int.toNat_natCast] | refine z01 (ch) ?_ | refine z00 (ch) ?_ | refine And.intro (by omega) ?_ | refine And.intro (fun d hd=>by (repeat (rcases hd with rfl | hd; · exact ⟨rfl,rfl⟩)); cases hd) ?_))
  refine ⟨n.pivots.length - (i + 1),by omega,i + 1,by omega,rfl,?_,?_,?_,hr⟩
  iterate 3 focus ((simp (maxSteps:=9^7) only [go_sem,↓reduceIte,reduceCtorEq,Nat.reduceEqDiff,Nat.reduceBEq,Nat.reduceAdd,Nat.reduceSub,Nat.reduceMul,Nat.reduceLT,Nat.reduceLeDiff,Nat.reduceBNe,Int.reduceBEq,Int.reduceBNe,Int.reduceLT,Int.reduceLE,t3,h3,hw]) <;> rfl)
set_option maxHeartbeats 2000000 in
theorem msgs_loop (n:Nd) (hn:n.Lt) (R:Bool) (Q:XK->St->Prop) (hEnd:∀ σ,R = true->Q (.exit 4) σ)
  (hRet:∀ σ,R = false->σ.T 4 = .bool false->Q .ret σ) (k:Nat) (σ:St) (hI:z55 n 7 n.msgs.length (fun i=>(n.msgs.drop i).all (msB n)) R k σ) :
  run (AFn Tryd.prog) z52 (z30 (fun σ'=>∃ m,m < k∧z55 n 7 n.msgs.length (fun i=>(n.msgs.drop i).all (msB n)) R m σ') Q) σ:=by
 obtain ⟨i,hi,rfl,t3,h3,t7,hr⟩:=hI
 simp only [z52]
 have h3':=h3
 simp only [Nd.a] at h3'
 have hnp:=hn.nmsg
 by_cases hlt:i < n.msgs.length
 case neg =>
  have hlt':¬ (i:Int) < (n.msgs.length:Int):=by omega
  simp only at hr
  rw [List.drop_eq_nil_of_le (by omega),List.all_nil] at hr
  subst hr
  simp (maxSteps:=9^7) only [go_sem,↓reduceIte,reduceCtorEq,Nat.reduceEqDiff,Nat.reduceBEq,Nat.reduceAdd,Nat.reduceSub,Nat.reduceMul,Nat.reduceLT,Nat.reduceLeDiff,Nat.reduceBNe,Int.reduceBEq,Int.reduceBNe,Int.reduceLT,Int.reduceLE,t3,h3',t7,hlt',List.length_map]
  exact hEnd _ rfl
 have hlt':(i:Int) < (n.msgs.length:Int):=by omega
 obtain ⟨x,hx⟩:=z0f hlt
 have hgx:=z0j (f:=Msg.a) hx
 have hw:=z1j (j:=i) (by omega)
 have hxm:=hn.msgs x (List.mem_of_getElem? hx)
 have cs:=zig x (by have:=hxm.1; omega)
 have hsl:=zd7 hxm
 have cl:=z39 n.high x.span.hi (by have:=hn.high; omega) (by have:=hsl.2; omega)
 simp only at hr
 rw [z0c hx,List.all_cons] at hr
 have hb:msB n x = (decide (x.stamp≤n.seen) && !(!n.top && (x.span.op || lt n.high x.span.hi))):=rfl
 rw [hb] at hr
 clear hb
 generalize x.span = sp at *
 obtain ⟨lo,hi2,op⟩:=sp
 simp only [Msg.a] at hgx
 simp only at cl hr
 generalize lt n.high hi2 = b3 at *
 by_cases hs:n.seen < x.stamp
 ·rw [decide_eq_false (by omega)] at hr
  simp only [Bool.false_and] at hr
  subst hr
  (repeat (first | simp (maxSteps:=9^7) only [go_sem,↓reduceIte,reduceCtorEq,Nat.reduceEqDiff,Nat.reduceBEq,Nat.reduceAdd,Nat.reduceSub,Nat.reduceMul,Nat.reduceLT,Nat.reduceLeDiff,Nat.reduceBNe,Int.reduceBEq,Int.reduceBNe,Int.reduceLT,Int.reduceLE,t3,h3',t7,hlt',hgx,hs,List.length_map,Int.toNat_natCast] | refine z01 (cs) ?_ | refine z00 (cs) ?_ | refine z01 (cl) ?_ | refine z00 (cl) ?_ | refine And.intro (by omega) ?_ | refine And.intro (fun d hd=>by (repeat (rcases hd with rfl | hd; · exact ⟨rfl,rfl⟩)); cases hd) ?_))
  all_goals (repeat refine And.intro (by omega) ?_)
  refine hRet _ rfl ?_
  simp (maxSteps:=9^7) only [go_sem,↓reduceIte,reduceCtorEq,Nat.reduceEqDiff,Nat.reduceBEq,Nat.reduceAdd,Nat.reduceSub,Nat.reduceMul,Nat.reduceLT,Nat.reduceLeDiff,Nat.reduceBNe,Int.reduceBEq,Int.reduceBNe,Int.reduceLT,Int.reduceLE]
 rw [decide_eq_true (by omega)] at hr
 cases htop:n.top
 ·rw [htop] at hr h3'
  cases op
  ·cases b3
   ·simp only [Bool.not_false,Bool.true_and,Bool.or_false,Bool.or_self,Bool.and_false] at hr
    (repeat (first | simp (maxSteps:=9^7) only [go_sem,↓reduceIte,reduceCtorEq,Nat.reduceEqDiff,Nat.reduceBEq,Nat.reduceAdd,Nat.reduceSub,Nat.reduceMul,Nat.reduceLT,Nat.reduceLeDiff,Nat.reduceBNe,Int.reduceBEq,Int.reduceBNe,Int.reduceLT,Int.reduceLE,t3,h3',t7,hlt',hgx,hs,hw,List.length_map,Int.toNat_natCast] | refine z01 (cs) ?_ | refine z00 (cs) ?_ | refine z01 (cl) ?_ | refine z00 (cl) ?_ | refine And.intro (by omega) ?_ | refine And.intro (fun d hd=>by (repeat (rcases hd with rfl | hd; · exact ⟨rfl,rfl⟩)); cases hd) ?_))
    refine ⟨n.msgs.length - (i + 1),by omega,i + 1,by omega,rfl,?_,?_,?_,hr⟩
    iterate 3 focus ((simp (maxSteps:=9^7) only [go_sem,↓reduceIte,reduceCtorEq,Nat.reduceEqDiff,Nat.reduceBEq,Nat.reduceAdd,Nat.reduceSub,Nat.reduceMul,Nat.reduceLT,Nat.reduceLeDiff,Nat.reduceBNe,Int.reduceBEq,Int.reduceBNe,Int.reduceLT,Int.reduceLE,t3,h3,hw]) <;> rfl)
   ·simp only [Bool.not_false,Bool.true_and,Bool.or_true,Bool.and_true,Bool.not_true,Bool.and_false,Bool.false_and] at hr
    subst hr
    (repeat (first | simp (maxSteps:=9^7) only [go_sem,↓reduceIte,reduceCtorEq,Nat.reduceEqDiff,Nat.reduceBEq,Nat.reduceAdd,Nat.reduceSub,Nat.reduceMul,Nat.reduceLT,Nat.reduceLeDiff,Nat.reduceBNe,Int.reduceBEq,Int.reduceBNe,Int.reduceLT,Int.reduceLE,t3,h3',t7,hlt',hgx,hs,hw,List.length_map,Int.toNat_natCast] | refine z01 (cs) ?_ | refine z00 (cs) ?_ | refine z01 (cl) ?_ | refine z00 (cl) ?_ | refine And.intro (by omega) ?_ | refine And.intro (fun d hd=>by (repeat (rcases hd with rfl | hd; · exact ⟨rfl,rfl⟩)); cases hd) ?_))
    refine hRet _ rfl ?_
    simp (maxSteps:=9^7) only [go_sem,↓reduceIte,reduceCtorEq,Nat.reduceEqDiff,Nat.reduceBEq,Nat.reduceAdd,Nat.reduceSub,Nat.reduceMul,Nat.reduceLT,Nat.reduceLeDiff,Nat.reduceBNe,Int.reduceBEq,Int.reduceBNe,Int.reduceLT,Int.reduceLE]
  ·simp only [Bool.not_false,Bool.true_and,Bool.true_or,Bool.and_true,Bool.not_true,Bool.and_false,Bool.false_and] at hr
   subst hr
   (repeat (first | simp (maxSteps:=9^7) only [go_sem,↓reduceIte,reduceCtorEq,Nat.reduceEqDiff,Nat.reduceBEq,Nat.reduceAdd,Nat.reduceSub,Nat.reduceMul,Nat.reduceLT,Nat.reduceLeDiff,Nat.reduceBNe,Int.reduceBEq,Int.reduceBNe,Int.reduceLT,Int.reduceLE,t3,h3',t7,hlt',hgx,hs,hw,List.length_map,Int.toNat_natCast] | refine z01 (cs) ?_ | refine z00 (cs) ?_ | refine z01 (cl) ?_ | refine z00 (cl) ?_ | refine And.intro (by omega) ?_ | refine And.intro (fun d hd=>by (repeat (rcases hd with rfl | hd; · exact ⟨rfl,rfl⟩)); cases hd) ?_))
   refine hRet _ rfl ?_
   simp (maxSteps:=9^7) only [go_sem,↓reduceIte,reduceCtorEq,Nat.reduceEqDiff,Nat.reduceBEq,Nat.reduceAdd,Nat.reduceSub,Nat.reduceMul,Nat.reduceLT,Nat.reduceLeDiff,Nat.reduceBNe,Int.reduceBEq,Int.reduceBNe,Int.reduceLT,Int.reduceLE]
 ·rw [htop] at hr h3'
  simp only [Bool.not_true,Bool.false_and,Bool.not_false,Bool.and_true,Bool.true_and] at hr
  (repeat (first | simp (maxSteps:=9^7) only [go_sem,↓reduceIte,reduceCtorEq,Nat.reduceEqDiff,Nat.reduceBEq,Nat.reduceAdd,Nat.reduceSub,Nat.reduceMul,Nat.reduceLT,Nat.reduceLeDiff,Nat.reduceBNe,Int.reduceBEq,Int.reduceBNe,Int.reduceLT,Int.reduceLE,t3,h3',t7,hlt',hgx,hs,hw,List.length_map,Int.toNat_natCast] | refine z01 (cs) ?_ | refine z00 (cs) ?_ | refine z01 (cl) ?_ | refine z00 (cl) ?_ | refine And.intro (by omega) ?_ | refine And.intro (fun d hd=>by (repeat (rcases hd with rfl | hd; · exact ⟨rfl,rfl⟩)); cases hd) ?_))
  refine ⟨n.msgs.length - (i + 1),by omega,i + 1,by omega,rfl,?_,?_,?_,hr⟩
  iterate 3 focus ((simp (maxSteps:=9^7) only [go_sem,↓reduceIte,reduceCtorEq,Nat.reduceEqDiff,Nat.reduceBEq,Nat.reduceAdd,Nat.reduceSub,Nat.reduceMul,Nat.reduceLT,Nat.reduceLeDiff,Nat.reduceBNe,Int.reduceBEq,Int.reduceBNe,Int.reduceLT,Int.reduceLE,t3,h3,hw]) <;> rfl)
set_option maxHeartbeats 2000000 in
theorem inner21_ok (c:Cfg) (n:Nd) (hn:n.Lt):AFn Tryd.prog 66 [c.a,n.a] (.bool (ztp c n)):=by
 refine fn_inner21 rfl ?_
 have h1:=hn.npiv
 have h2:=hn.nkid
 have h3:=hn.nmsg
 have h4:=hn.nrow
 have cR:=znm n.pivots n.kids (by omega) (fun x hx=>by have:=hn.piv x hx; omega)
 have cA:=refAll n.msgs (by omega) (fun m hm=>by obtain ⟨a,b,_⟩:=hn.msgs m hm; omega)
 have cZ:=ref18Size n.msgs ⟨by omega,fun m hm=>by obtain ⟨a,b,d⟩:=hn.msgs m hm; omega⟩
 unfold ztp
 obtain ⟨RK,hK⟩:∃ R,n.kids.all (fun k=>decide (0≤k)) = R:=⟨_,rfl⟩
 obtain ⟨RP,hP⟩:∃ R,n.pivots.all (pvB n) = R:=⟨_,rfl⟩
 obtain ⟨RM,hM⟩:∃ R,n.msgs.all (msB n) = R:=⟨_,rfl⟩
 rw [hK,hP,hM]
 by_cases q1:n.rows.length = 0
 case neg =>
  have q1':(0:Int) < (n.rows.length:Int):=by omega
  rw [decide_eq_false q1]
  (repeat (first | simp (maxSteps:=9^7) only [go_sem,↓reduceIte,reduceCtorEq,Nat.reduceEqDiff,Nat.reduceBEq,Nat.reduceAdd,Nat.reduceSub,Nat.reduceMul,Nat.reduceLT,Nat.reduceLeDiff,Nat.reduceBNe,Int.reduceBEq,Int.reduceBNe,Int.reduceLT,Int.reduceLE,List.length_map,q1'] | refine z01 (cR) ?_ | refine z00 (cR) ?_ | refine z01 (cA) ?_ | refine z00 (cA) ?_ | refine z01 (cZ) ?_ | refine z00 (cZ) ?_ | refine And.intro (by omega) ?_ | refine And.intro (fun d hd=>by (repeat (rcases hd with rfl | hd; · exact ⟨rfl,rfl⟩)); cases hd) ?_))
 have q1':¬ (0:Int) < (n.rows.length:Int):=by omega
 rw [decide_eq_true q1]
 by_cases q2:2≤n.kids.length
 case neg =>
  have q2':(n.kids.length:Int) < 2:=by omega
  rw [decide_eq_false q2]
  (repeat (first | simp (maxSteps:=9^7) only [go_sem,↓reduceIte,reduceCtorEq,Nat.reduceEqDiff,Nat.reduceBEq,Nat.reduceAdd,Nat.reduceSub,Nat.reduceMul,Nat.reduceLT,Nat.reduceLeDiff,Nat.reduceBNe,Int.reduceBEq,Int.reduceBNe,Int.reduceLT,Int.reduceLE,List.length_map,q1',q2'] | refine z01 (cR) ?_ | refine z00 (cR) ?_ | refine z01 (cA) ?_ | refine z00 (cA) ?_ | refine z01 (cZ) ?_ | refine z00 (cZ) ?_ | refine And.intro (by omega) ?_ | refine And.intro (fun d hd=>by (repeat (rcases hd with rfl | hd; · exact ⟨rfl,rfl⟩)); cases hd) ?_))
 have q2':¬ (n.kids.length:Int) < 2:=by omega
 rw [decide_eq_true q2]
 by_cases q3:(n.kids.length:Int)≤c.fanout
 case neg =>
  have q3':c.fanout < (n.kids.length:Int):=by omega
  rw [decide_eq_false q3]
  (repeat (first | simp (maxSteps:=9^7) only [go_sem,↓reduceIte,reduceCtorEq,Nat.reduceEqDiff,Nat.reduceBEq,Nat.reduceAdd,Nat.reduceSub,Nat.reduceMul,Nat.reduceLT,Nat.reduceLeDiff,Nat.reduceBNe,Int.reduceBEq,Int.reduceBNe,Int.reduceLT,Int.reduceLE,List.length_map,q1',q2',q3'] | refine z01 (cR) ?_ | refine z00 (cR) ?_ | refine z01 (cA) ?_ | refine z00 (cA) ?_ | refine z01 (cZ) ?_ | refine z00 (cZ) ?_ | refine And.intro (by omega) ?_ | refine And.intro (fun d hd=>by (repeat (rcases hd with rfl | hd; · exact ⟨rfl,rfl⟩)); cases hd) ?_))
 have q3':¬ c.fanout < (n.kids.length:Int):=by omega
 rw [decide_eq_true q3]
 generalize z60 n.pivots n.kids = b1 at *
 cases b1
 ·(repeat (first | simp (maxSteps:=9^7) only [go_sem,↓reduceIte,reduceCtorEq,Nat.reduceEqDiff,Nat.reduceBEq,Nat.reduceAdd,Nat.reduceSub,Nat.reduceMul,Nat.reduceLT,Nat.reduceLeDiff,Nat.reduceBNe,Int.reduceBEq,Int.reduceBNe,Int.reduceLT,Int.reduceLE,List.length_map,q1',q2',q3'] | refine z01 (cR) ?_ | refine z00 (cR) ?_ | refine z01 (cA) ?_ | refine z00 (cA) ?_ | refine z01 (cZ) ?_ | refine z00 (cZ) ?_ | refine And.intro (by omega) ?_ | refine And.intro (fun d hd=>by (repeat (rcases hd with rfl | hd; · exact ⟨rfl,rfl⟩)); cases hd) ?_))
 generalize z2f n.msgs = b2 at *
 cases b2
 ·(repeat (first | simp (maxSteps:=9^7) only [go_sem,↓reduceIte,reduceCtorEq,Nat.reduceEqDiff,Nat.reduceBEq,Nat.reduceAdd,Nat.reduceSub,Nat.reduceMul,Nat.reduceLT,Nat.reduceLeDiff,Nat.reduceBNe,Int.reduceBEq,Int.reduceBNe,Int.reduceLT,Int.reduceLE,List.length_map,q1',q2',q3'] | refine z01 (cR) ?_ | refine z00 (cR) ?_ | refine z01 (cA) ?_ | refine z00 (cA) ?_ | refine z01 (cZ) ?_ | refine z00 (cZ) ?_ | refine And.intro (by omega) ?_ | refine And.intro (fun d hd=>by (repeat (rcases hd with rfl | hd; · exact ⟨rfl,rfl⟩)); cases hd) ?_))
 by_cases q4:(z38 n.msgs:Int)≤c.budget
 case neg =>
  have q4':c.budget < (z38 n.msgs:Int):=by omega
  rw [decide_eq_false q4]
  (repeat (first | simp (maxSteps:=9^7) only [go_sem,↓reduceIte,reduceCtorEq,Nat.reduceEqDiff,Nat.reduceBEq,Nat.reduceAdd,Nat.reduceSub,Nat.reduceMul,Nat.reduceLT,Nat.reduceLeDiff,Nat.reduceBNe,Int.reduceBEq,Int.reduceBNe,Int.reduceLT,Int.reduceLE,List.length_map,q1',q2',q3',q4'] | refine z01 (cR) ?_ | refine z00 (cR) ?_ | refine z01 (cA) ?_ | refine z00 (cA) ?_ | refine z01 (cZ) ?_ | refine z00 (cZ) ?_ | refine And.intro (by omega) ?_ | refine And.intro (fun d hd=>by (repeat (rcases hd with rfl | hd; · exact ⟨rfl,rfl⟩)); cases hd) ?_))
 have q4':¬ c.budget < (z38 n.msgs:Int):=by omega
 rw [decide_eq_true q4]
 (repeat (first | simp (maxSteps:=9^7) only [go_sem,↓reduceIte,reduceCtorEq,Nat.reduceEqDiff,Nat.reduceBEq,Nat.reduceAdd,Nat.reduceSub,Nat.reduceMul,Nat.reduceLT,Nat.reduceLeDiff,Nat.reduceBNe,Int.reduceBEq,Int.reduceBNe,Int.reduceLT,Int.reduceLE,List.length_map,q1',q2',q3',q4'] | refine z01 (cR) ?_ | refine z00 (cR) ?_ | refine z01 (cA) ?_ | refine z00 (cA) ?_ | refine z01 (cZ) ?_ | refine z00 (cZ) ?_ | refine And.intro (by omega) ?_ | refine And.intro (fun d hd=>by (repeat (rcases hd with rfl | hd; · exact ⟨rfl,rfl⟩)); cases hd) ?_))
 clear cR cA cZ q1' q2' q3' q4' q4 q3 q2 q1
 refine z08 (z55 n 5 n.kids.length (fun i=>(n.kids.drop i).all fun k=>decide (0≤k)) RK) (k:=n.kids.length) ⟨0,by omega,rfl,?_,?_,?_,hK⟩ (kids_loop n h2 RK _ ?_ ?_)
 iterate 3 focus ((simp (maxSteps:=9^7) only [go_sem,↓reduceIte,reduceCtorEq,Nat.reduceEqDiff,Nat.reduceBEq,Nat.reduceAdd,Nat.reduceSub,Nat.reduceMul,Nat.reduceLT,Nat.reduceLeDiff,Nat.reduceBNe,Int.reduceBEq,Int.reduceBNe,Int.reduceLT,Int.reduceLE]) <;> rfl)
 ·intro σ hk t3 h3
  subst hk
  simp (maxSteps:=9^7) only [go_sem,↓reduceIte,reduceCtorEq,Nat.reduceEqDiff,Nat.reduceBEq,Nat.reduceAdd,Nat.reduceSub,Nat.reduceMul,Nat.reduceLT,Nat.reduceLeDiff,Nat.reduceBNe,Int.reduceBEq,Int.reduceBNe,Int.reduceLT,Int.reduceLE,t3,h3]
  refine z08 (z55 n 6 n.pivots.length (fun i=>(n.pivots.drop i).all (pvB n)) RP) (k:=n.pivots.length) ⟨0,by omega,rfl,?_,?_,?_,hP⟩ (y3a n hn RP _ ?_ ?_)
  iterate 3 focus ((simp (maxSteps:=9^7) only [go_sem,↓reduceIte,reduceCtorEq,Nat.reduceEqDiff,Nat.reduceBEq,Nat.reduceAdd,Nat.reduceSub,Nat.reduceMul,Nat.reduceLT,Nat.reduceLeDiff,Nat.reduceBNe,Int.reduceBEq,Int.reduceBNe,Int.reduceLT,Int.reduceLE,t3,h3]) <;> rfl)
  ·intro σ hk t3 h3
   subst hk
   simp (maxSteps:=9^7) only [go_sem,↓reduceIte,reduceCtorEq,Nat.reduceEqDiff,Nat.reduceBEq,Nat.reduceAdd,Nat.reduceSub,Nat.reduceMul,Nat.reduceLT,Nat.reduceLeDiff,Nat.reduceBNe,Int.reduceBEq,Int.reduceBNe,Int.reduceLT,Int.reduceLE,t3,h3]
   refine z08 (z55 n 7 n.msgs.length (fun i=>(n.msgs.drop i).all (msB n)) RM) (k:=n.msgs.length) ⟨0,by omega,rfl,?_,?_,?_,hM⟩ (msgs_loop n hn RM _ ?_ ?_)
   iterate 3 focus ((simp (maxSteps:=9^7) only [go_sem,↓reduceIte,reduceCtorEq,Nat.reduceEqDiff,Nat.reduceBEq,Nat.reduceAdd,Nat.reduceSub,Nat.reduceMul,Nat.reduceLT,Nat.reduceLeDiff,Nat.reduceBNe,Int.reduceBEq,Int.reduceBNe,Int.reduceLT,Int.reduceLE,t3,h3]) <;> rfl)
   ·intro σ hk
    subst hk
    simp (maxSteps:=9^7) only [go_sem,↓reduceIte,reduceCtorEq,Nat.reduceEqDiff,Nat.reduceBEq,Nat.reduceAdd,Nat.reduceSub,Nat.reduceMul,Nat.reduceLT,Nat.reduceLeDiff,Nat.reduceBNe,Int.reduceBEq,Int.reduceBNe,Int.reduceLT,Int.reduceLE]
   ·intro σ hk t4
    subst hk
    simp (maxSteps:=9^7) only [go_sem,↓reduceIte,reduceCtorEq,Nat.reduceEqDiff,Nat.reduceBEq,Nat.reduceAdd,Nat.reduceSub,Nat.reduceMul,Nat.reduceLT,Nat.reduceLeDiff,Nat.reduceBNe,Int.reduceBEq,Int.reduceBNe,Int.reduceLT,Int.reduceLE,t4]
  ·intro σ hk t4
   subst hk
   simp (maxSteps:=9^7) only [go_sem,↓reduceIte,reduceCtorEq,Nat.reduceEqDiff,Nat.reduceBEq,Nat.reduceAdd,Nat.reduceSub,Nat.reduceMul,Nat.reduceLT,Nat.reduceLeDiff,Nat.reduceBNe,Int.reduceBEq,Int.reduceBNe,Int.reduceLT,Int.reduceLE,t4]
 ·intro σ hk t4
  subst hk
  simp (maxSteps:=9^7) only [go_sem,↓reduceIte,reduceCtorEq,Nat.reduceEqDiff,Nat.reduceBEq,Nat.reduceAdd,Nat.reduceSub,Nat.reduceMul,Nat.reduceLT,Nat.reduceLeDiff,Nat.reduceBNe,Int.reduceBEq,Int.reduceBNe,Int.reduceLT,Int.reduceLE,t4]
end
section
open Go.RowKit
attribute [local go_sem ↓] z1m z0h
attribute [local go_sem ↓] zdd
attribute [local go_sem] z8i zmn z4w zmm z4v zml zmk z4u zmj zmi z4t zmh z4s zmg z4r
def zrn:Reg:=⟨[],[⟨.box 14 43 (.t 0),some 1,none,[],[]⟩,⟨.mv (.c (.bool false)),some 2,none,[],[]⟩],[1],[],false⟩
def zc3:List ROp:=[⟨.faddr 0 (.t 1),some 7,none,[],[]⟩,⟨.faddr 5 (.t 7),some 8,none,[],[]⟩,⟨.load 1 false (.t 8),some 9,none,[],[]⟩,⟨.faddr 10 (.t 1),some 10,none,[],[]⟩,⟨.faddr 2 (.t 10),some 11,none,[],[]⟩,⟨.load 1 false (.t 11),some 12,none,[],[]⟩,⟨.beq true (.t 9) (.t 12),some 13,none,[],[]⟩,⟨.mv (.t 13),some 14,none,[],[]⟩,⟨.faddr 0 (.t 1),some 15,(some (14,false)),[],[]⟩,⟨.faddr 4 (.t 15),some 16,(some (14,false)),[],[]⟩,⟨.load 1 false (.t 16),some 17,(some (14,false)),[],[]⟩,⟨.faddr 10 (.t 1),some 18,(some (14,false)),[],[]⟩,⟨.faddr 1 (.t 18),some 19,(some (14,false)),[],[]⟩,⟨.load 1 false (.t 19),some 20,(some (14,false)),[],[]⟩,⟨.bin .neq (.t 17) (.t 20),some 21,(some (14,false)),[],[]⟩,⟨.pick (.t 14) (.c (.bool true)) (.t 21),some 22,none,[],[]⟩]
def zrm:Reg:=⟨[],zc3,[],[],false⟩
def zrl:Reg:=⟨[],[⟨.mv (.c (.bool false)),some 2,none,[],[]⟩],[],[],false⟩
def zrk:Reg:=⟨[],[⟨.mv (.c (.int .i64 0)),some 3,none,[],[]⟩],[],[],false⟩
def zc2:List ROp:=[⟨.mv (.t 3),some 23,none,[],[]⟩,⟨.faddr 0 (.t 1),some 24,none,[],[]⟩,⟨.faddr 9 (.t 24),some 25,none,[],[]⟩,⟨.load 1 false (.t 25),some 26,none,[],[]⟩,⟨.len false (.t 26),some 27,none,[],[]⟩,⟨.bin .lss (.t 23) (.t 27),some 28,none,[],[]⟩]
def zrj:Reg:=⟨[],zc2,[],[],false⟩
def zc1:List ROp:=[⟨.callv (.c (.clo 67 [] [])) [(.t 32),(.t 39)],some 40,none,[],[]⟩,⟨.un .not (.t 40),some 41,none,[],[]⟩]
def zdn:List ROp:=[⟨.faddr 10 (.t 1),some 31,none,[40],[]⟩,⟨.load 3 true (.t 31),some 32,none,[40],[]⟩,⟨.faddr 0 (.t 1),some 33,none,[40],[]⟩,⟨.faddr 9 (.t 33),some 34,none,[40],[]⟩,⟨.load 1 false (.t 34),some 35,none,[40],[]⟩,⟨.mv (.t 3),some 36,none,[40],[]⟩,⟨.iaddr 2 (.t 35) (.t 36),some 37,none,[40],[]⟩,⟨.faddr 0 (.t 37),some 38,none,[40],[]⟩,⟨.load 1 false (.t 38),some 39,none,[40],[]⟩]
def zri:Reg:=⟨zdn,zc1,[40],[],true⟩
def zrh:Reg:=⟨[],[⟨.mv (.c (.bool false)),some 2,none,[],[]⟩],[],[],false⟩
def zc0:List ROp:=[⟨.mv (.t 3),some 29,none,[],[]⟩,⟨.bin .add (.t 29) (.c (.int .i64 1)),some 30,none,[],[]⟩,⟨.mv (.t 30),some 3,none,[],[]⟩]
def zrg:Reg:=⟨[],zc0,[],[],false⟩
def z8m:IR:=(.seq (.seq (.reg zrj)
 (.cond (.t 28) .skip
 (.exit 0)))
 (.seq (.block 1 (.seq (.reg zri)
 (.cond (.t 41) (.seq (.reg zrh)
 .ret)
 .skip)))
 (.reg zrg)))
def zrf:Reg:=⟨[],[⟨.mv (.c (.int .i64 0)),some 4,none,[],[]⟩],[],[],false⟩
def z88:List ROp:=[⟨.mv (.t 4),some 42,none,[],[]⟩,⟨.faddr 0 (.t 1),some 43,none,[],[]⟩,⟨.faddr 2 (.t 43),some 44,none,[],[]⟩,⟨.load 1 false (.t 44),some 45,none,[],[]⟩,⟨.len false (.t 45),some 46,none,[],[]⟩,⟨.bin .lss (.t 42) (.t 46),some 47,none,[],[]⟩]
def zkp:Reg:=⟨[],z88,[],[],false⟩
def z87:List ROp:=[⟨.bin .eql (.t 66) (.t 69),some 70,(some (60,false)),[],[]⟩,⟨.pick (.t 60) (.c (.bool true)) (.t 70),some 71,none,[],[]⟩]
def z90:List ROp:=[⟨.faddr 10 (.t 1),some 50,none,[58],[]⟩,⟨.load 3 true (.t 50),some 51,none,[58],[]⟩,⟨.faddr 0 (.t 1),some 52,none,[58],[]⟩,⟨.faddr 2 (.t 52),some 53,none,[58],[]⟩,⟨.load 1 false (.t 53),some 54,none,[58],[]⟩,⟨.mv (.t 4),some 55,none,[58],[]⟩,⟨.iaddr 1 (.t 54) (.t 55),some 56,none,[58],[]⟩,⟨.load 1 false (.t 56),some 57,none,[58],[]⟩,⟨.callv (.c (.clo 67 [] [])) [(.t 51),(.t 57)],some 58,none,[],[]⟩,⟨.un .not (.t 58),some 59,none,[],[]⟩,⟨.mv (.t 59),some 60,none,[],[]⟩,⟨.faddr 0 (.t 1),some 61,(some (60,false)),[],[]⟩,⟨.faddr 2 (.t 61),some 62,(some (60,false)),[],[]⟩,⟨.load 1 false (.t 62),some 63,(some (60,false)),[],[]⟩,⟨.mv (.t 4),some 64,(some (60,false)),[],[]⟩,⟨.iaddr 1 (.t 63) (.t 64),some 65,(some (60,false)),[],[]⟩,⟨.load 1 false (.t 65),some 66,(some (60,false)),[],[]⟩,⟨.faddr 10 (.t 1),some 67,(some (60,false)),[],[]⟩,⟨.faddr 0 (.t 67),some 68,(some (60,false)),[],[]⟩,⟨.load 1 false (.t 68),some 69,(some (60,false)),[],[]⟩]
def zko:Reg:=⟨z90,z87,[58],[],true⟩
def zkn:Reg:=⟨[],[⟨.mv (.c (.bool false)),some 2,none,[],[]⟩],[],[],false⟩
def z86:List ROp:=[⟨.mv (.t 4),some 48,none,[],[]⟩,⟨.bin .add (.t 48) (.c (.int .i64 1)),some 49,none,[],[]⟩,⟨.mv (.t 49),some 4,none,[],[]⟩]
def zkm:Reg:=⟨[],z86,[],[],false⟩
def z63:IR:=(.seq (.seq (.reg zkp)
 (.cond (.t 47) .skip
 (.exit 2)))
 (.seq (.block 3 (.seq (.reg zko)
 (.cond (.t 71) (.seq (.reg zkn)
 .ret)
 .skip)))
 (.reg zkm)))
def zkl:Reg:=⟨[],[⟨.mv (.c (.int .i64 0)),some 5,none,[],[]⟩],[],[],false⟩
def z85:List ROp:=[⟨.mv (.t 5),some 72,none,[],[]⟩,⟨.faddr 0 (.t 1),some 73,none,[],[]⟩,⟨.faddr 8 (.t 73),some 74,none,[],[]⟩,⟨.load 1 false (.t 74),some 75,none,[],[]⟩,⟨.len false (.t 75),some 76,none,[],[]⟩,⟨.bin .lss (.t 72) (.t 76),some 77,none,[],[]⟩]
def zkk:Reg:=⟨[],z85,[],[],false⟩
def z84:List ROp:=[⟨.faddr 0 (.t 1),some 80,none,[86,6],[]⟩,⟨.faddr 8 (.t 80),some 81,none,[86,6],[]⟩,⟨.load 1 false (.t 81),some 82,none,[86,6],[]⟩,⟨.mv (.t 5),some 83,none,[86,6],[]⟩,⟨.iaddr 6 (.t 82) (.t 83),some 84,none,[86,6],[]⟩,⟨.load 6 true (.t 84),some 85,none,[86,6],[]⟩,⟨.callv (.c (.clo 68 [] [])) [(.t 85)],some 86,none,[6],[]⟩,⟨.alloc 3 29 (.agg [(.str ⟨#[]⟩),(.str ⟨#[]⟩),(.bool false)]),some 6,none,[],[]⟩,⟨.store 3 (.t 6) (.t 86),none,none,[],[]⟩]
def zkj:Reg:=⟨[],z84,[86,6],[],false⟩
def z83:List ROp:=[⟨.callv (.c (.clo 54 [] [])) [(.t 91)],some 92,none,[],[]⟩,⟨.feq true [(0,1),(1,1),(2,2)] (.t 90) (.t 92),some 93,none,[],[]⟩]
def z8z:List ROp:=[⟨.load 3 true (.t 6),some 87,none,[90,92],[]⟩,⟨.faddr 10 (.t 1),some 88,none,[90,92],[]⟩,⟨.load 3 true (.t 88),some 89,none,[90,92],[]⟩,⟨.callv (.c (.clo 30 [] [])) [(.t 87),(.t 89)],some 90,none,[92],[]⟩,⟨.load 3 true (.t 6),some 91,none,[90,92],[]⟩]
def zki:Reg:=⟨z8z,z83,[90,92],[],true⟩
def zkh:Reg:=⟨[],[⟨.mv (.c (.bool false)),some 2,none,[],[]⟩],[],[],false⟩
def z82:List ROp:=[⟨.mv (.t 5),some 78,none,[],[]⟩,⟨.bin .add (.t 78) (.c (.int .i64 1)),some 79,none,[],[]⟩,⟨.mv (.t 79),some 5,none,[],[]⟩]
def zkg:Reg:=⟨[],z82,[],[],false⟩
def z62:IR:=(.seq (.seq (.reg zkk)
 (.cond (.t 77) .skip
 (.exit 4)))
 (.seq (.block 5 (.seq (.reg zkj)
 (.seq (.reg zki)
 (.cond (.t 93) (.seq (.reg zkh)
 .ret)
 .skip))))
 (.reg zkg)))
def zkf:Reg:=⟨[],[⟨.mv (.c (.bool true)),some 2,none,[],[]⟩],[],[],false⟩
def y1e:IR:=(.seq (.reg zrn)
 (.seq (.seq (.reg zrm)
 (.cond (.t 22) (.seq (.reg zrl)
 .ret)
 .skip))
 (.seq (.seq (.reg zrk)
 (.block 0 (.loop z8m)))
 (.seq (.seq (.reg zrf)
 (.block 2 (.loop z63)))
 (.seq (.seq (.reg zkl)
 (.block 4 (.loop z62)))
 (.seq (.reg zkf)
 .ret))))))
def znz:List RDesc:=[(.tmp 2)]
theorem e_placed_0:EqR zrn [⟨.box 14 43 (.t 0),some 1,none,[],[]⟩,⟨.mv (.c (.bool false)),some 2,none,[],[]⟩] [1]:=fun _ _ _=>rfl
theorem e_placed_1:EqR zrm zc3 []:=fun _ _ _=>rfl
theorem e_placed_2:EqR zrl [⟨.mv (.c (.bool false)),some 2,none,[],[]⟩] []:=fun _ _ _=>rfl
theorem e_placed_3:EqR zrk [⟨.mv (.c (.int .i64 0)),some 3,none,[],[]⟩] []:=fun _ _ _=>rfl
theorem e_placed_4:EqR zrj zc2 []:=fun _ _ _=>rfl
theorem e_placed_5 (C:FuncId->List AV->AV->Prop) (σ:St) (K:St->Prop):z0m C zri σ K = z07 C [] zc1 zdn (σ.kills [40]) K:=rfl
theorem e_placed_6:EqR zrh [⟨.mv (.c (.bool false)),some 2,none,[],[]⟩] []:=fun _ _ _=>rfl
theorem e_placed_7:EqR zrg zc0 []:=fun _ _ _=>rfl
theorem e_placed_9:EqR zrf [⟨.mv (.c (.int .i64 0)),some 4,none,[],[]⟩] []:=fun _ _ _=>rfl
theorem y5o:EqR zkp z88 []:=fun _ _ _=>rfl
theorem y5n (C:FuncId->List AV->AV->Prop) (σ:St) (K:St->Prop):z0m C zko σ K = z07 C [] z87 z90 (σ.kills [58]) K:=rfl
theorem y5m:EqR zkn [⟨.mv (.c (.bool false)),some 2,none,[],[]⟩] []:=fun _ _ _=>rfl
theorem y5l:EqR zkm z86 []:=fun _ _ _=>rfl
theorem y5k:EqR zkl [⟨.mv (.c (.int .i64 0)),some 5,none,[],[]⟩] []:=fun _ _ _=>rfl
theorem y5j:EqR zkk z85 []:=fun _ _ _=>rfl
theorem y5i:EqR zkj z84 [86,6]:=fun _ _ _=>rfl
theorem y5h (C:FuncId->List AV->AV->Prop) (σ:St) (K:St->Prop):z0m C zki σ K = z07 C [] z83 z8z (σ.kills [90,92]) K:=rfl
theorem y5g:EqR zkh [⟨.mv (.c (.bool false)),some 2,none,[],[]⟩] []:=fun _ _ _=>rfl
theorem y5f:EqR zkg z82 []:=fun _ _ _=>rfl
theorem y5e:EqR zkf [⟨.mv (.c (.bool true)),some 2,none,[],[]⟩] []:=fun _ _ _=>rfl
theorem fn_placed {args:List AV} {r:AV} (ha:args.length.ble Tryd.f51.ntmps = true) (h:run (AFn Tryd.prog) y1e (endQ znz r) (z0a args)):AFn Tryd.prog 51 args r :=
 AFn.of_code (pv:=false) (hint:=fun _=>[]) (c:=Tryd.f51.body.getD .skip) (by kernel_rfl) (by kernel_rfl) Tryd.func51 (by kernel_rfl) (by kernel_rfl) (by kernel_rfl) (of_decide_eq_true (by kernel_rfl)) (Nat.le_of_ble_eq_true ha) (Nat.le_of_ble_eq_true (by kernel_rfl)) (z0b h)
attribute [local go_sem ↓] y1e
attribute [local go_sem] znz e_placed_0 e_placed_1 zc3 e_placed_2 e_placed_3 e_placed_4 zc2 e_placed_5 zc1 zdn e_placed_6 e_placed_7 zc0 e_placed_9 y5o z88 y5n z87 z90 y5m y5l z86 y5k y5j z85 y5i z84 y5h z83 z8z y5g y5f z82 y5e
def nilB0 (x:ByteArray):Bool:=x.toList == (⟨#[]⟩:ByteArray).toList
def topB (n:Nd):Bool:=if n.top then nilB0 n.high && decide (n.right = -1) else !nilB0 n.high && decide ((n.high.size:Int)≤16) && decide (0≤n.right)
def ndB (c:Cfg) (n:Nd):Bool:=decide (0≤n.slot) && decide (0≤n.level) && decide (0≤n.seen) && topB n && (if n.level = 0 then y3r c n else ztp c n)
set_option maxHeartbeats 2000000 in
theorem right21_ok (c:Cfg) (n:Nd) (hn:n.Lt):AFn Tryd.prog 50 [c.a,n.a] (.bool (ndB c n)):=by
 refine fn_right21 rfl ?_
 have cl:=leaf21_ok c n hn
 have ci:=inner21_ok c n hn
 unfold ndB
 generalize y3r c n = bl at *
 generalize ztp c n = bi at *
 have hT:∀ b,topB n = b->topB n = b:=fun _ h=>h
 by_cases q1:0≤n.slot
 case neg =>
  have q1':n.slot < 0:=by omega
  rw [decide_eq_false q1]
  (repeat (first | simp (maxSteps:=9^7) only [go_sem,↓reduceIte,reduceCtorEq,Nat.reduceEqDiff,Nat.reduceBEq,Nat.reduceAdd,Nat.reduceSub,Nat.reduceMul,Nat.reduceLT,Nat.reduceLeDiff,Nat.reduceBNe,Int.reduceBEq,Int.reduceBNe,Int.reduceLT,Int.reduceLE,q1'] | refine z01 (cl) ?_ | refine z00 (cl) ?_ | refine z01 (ci) ?_ | refine z00 (ci) ?_ | refine And.intro (by omega) ?_ | refine And.intro (fun d hd=>by (repeat (rcases hd with rfl | hd; · exact ⟨rfl,rfl⟩)); cases hd) ?_))
 have q1':¬ n.slot < 0:=by omega
 rw [decide_eq_true q1]
 by_cases q2:0≤n.level
 case neg =>
  have q2':n.level < 0:=by omega
  rw [decide_eq_false q2]
  (repeat (first | simp (maxSteps:=9^7) only [go_sem,↓reduceIte,reduceCtorEq,Nat.reduceEqDiff,Nat.reduceBEq,Nat.reduceAdd,Nat.reduceSub,Nat.reduceMul,Nat.reduceLT,Nat.reduceLeDiff,Nat.reduceBNe,Int.reduceBEq,Int.reduceBNe,Int.reduceLT,Int.reduceLE,q1',q2'] | refine z01 (cl) ?_ | refine z00 (cl) ?_ | refine z01 (ci) ?_ | refine z00 (ci) ?_ | refine And.intro (by omega) ?_ | refine And.intro (fun d hd=>by (repeat (rcases hd with rfl | hd; · exact ⟨rfl,rfl⟩)); cases hd) ?_))
 have q2':¬ n.level < 0:=by omega
 rw [decide_eq_true q2]
 by_cases q3:0≤n.seen
 case neg =>
  have q3':n.seen < 0:=by omega
  rw [decide_eq_false q3]
  (repeat (first | simp (maxSteps:=9^7) only [go_sem,↓reduceIte,reduceCtorEq,Nat.reduceEqDiff,Nat.reduceBEq,Nat.reduceAdd,Nat.reduceSub,Nat.reduceMul,Nat.reduceLT,Nat.reduceLeDiff,Nat.reduceBNe,Int.reduceBEq,Int.reduceBNe,Int.reduceLT,Int.reduceLE,q1',q2',q3'] | refine z01 (cl) ?_ | refine z00 (cl) ?_ | refine z01 (ci) ?_ | refine z00 (ci) ?_ | refine And.intro (by omega) ?_ | refine And.intro (fun d hd=>by (repeat (rcases hd with rfl | hd; · exact ⟨rfl,rfl⟩)); cases hd) ?_))
 have q3':¬ n.seen < 0:=by omega
 rw [decide_eq_true q3]
 have hz:(n.level == 0) = decide (n.level = 0):=by
  by_cases h:n.level = 0
  ·simp [h]
  ·rw [decide_eq_false h]; simp [h]
 obtain ⟨slot,level,pivots,kids,high,top,right,seen,msgs,rows⟩:=n
 simp only at q1' q2' q3' cl ci hz ⊢
 unfold topB nilB0
 simp only
 by_cases hl:level = 0
 ·rw [decide_eq_true hl] at hz
  rw [if_pos hl]
  cases top
  ·rw [if_neg (by simp)]
   cases b1:(high.toList == (⟨#[]⟩:ByteArray).toList)
   case true=>(repeat (first | simp (maxSteps:=9^7) only [go_sem,↓reduceIte,reduceCtorEq,Nat.reduceEqDiff,Nat.reduceBEq,Nat.reduceAdd,Nat.reduceSub,Nat.reduceMul,Nat.reduceLT,Nat.reduceLeDiff,Nat.reduceBNe,Int.reduceBEq,Int.reduceBNe,Int.reduceLT,Int.reduceLE,q1',q2',q3',b1,hz,bne] | refine z01 (cl) ?_ | refine z00 (cl) ?_ | refine z01 (ci) ?_ | refine z00 (ci) ?_ | refine And.intro (by omega) ?_ | refine And.intro (fun d hd=>by (repeat (rcases hd with rfl | hd; · exact ⟨rfl,rfl⟩)); cases hd) ?_))
   by_cases h16:(16:Int) < (high.size:Int)
   ·rw [decide_eq_false (p:=(high.size:Int)≤16) (by omega)]
    (repeat (first | simp (maxSteps:=9^7) only [go_sem,↓reduceIte,reduceCtorEq,Nat.reduceEqDiff,Nat.reduceBEq,Nat.reduceAdd,Nat.reduceSub,Nat.reduceMul,Nat.reduceLT,Nat.reduceLeDiff,Nat.reduceBNe,Int.reduceBEq,Int.reduceBNe,Int.reduceLT,Int.reduceLE,q1',q2',q3',b1,h16,hz,bne] | refine z01 (cl) ?_ | refine z00 (cl) ?_ | refine z01 (ci) ?_ | refine z00 (ci) ?_ | refine And.intro (by omega) ?_ | refine And.intro (fun d hd=>by (repeat (rcases hd with rfl | hd; · exact ⟨rfl,rfl⟩)); cases hd) ?_))
   rw [decide_eq_true (p:=(high.size:Int)≤16) (by omega)]
   by_cases hr:right < 0
   ·rw [decide_eq_false (p:=0≤right) (by omega)]
    (repeat (first | simp (maxSteps:=9^7) only [go_sem,↓reduceIte,reduceCtorEq,Nat.reduceEqDiff,Nat.reduceBEq,Nat.reduceAdd,Nat.reduceSub,Nat.reduceMul,Nat.reduceLT,Nat.reduceLeDiff,Nat.reduceBNe,Int.reduceBEq,Int.reduceBNe,Int.reduceLT,Int.reduceLE,q1',q2',q3',b1,h16,hr,hz,bne] | refine z01 (cl) ?_ | refine z00 (cl) ?_ | refine z01 (ci) ?_ | refine z00 (ci) ?_ | refine And.intro (by omega) ?_ | refine And.intro (fun d hd=>by (repeat (rcases hd with rfl | hd; · exact ⟨rfl,rfl⟩)); cases hd) ?_))
   ·rw [decide_eq_true (p:=0≤right) (by omega)]
    (repeat (first | simp (maxSteps:=9^7) only [go_sem,↓reduceIte,reduceCtorEq,Nat.reduceEqDiff,Nat.reduceBEq,Nat.reduceAdd,Nat.reduceSub,Nat.reduceMul,Nat.reduceLT,Nat.reduceLeDiff,Nat.reduceBNe,Int.reduceBEq,Int.reduceBNe,Int.reduceLT,Int.reduceLE,q1',q2',q3',b1,h16,hr,hz,bne] | refine z01 (cl) ?_ | refine z00 (cl) ?_ | refine z01 (ci) ?_ | refine z00 (ci) ?_ | refine And.intro (by omega) ?_ | refine And.intro (fun d hd=>by (repeat (rcases hd with rfl | hd; · exact ⟨rfl,rfl⟩)); cases hd) ?_))
  ·rw [if_pos rfl]
   cases b1:(high.toList == (⟨#[]⟩:ByteArray).toList)
   case false=>(repeat (first | simp (maxSteps:=9^7) only [go_sem,↓reduceIte,reduceCtorEq,Nat.reduceEqDiff,Nat.reduceBEq,Nat.reduceAdd,Nat.reduceSub,Nat.reduceMul,Nat.reduceLT,Nat.reduceLeDiff,Nat.reduceBNe,Int.reduceBEq,Int.reduceBNe,Int.reduceLT,Int.reduceLE,q1',q2',q3',b1,hz,bne] | refine z01 (cl) ?_ | refine z00 (cl) ?_ | refine z01 (ci) ?_ | refine z00 (ci) ?_ | refine And.intro (by omega) ?_ | refine And.intro (fun d hd=>by (repeat (rcases hd with rfl | hd; · exact ⟨rfl,rfl⟩)); cases hd) ?_))
   by_cases hr:right = -1
   ·have hr':(right == -1) = true:=by simp [hr]
    rw [decide_eq_true hr]
    (repeat (first | simp (maxSteps:=9^7) only [go_sem,↓reduceIte,reduceCtorEq,Nat.reduceEqDiff,Nat.reduceBEq,Nat.reduceAdd,Nat.reduceSub,Nat.reduceMul,Nat.reduceLT,Nat.reduceLeDiff,Nat.reduceBNe,Int.reduceBEq,Int.reduceBNe,Int.reduceLT,Int.reduceLE,q1',q2',q3',b1,hr',hz,bne] | refine z01 (cl) ?_ | refine z00 (cl) ?_ | refine z01 (ci) ?_ | refine z00 (ci) ?_ | refine And.intro (by omega) ?_ | refine And.intro (fun d hd=>by (repeat (rcases hd with rfl | hd; · exact ⟨rfl,rfl⟩)); cases hd) ?_))
   ·have hr':(right == -1) = false:=by simp [hr]
    rw [decide_eq_false hr]
    (repeat (first | simp (maxSteps:=9^7) only [go_sem,↓reduceIte,reduceCtorEq,Nat.reduceEqDiff,Nat.reduceBEq,Nat.reduceAdd,Nat.reduceSub,Nat.reduceMul,Nat.reduceLT,Nat.reduceLeDiff,Nat.reduceBNe,Int.reduceBEq,Int.reduceBNe,Int.reduceLT,Int.reduceLE,q1',q2',q3',b1,hr',hz,bne] | refine z01 (cl) ?_ | refine z00 (cl) ?_ | refine z01 (ci) ?_ | refine z00 (ci) ?_ | refine And.intro (by omega) ?_ | refine And.intro (fun d hd=>by (repeat (rcases hd with rfl | hd; · exact ⟨rfl,rfl⟩)); cases hd) ?_))
 ·rw [decide_eq_false hl] at hz
  rw [if_neg hl]
  cases top
  ·rw [if_neg (by simp)]
   cases b1:(high.toList == (⟨#[]⟩:ByteArray).toList)
   case true=>(repeat (first | simp (maxSteps:=9^7) only [go_sem,↓reduceIte,reduceCtorEq,Nat.reduceEqDiff,Nat.reduceBEq,Nat.reduceAdd,Nat.reduceSub,Nat.reduceMul,Nat.reduceLT,Nat.reduceLeDiff,Nat.reduceBNe,Int.reduceBEq,Int.reduceBNe,Int.reduceLT,Int.reduceLE,q1',q2',q3',b1,hz,bne] | refine z01 (cl) ?_ | refine z00 (cl) ?_ | refine z01 (ci) ?_ | refine z00 (ci) ?_ | refine And.intro (by omega) ?_ | refine And.intro (fun d hd=>by (repeat (rcases hd with rfl | hd; · exact ⟨rfl,rfl⟩)); cases hd) ?_))
   by_cases h16:(16:Int) < (high.size:Int)
   ·rw [decide_eq_false (p:=(high.size:Int)≤16) (by omega)]
    (repeat (first | simp (maxSteps:=9^7) only [go_sem,↓reduceIte,reduceCtorEq,Nat.reduceEqDiff,Nat.reduceBEq,Nat.reduceAdd,Nat.reduceSub,Nat.reduceMul,Nat.reduceLT,Nat.reduceLeDiff,Nat.reduceBNe,Int.reduceBEq,Int.reduceBNe,Int.reduceLT,Int.reduceLE,q1',q2',q3',b1,h16,hz,bne] | refine z01 (cl) ?_ | refine z00 (cl) ?_ | refine z01 (ci) ?_ | refine z00 (ci) ?_ | refine And.intro (by omega) ?_ | refine And.intro (fun d hd=>by (repeat (rcases hd with rfl | hd; · exact ⟨rfl,rfl⟩)); cases hd) ?_))
   rw [decide_eq_true (p:=(high.size:Int)≤16) (by omega)]
   by_cases hr:right < 0
   ·rw [decide_eq_false (p:=0≤right) (by omega)]
    (repeat (first | simp (maxSteps:=9^7) only [go_sem,↓reduceIte,reduceCtorEq,Nat.reduceEqDiff,Nat.reduceBEq,Nat.reduceAdd,Nat.reduceSub,Nat.reduceMul,Nat.reduceLT,Nat.reduceLeDiff,Nat.reduceBNe,Int.reduceBEq,Int.reduceBNe,Int.reduceLT,Int.reduceLE,q1',q2',q3',b1,h16,hr,hz,bne] | refine z01 (cl) ?_ | refine z00 (cl) ?_ | refine z01 (ci) ?_ | refine z00 (ci) ?_ | refine And.intro (by omega) ?_ | refine And.intro (fun d hd=>by (repeat (rcases hd with rfl | hd; · exact ⟨rfl,rfl⟩)); cases hd) ?_))
   ·rw [decide_eq_true (p:=0≤right) (by omega)]
    (repeat (first | simp (maxSteps:=9^7) only [go_sem,↓reduceIte,reduceCtorEq,Nat.reduceEqDiff,Nat.reduceBEq,Nat.reduceAdd,Nat.reduceSub,Nat.reduceMul,Nat.reduceLT,Nat.reduceLeDiff,Nat.reduceBNe,Int.reduceBEq,Int.reduceBNe,Int.reduceLT,Int.reduceLE,q1',q2',q3',b1,h16,hr,hz,bne] | refine z01 (cl) ?_ | refine z00 (cl) ?_ | refine z01 (ci) ?_ | refine z00 (ci) ?_ | refine And.intro (by omega) ?_ | refine And.intro (fun d hd=>by (repeat (rcases hd with rfl | hd; · exact ⟨rfl,rfl⟩)); cases hd) ?_))
  ·rw [if_pos rfl]
   cases b1:(high.toList == (⟨#[]⟩:ByteArray).toList)
   case false=>(repeat (first | simp (maxSteps:=9^7) only [go_sem,↓reduceIte,reduceCtorEq,Nat.reduceEqDiff,Nat.reduceBEq,Nat.reduceAdd,Nat.reduceSub,Nat.reduceMul,Nat.reduceLT,Nat.reduceLeDiff,Nat.reduceBNe,Int.reduceBEq,Int.reduceBNe,Int.reduceLT,Int.reduceLE,q1',q2',q3',b1,hz,bne] | refine z01 (cl) ?_ | refine z00 (cl) ?_ | refine z01 (ci) ?_ | refine z00 (ci) ?_ | refine And.intro (by omega) ?_ | refine And.intro (fun d hd=>by (repeat (rcases hd with rfl | hd; · exact ⟨rfl,rfl⟩)); cases hd) ?_))
   by_cases hr:right = -1
   ·have hr':(right == -1) = true:=by simp [hr]
    rw [decide_eq_true hr]
    (repeat (first | simp (maxSteps:=9^7) only [go_sem,↓reduceIte,reduceCtorEq,Nat.reduceEqDiff,Nat.reduceBEq,Nat.reduceAdd,Nat.reduceSub,Nat.reduceMul,Nat.reduceLT,Nat.reduceLeDiff,Nat.reduceBNe,Int.reduceBEq,Int.reduceBNe,Int.reduceLT,Int.reduceLE,q1',q2',q3',b1,hr',hz,bne] | refine z01 (cl) ?_ | refine z00 (cl) ?_ | refine z01 (ci) ?_ | refine z00 (ci) ?_ | refine And.intro (by omega) ?_ | refine And.intro (fun d hd=>by (repeat (rcases hd with rfl | hd; · exact ⟨rfl,rfl⟩)); cases hd) ?_))
   ·have hr':(right == -1) = false:=by simp [hr]
    rw [decide_eq_false hr]
    (repeat (first | simp (maxSteps:=9^7) only [go_sem,↓reduceIte,reduceCtorEq,Nat.reduceEqDiff,Nat.reduceBEq,Nat.reduceAdd,Nat.reduceSub,Nat.reduceMul,Nat.reduceLT,Nat.reduceLeDiff,Nat.reduceBNe,Int.reduceBEq,Int.reduceBNe,Int.reduceLT,Int.reduceLE,q1',q2',q3',b1,hr',hz,bne] | refine z01 (cl) ?_ | refine z00 (cl) ?_ | refine z01 (ci) ?_ | refine z00 (ci) ?_ | refine And.intro (by omega) ?_ | refine And.intro (fun d hd=>by (repeat (rcases hd with rfl | hd; · exact ⟨rfl,rfl⟩)); cases hd) ?_))
def eqS (a b:Spn):Bool:=(a.lo.toList == b.lo.toList) && ((a.hi.toList == b.hi.toList) && (a.op == b.op))
def rwB (x:Seat) (p:Par):Bool:=x.s.has p.key
def pwB (x:Seat) (p:ByteArray):Bool:=x.s.has p && !(p.toList == x.s.lo.toList)
def mwB (x:Seat) (m:Msg):Bool:=eqS (m.span.meet x.s) m.span.norm
def zl9 (x:Seat):Bool:=(x.n.top == x.s.op) && (x.n.high.toList == x.s.hi.toList) && (x.n.rows.all (rwB x) && x.n.pivots.all (pwB x) && x.n.msgs.all (mwB x))
def zv4 (x:Seat) (t:Nat) (len:Nat) (A:Nat->Bool) (R:Bool) (k:Nat) (σ:St):Prop :=
 ∃ i:Nat,i≤len∧k = len - i∧σ.T 1 = .ptr 1 0 0∧σ.H 1 = some ⟨14,43,[x.a],0⟩∧σ.T t = .int .i64 i∧A i = R
set_option maxHeartbeats 2000000 in
theorem prow_loop (x:Seat) (b:Nat) (hx0:SeatOk x b) (R:Bool) (Q:XK->St->Prop) (hEnd:∀ σ,R = true->σ.T 1 = .ptr 1 0 0->σ.H 1 = some ⟨14,43,[x.a],0⟩->Q (.exit 0) σ)
  (hRet:∀ σ,R = false->σ.T 2 = .bool false->Q .ret σ) (k:Nat) (σ:St) (hI:zv4 x 3 x.n.rows.length (fun i=>(x.n.rows.drop i).all (rwB x)) R k σ) :
  run (AFn Tryd.prog) z8m (z30 (fun σ'=>∃ m,m < k∧zv4 x 3 x.n.rows.length (fun i=>(x.n.rows.drop i).all (rwB x)) R m σ') Q) σ:=by
 have hn:=hx0.lt
 have n1:=hn.nrow
 have n2:=hn.npiv
 have n3:=hn.nmsg
 have hs:=zlt hx0.s (by omega)
 obtain ⟨i,hi,rfl,t1,h1,tt,hr⟩:=hI
 simp only [z8m]
 have h1':=h1
 simp only [Seat.a] at h1'
 by_cases hlt:i < x.n.rows.length
 case neg =>
  have hlt':¬ (i:Int) < (x.n.rows.length:Int):=by omega
  simp only at hr
  rw [List.drop_eq_nil_of_le (by omega),List.all_nil] at hr
  subst hr
  simp (maxSteps:=9^7) only [go_sem,↓reduceIte,reduceCtorEq,Nat.reduceEqDiff,Nat.reduceBEq,Nat.reduceAdd,Nat.reduceSub,Nat.reduceMul,Nat.reduceLT,Nat.reduceLeDiff,Nat.reduceBNe,Int.reduceBEq,Int.reduceBNe,Int.reduceLT,Int.reduceLE,t1,h1',tt,hlt',List.length_map]
  refine hEnd _ rfl ?_ ?_
  iterate 2 focus ((simp (maxSteps:=9^7) only [go_sem,↓reduceIte,reduceCtorEq,Nat.reduceEqDiff,Nat.reduceBEq,Nat.reduceAdd,Nat.reduceSub,Nat.reduceMul,Nat.reduceLT,Nat.reduceLeDiff,Nat.reduceBNe,Int.reduceBEq,Int.reduceBNe,Int.reduceLT,Int.reduceLE,t1,h1]) <;> rfl)
 have hlt':(i:Int) < (x.n.rows.length:Int):=by omega
 obtain ⟨y,hx⟩:=z0f hlt
 have hgx:=z0j (f:=Par.a) hx
 have hw:=z1j (j:=i) (by omega)
 simp only at hr
 rw [z0c hx,List.all_cons] at hr
 simp only [Par.a] at hgx
 have ch:=y6v x.s y.key hs (by have:=(hn.rows y (List.mem_of_getElem? hx)).1; omega)
 unfold rwB at hr
 generalize hbb:x.s.has y.key = bb at *
 cases bb
 ·rw [Bool.false_and] at hr
  subst hr
  (repeat (first | simp (maxSteps:=9^7) only [go_sem,↓reduceIte,reduceCtorEq,Nat.reduceEqDiff,Nat.reduceBEq,Nat.reduceAdd,Nat.reduceSub,Nat.reduceMul,Nat.reduceLT,Nat.reduceLeDiff,Nat.reduceBNe,Int.reduceBEq,Int.reduceBNe,Int.reduceLT,Int.reduceLE,t1,h1',tt,hlt',hgx,List.length_map,Int.toNat_natCast] | refine z01 (ch) ?_ | refine z00 (ch) ?_ | refine And.intro (by omega) ?_ | refine And.intro (fun d hd=>by (repeat (rcases hd with rfl | hd; · exact ⟨rfl,rfl⟩)); cases hd) ?_))
  all_goals (repeat refine And.intro (by omega) ?_)
  refine hRet _ rfl ?_
  simp (maxSteps:=9^7) only [go_sem,↓reduceIte,reduceCtorEq,Nat.reduceEqDiff,Nat.reduceBEq,Nat.reduceAdd,Nat.reduceSub,Nat.reduceMul,Nat.reduceLT,Nat.reduceLeDiff,Nat.reduceBNe,Int.reduceBEq,Int.reduceBNe,Int.reduceLT,Int.reduceLE]
 ·rw [Bool.true_and] at hr
  (repeat (first | simp (maxSteps:=9^7) only [go_sem,↓reduceIte,reduceCtorEq,Nat.reduceEqDiff,Nat.reduceBEq,Nat.reduceAdd,Nat.reduceSub,Nat.reduceMul,Nat.reduceLT,Nat.reduceLeDiff,Nat.reduceBNe,Int.reduceBEq,Int.reduceBNe,Int.reduceLT,Int.reduceLE,t1,h1',tt,hlt',hgx,hw,List.length_map,Int.toNat_natCast] | refine z01 (ch) ?_ | refine z00 (ch) ?_ | refine And.intro (by omega) ?_ | refine And.intro (fun d hd=>by (repeat (rcases hd with rfl | hd; · exact ⟨rfl,rfl⟩)); cases hd) ?_))
  refine ⟨x.n.rows.length - (i + 1),by omega,i + 1,by omega,rfl,?_,?_,?_,hr⟩
  iterate 3 focus ((simp (maxSteps:=9^7) only [go_sem,↓reduceIte,reduceCtorEq,Nat.reduceEqDiff,Nat.reduceBEq,Nat.reduceAdd,Nat.reduceSub,Nat.reduceMul,Nat.reduceLT,Nat.reduceLeDiff,Nat.reduceBNe,Int.reduceBEq,Int.reduceBNe,Int.reduceLT,Int.reduceLE,t1,h1,hw]) <;> rfl)
set_option maxHeartbeats 2000000 in
theorem ppiv_loop (x:Seat) (b:Nat) (hx0:SeatOk x b) (R:Bool) (Q:XK->St->Prop) (hEnd:∀ σ,R = true->σ.T 1 = .ptr 1 0 0->σ.H 1 = some ⟨14,43,[x.a],0⟩->Q (.exit 2) σ)
  (hRet:∀ σ,R = false->σ.T 2 = .bool false->Q .ret σ) (k:Nat) (σ:St) (hI:zv4 x 4 x.n.pivots.length (fun i=>(x.n.pivots.drop i).all (pwB x)) R k σ) :
  run (AFn Tryd.prog) z63 (z30 (fun σ'=>∃ m,m < k∧zv4 x 4 x.n.pivots.length (fun i=>(x.n.pivots.drop i).all (pwB x)) R m σ') Q) σ:=by
 have hn:=hx0.lt
 have n1:=hn.nrow
 have n2:=hn.npiv
 have n3:=hn.nmsg
 have hs:=zlt hx0.s (by omega)
 obtain ⟨i,hi,rfl,t1,h1,tt,hr⟩:=hI
 simp only [z63]
 have h1':=h1
 simp only [Seat.a] at h1'
 by_cases hlt:i < x.n.pivots.length
 case neg =>
  have hlt':¬ (i:Int) < (x.n.pivots.length:Int):=by omega
  simp only at hr
  rw [List.drop_eq_nil_of_le (by omega),List.all_nil] at hr
  subst hr
  simp (maxSteps:=9^7) only [go_sem,↓reduceIte,reduceCtorEq,Nat.reduceEqDiff,Nat.reduceBEq,Nat.reduceAdd,Nat.reduceSub,Nat.reduceMul,Nat.reduceLT,Nat.reduceLeDiff,Nat.reduceBNe,Int.reduceBEq,Int.reduceBNe,Int.reduceLT,Int.reduceLE,t1,h1',tt,hlt',List.length_map]
  refine hEnd _ rfl ?_ ?_
  iterate 2 focus ((simp (maxSteps:=9^7) only [go_sem,↓reduceIte,reduceCtorEq,Nat.reduceEqDiff,Nat.reduceBEq,Nat.reduceAdd,Nat.reduceSub,Nat.reduceMul,Nat.reduceLT,Nat.reduceLeDiff,Nat.reduceBNe,Int.reduceBEq,Int.reduceBNe,Int.reduceLT,Int.reduceLE,t1,h1]) <;> rfl)
 have hlt':(i:Int) < (x.n.pivots.length:Int):=by omega
 obtain ⟨y,hx⟩:=z0f hlt
 have hgx:=z0j (f:=AV.str) hx
 have hw:=z1j (j:=i) (by omega)
 simp only at hr
 rw [z0c hx,List.all_cons] at hr
 have ch:=y6v x.s y hs (by have:=hn.piv y (List.mem_of_getElem? hx); omega)
 have hb:pwB x y = (x.s.has y && !(y.toList == x.s.lo.toList)):=rfl
 rw [hb] at hr
 clear hb
 generalize hbb:x.s.has y = bb at *
 cases bb
 ·simp only [Bool.false_and] at hr
  subst hr
  (repeat (first | simp (maxSteps:=9^7) only [go_sem,↓reduceIte,reduceCtorEq,Nat.reduceEqDiff,Nat.reduceBEq,Nat.reduceAdd,Nat.reduceSub,Nat.reduceMul,Nat.reduceLT,Nat.reduceLeDiff,Nat.reduceBNe,Int.reduceBEq,Int.reduceBNe,Int.reduceLT,Int.reduceLE,t1,h1',tt,hlt',hgx,List.length_map,Int.toNat_natCast] | refine z01 (ch) ?_ | refine z00 (ch) ?_ | refine And.intro (by omega) ?_ | refine And.intro (fun d hd=>by (repeat (rcases hd with rfl | hd; · exact ⟨rfl,rfl⟩)); cases hd) ?_))
  all_goals (repeat refine And.intro (by omega) ?_)
  refine hRet _ rfl ?_
  simp (maxSteps:=9^7) only [go_sem,↓reduceIte,reduceCtorEq,Nat.reduceEqDiff,Nat.reduceBEq,Nat.reduceAdd,Nat.reduceSub,Nat.reduceMul,Nat.reduceLT,Nat.reduceLeDiff,Nat.reduceBNe,Int.reduceBEq,Int.reduceBNe,Int.reduceLT,Int.reduceLE]
 cases b2:(y.toList == x.s.lo.toList)
 ·rw [b2] at hr
  simp only [Bool.not_false,Bool.and_true,Bool.true_and] at hr
  (repeat (first | simp (maxSteps:=9^7) only [go_sem,↓reduceIte,reduceCtorEq,Nat.reduceEqDiff,Nat.reduceBEq,Nat.reduceAdd,Nat.reduceSub,Nat.reduceMul,Nat.reduceLT,Nat.reduceLeDiff,Nat.reduceBNe,Int.reduceBEq,Int.reduceBNe,Int.reduceLT,Int.reduceLE,t1,h1',tt,hlt',hgx,hw,b2,List.length_map,Int.toNat_natCast] | refine z01 (ch) ?_ | refine z00 (ch) ?_ | refine And.intro (by omega) ?_ | refine And.intro (fun d hd=>by (repeat (rcases hd with rfl | hd; · exact ⟨rfl,rfl⟩)); cases hd) ?_))
  refine ⟨x.n.pivots.length - (i + 1),by omega,i + 1,by omega,rfl,?_,?_,?_,hr⟩
  iterate 3 focus ((simp (maxSteps:=9^7) only [go_sem,↓reduceIte,reduceCtorEq,Nat.reduceEqDiff,Nat.reduceBEq,Nat.reduceAdd,Nat.reduceSub,Nat.reduceMul,Nat.reduceLT,Nat.reduceLeDiff,Nat.reduceBNe,Int.reduceBEq,Int.reduceBNe,Int.reduceLT,Int.reduceLE,t1,h1,hw]) <;> rfl)
 ·rw [b2] at hr
  simp only [Bool.not_true,Bool.and_false,Bool.false_and] at hr
  subst hr
  (repeat (first | simp (maxSteps:=9^7) only [go_sem,↓reduceIte,reduceCtorEq,Nat.reduceEqDiff,Nat.reduceBEq,Nat.reduceAdd,Nat.reduceSub,Nat.reduceMul,Nat.reduceLT,Nat.reduceLeDiff,Nat.reduceBNe,Int.reduceBEq,Int.reduceBNe,Int.reduceLT,Int.reduceLE,t1,h1',tt,hlt',hgx,b2,List.length_map,Int.toNat_natCast] | refine z01 (ch) ?_ | refine z00 (ch) ?_ | refine And.intro (by omega) ?_ | refine And.intro (fun d hd=>by (repeat (rcases hd with rfl | hd; · exact ⟨rfl,rfl⟩)); cases hd) ?_))
  all_goals (repeat refine And.intro (by omega) ?_)
  refine hRet _ rfl ?_
  simp (maxSteps:=9^7) only [go_sem,↓reduceIte,reduceCtorEq,Nat.reduceEqDiff,Nat.reduceBEq,Nat.reduceAdd,Nat.reduceSub,Nat.reduceMul,Nat.reduceLT,Nat.reduceLeDiff,Nat.reduceBNe,Int.reduceBEq,Int.reduceBNe,Int.reduceLT,Int.reduceLE]
set_option maxHeartbeats 2000000 in
theorem pmsg_loop (x:Seat) (b:Nat) (hx0:SeatOk x b) (R:Bool) (Q:XK->St->Prop) (hEnd:∀ σ,R = true->σ.T 1 = .ptr 1 0 0->σ.H 1 = some ⟨14,43,[x.a],0⟩->Q (.exit 4) σ)
  (hRet:∀ σ,R = false->σ.T 2 = .bool false->Q .ret σ) (k:Nat) (σ:St) (hI:zv4 x 5 x.n.msgs.length (fun i=>(x.n.msgs.drop i).all (mwB x)) R k σ) :
  run (AFn Tryd.prog) z62 (z30 (fun σ'=>∃ m,m < k∧zv4 x 5 x.n.msgs.length (fun i=>(x.n.msgs.drop i).all (mwB x)) R m σ') Q) σ:=by
 have hn:=hx0.lt
 have n1:=hn.nrow
 have n2:=hn.npiv
 have n3:=hn.nmsg
 have hs:=zlt hx0.s (by omega)
 obtain ⟨i,hi,rfl,t1,h1,tt,hr⟩:=hI
 simp only [z62]
 have h1':=h1
 simp only [Seat.a] at h1'
 by_cases hlt:i < x.n.msgs.length
 case neg =>
  have hlt':¬ (i:Int) < (x.n.msgs.length:Int):=by omega
  simp only at hr
  rw [List.drop_eq_nil_of_le (by omega),List.all_nil] at hr
  subst hr
  simp (maxSteps:=9^7) only [go_sem,↓reduceIte,reduceCtorEq,Nat.reduceEqDiff,Nat.reduceBEq,Nat.reduceAdd,Nat.reduceSub,Nat.reduceMul,Nat.reduceLT,Nat.reduceLeDiff,Nat.reduceBNe,Int.reduceBEq,Int.reduceBNe,Int.reduceLT,Int.reduceLE,t1,h1',tt,hlt',List.length_map]
  refine hEnd _ rfl ?_ ?_
  iterate 2 focus ((simp (maxSteps:=9^7) only [go_sem,↓reduceIte,reduceCtorEq,Nat.reduceEqDiff,Nat.reduceBEq,Nat.reduceAdd,Nat.reduceSub,Nat.reduceMul,Nat.reduceLT,Nat.reduceLeDiff,Nat.reduceBNe,Int.reduceBEq,Int.reduceBNe,Int.reduceLT,Int.reduceLE,t1,h1]) <;> rfl)
 have hlt':(i:Int) < (x.n.msgs.length:Int):=by omega
 obtain ⟨y,hx⟩:=z0f hlt
 have hgx:=z0j (f:=Msg.a) hx
 have hw:=z1j (j:=i) (by omega)
 simp only at hr
 rw [z0c hx,List.all_cons] at hr
 have hm:=hn.msgs y (List.mem_of_getElem? hx)
 have hsl:=zd7 hm
 have hs2:x.s.le 2001:=⟨Nat.le_succ_of_le hx0.s.1,Nat.le_succ_of_le hx0.s.2⟩
 have c1:=zig y (by have:=hm.1; omega)
 have c2:=y36 y.span x.s (zlt hsl (by omega)) (zlt hs2 (by omega))
 have c3:=z50 y.span (zlt hsl (by omega))
 have hb:mwB x y = eqS (y.span.meet x.s) y.span.norm:=rfl
 rw [hb] at hr
 clear hb
 unfold eqS at hr
 generalize y.span.meet x.s = u at *
 generalize y.span.norm = v at *
 generalize y.span = sp at *
 simp only [Msg.a] at hgx
 obtain ⟨lo,hi2,op⟩:=sp
 obtain ⟨ulo,uhi,uop⟩:=u
 obtain ⟨vlo,vhi,vop⟩:=v
 simp only at hr
 generalize hbb:((ulo.toList == vlo.toList) && ((uhi.toList == vhi.toList) && (uop == vop))) = bb at *
 cases bb
 ·rw [Bool.false_and] at hr
  subst hr
  (repeat (first | simp (maxSteps:=9^7) only [go_sem,↓reduceIte,reduceCtorEq,Nat.reduceEqDiff,Nat.reduceBEq,Nat.reduceAdd,Nat.reduceSub,Nat.reduceMul,Nat.reduceLT,Nat.reduceLeDiff,Nat.reduceBNe,Int.reduceBEq,Int.reduceBNe,Int.reduceLT,Int.reduceLE,t1,h1',tt,hlt',hgx,hbb,List.length_map,Int.toNat_natCast] | refine z01 (c1) ?_ | refine z00 (c1) ?_ | refine z01 (c2) ?_ | refine z00 (c2) ?_ | refine z01 (c3) ?_ | refine z00 (c3) ?_ | refine And.intro (by omega) ?_ | refine And.intro (fun d hd=>by (repeat (rcases hd with rfl | hd; · exact ⟨rfl,rfl⟩)); cases hd) ?_))
  all_goals (repeat refine And.intro (by omega) ?_)
  refine hRet _ rfl ?_
  simp (maxSteps:=9^7) only [go_sem,↓reduceIte,reduceCtorEq,Nat.reduceEqDiff,Nat.reduceBEq,Nat.reduceAdd,Nat.reduceSub,Nat.reduceMul,Nat.reduceLT,Nat.reduceLeDiff,Nat.reduceBNe,Int.reduceBEq,Int.reduceBNe,Int.reduceLT,Int.reduceLE]
 ·rw [Bool.true_and] at hr
  (repeat (first | simp (maxSteps:=9^7) only [go_sem,↓reduceIte,reduceCtorEq,Nat.reduceEqDiff,Nat.reduceBEq,Nat.reduceAdd,Nat.reduceSub,Nat.reduceMul,Nat.reduceLT,Nat.reduceLeDiff,Nat.reduceBNe,Int.reduceBEq,Int.reduceBNe,Int.reduceLT,Int.reduceLE,t1,h1',tt,hlt',hgx,hw,hbb,List.length_map,Int.toNat_natCast] | refine z01 (c1) ?_ | refine z00 (c1) ?_ | refine z01 (c2) ?_ | refine z00 (c2) ?_ | refine z01 (c3) ?_ | refine z00 (c3) ?_ | refine And.intro (by omega) ?_ | refine And.intro (fun d hd=>by (repeat (rcases hd with rfl | hd; · exact ⟨rfl,rfl⟩)); cases hd) ?_))
  refine ⟨x.n.msgs.length - (i + 1),by omega,i + 1,by omega,rfl,?_,?_,?_,hr⟩
  iterate 3 focus ((simp (maxSteps:=9^7) only [go_sem,↓reduceIte,reduceCtorEq,Nat.reduceEqDiff,Nat.reduceBEq,Nat.reduceAdd,Nat.reduceSub,Nat.reduceMul,Nat.reduceLT,Nat.reduceLeDiff,Nat.reduceBNe,Int.reduceBEq,Int.reduceBNe,Int.reduceLT,Int.reduceLE,t1,h1,hw]) <;> rfl)
set_option maxHeartbeats 2000000 in
theorem placed_ok (x:Seat) (b:Nat) (hx0:SeatOk x b):AFn Tryd.prog 51 [x.a] (.bool (zl9 x)):=by
 refine fn_placed rfl ?_
 unfold zl9
 obtain ⟨RK,hK⟩:∃ R,x.n.rows.all (rwB x) = R:=⟨_,rfl⟩
 obtain ⟨RP,hP⟩:∃ R,x.n.pivots.all (pwB x) = R:=⟨_,rfl⟩
 obtain ⟨RM,hM⟩:∃ R,x.n.msgs.all (mwB x) = R:=⟨_,rfl⟩
 rw [hK,hP,hM]
 cases q1:(x.n.top == x.s.op)
 ·simp (maxSteps:=9^7) only [go_sem,↓reduceIte,reduceCtorEq,Nat.reduceEqDiff,Nat.reduceBEq,Nat.reduceAdd,Nat.reduceSub,Nat.reduceMul,Nat.reduceLT,Nat.reduceLeDiff,Nat.reduceBNe,Int.reduceBEq,Int.reduceBNe,Int.reduceLT,Int.reduceLE,q1]
 cases q2:(x.n.high.toList == x.s.hi.toList)
 ·simp (maxSteps:=9^7) only [go_sem,↓reduceIte,reduceCtorEq,Nat.reduceEqDiff,Nat.reduceBEq,Nat.reduceAdd,Nat.reduceSub,Nat.reduceMul,Nat.reduceLT,Nat.reduceLeDiff,Nat.reduceBNe,Int.reduceBEq,Int.reduceBNe,Int.reduceLT,Int.reduceLE,q1,q2]
 simp (maxSteps:=9^7) only [go_sem,↓reduceIte,reduceCtorEq,Nat.reduceEqDiff,Nat.reduceBEq,Nat.reduceAdd,Nat.reduceSub,Nat.reduceMul,Nat.reduceLT,Nat.reduceLeDiff,Nat.reduceBNe,Int.reduceBEq,Int.reduceBNe,Int.reduceLT,Int.reduceLE,q1,q2]
 refine z08 (zv4 x 3 x.n.rows.length (fun i=>(x.n.rows.drop i).all (rwB x)) RK) (k:=x.n.rows.length) ⟨0,by omega,rfl,?_,?_,?_,hK⟩ (prow_loop x b hx0 RK _ ?_ ?_)
 iterate 3 focus ((simp (maxSteps:=9^7) only [go_sem,↓reduceIte,reduceCtorEq,Nat.reduceEqDiff,Nat.reduceBEq,Nat.reduceAdd,Nat.reduceSub,Nat.reduceMul,Nat.reduceLT,Nat.reduceLeDiff,Nat.reduceBNe,Int.reduceBEq,Int.reduceBNe,Int.reduceLT,Int.reduceLE]) <;> rfl)
 ·intro σ hk t1 h1
  subst hk
  simp (maxSteps:=9^7) only [go_sem,↓reduceIte,reduceCtorEq,Nat.reduceEqDiff,Nat.reduceBEq,Nat.reduceAdd,Nat.reduceSub,Nat.reduceMul,Nat.reduceLT,Nat.reduceLeDiff,Nat.reduceBNe,Int.reduceBEq,Int.reduceBNe,Int.reduceLT,Int.reduceLE,t1,h1]
  refine z08 (zv4 x 4 x.n.pivots.length (fun i=>(x.n.pivots.drop i).all (pwB x)) RP) (k:=x.n.pivots.length) ⟨0,by omega,rfl,?_,?_,?_,hP⟩ (ppiv_loop x b hx0 RP _ ?_ ?_)
  iterate 3 focus ((simp (maxSteps:=9^7) only [go_sem,↓reduceIte,reduceCtorEq,Nat.reduceEqDiff,Nat.reduceBEq,Nat.reduceAdd,Nat.reduceSub,Nat.reduceMul,Nat.reduceLT,Nat.reduceLeDiff,Nat.reduceBNe,Int.reduceBEq,Int.reduceBNe,Int.reduceLT,Int.reduceLE,t1,h1]) <;> rfl)
  ·intro σ hk t1 h1
   subst hk
   simp (maxSteps:=9^7) only [go_sem,↓reduceIte,reduceCtorEq,Nat.reduceEqDiff,Nat.reduceBEq,Nat.reduceAdd,Nat.reduceSub,Nat.reduceMul,Nat.reduceLT,Nat.reduceLeDiff,Nat.reduceBNe,Int.reduceBEq,Int.reduceBNe,Int.reduceLT,Int.reduceLE,t1,h1]
   refine z08 (zv4 x 5 x.n.msgs.length (fun i=>(x.n.msgs.drop i).all (mwB x)) RM) (k:=x.n.msgs.length) ⟨0,by omega,rfl,?_,?_,?_,hM⟩ (pmsg_loop x b hx0 RM _ ?_ ?_)
   iterate 3 focus ((simp (maxSteps:=9^7) only [go_sem,↓reduceIte,reduceCtorEq,Nat.reduceEqDiff,Nat.reduceBEq,Nat.reduceAdd,Nat.reduceSub,Nat.reduceMul,Nat.reduceLT,Nat.reduceLeDiff,Nat.reduceBNe,Int.reduceBEq,Int.reduceBNe,Int.reduceLT,Int.reduceLE,t1,h1]) <;> rfl)
   ·intro σ hk _ _
    subst hk
    simp (maxSteps:=9^7) only [go_sem,↓reduceIte,reduceCtorEq,Nat.reduceEqDiff,Nat.reduceBEq,Nat.reduceAdd,Nat.reduceSub,Nat.reduceMul,Nat.reduceLT,Nat.reduceLeDiff,Nat.reduceBNe,Int.reduceBEq,Int.reduceBNe,Int.reduceLT,Int.reduceLE]
   ·intro σ hk t4
    subst hk
    simp (maxSteps:=9^7) only [go_sem,↓reduceIte,reduceCtorEq,Nat.reduceEqDiff,Nat.reduceBEq,Nat.reduceAdd,Nat.reduceSub,Nat.reduceMul,Nat.reduceLT,Nat.reduceLeDiff,Nat.reduceBNe,Int.reduceBEq,Int.reduceBNe,Int.reduceLT,Int.reduceLE,t4]
  ·intro σ hk t4
   subst hk
   simp (maxSteps:=9^7) only [go_sem,↓reduceIte,reduceCtorEq,Nat.reduceEqDiff,Nat.reduceBEq,Nat.reduceAdd,Nat.reduceSub,Nat.reduceMul,Nat.reduceLT,Nat.reduceLeDiff,Nat.reduceBNe,Int.reduceBEq,Int.reduceBNe,Int.reduceLT,Int.reduceLE,t4]
 ·intro σ hk t4
  subst hk
  simp (maxSteps:=9^7) only [go_sem,↓reduceIte,reduceCtorEq,Nat.reduceEqDiff,Nat.reduceBEq,Nat.reduceAdd,Nat.reduceSub,Nat.reduceMul,Nat.reduceLT,Nat.reduceLeDiff,Nat.reduceBNe,Int.reduceBEq,Int.reduceBNe,Int.reduceLT,Int.reduceLE,t4]
end
end Go.Proofs.YtkfciapeikkmfaaDoor
