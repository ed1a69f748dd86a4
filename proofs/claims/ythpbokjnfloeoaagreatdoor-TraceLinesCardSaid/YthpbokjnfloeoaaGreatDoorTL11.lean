/-
  Part 11 of a proof: TrE, TrF, PkK.
-/
import Derived.Test.YthpbokjnfloeoaaGreatDoorTL10
namespace Go.Proofs.YthpbokjnfloeoaaGreatDoor
set_option linter.unusedVariables false
section
/-
 Traces: what the document says of lines,walked.
-/
open Go.RowKit
set_option linter.unusedVariables false
set_option linter.unusedSimpArgs false
set_option maxRecDepth 100000
attribute [local go_sem ↓] z11 z0l
/-! ### percolate/percolateref46.Pairs -/
def zfk:Reg:=⟨[],[⟨.mv (.c (.str ⟨#[]⟩)),some 2,none,[],[]⟩],[],[],false⟩
def z5q:List ROp:=[⟨.mv (.t 0),some 5,none,[7],[]⟩,⟨.len false (.t 5),some 6,none,[7],[]⟩,⟨.callv (.c (.clo 20 [] [])) [(.t 6)],some 7,none,[],[]⟩,⟨.mv (.t 7),some 3,none,[],[]⟩]
def zfj:Reg:=⟨[],z5q,[7],[],false⟩
def zfi:Reg:=⟨[],[⟨.mv (.c (.int .i64 0)),some 4,none,[],[]⟩],[],[],false⟩
def z5p:List ROp:=[⟨.mv (.t 4),some 8,none,[],[]⟩,⟨.mv (.t 0),some 9,none,[],[]⟩,⟨.len false (.t 9),some 10,none,[],[]⟩,⟨.bin .lss (.t 8) (.t 10),some 11,none,[],[]⟩]
def zfh:Reg:=⟨[],z5p,[],[],false⟩
def z6a:List ROp:=[⟨.mv (.t 3),some 14,none,[20,28],[]⟩,⟨.mv (.t 0),some 15,none,[20,28],[]⟩,⟨.mv (.t 4),some 16,none,[20,28],[]⟩,⟨.iaddr 2 (.t 15) (.t 16),some 17,none,[20,28],[]⟩,⟨.faddr 0 (.t 17),some 18,none,[20,28],[]⟩,⟨.load 1 false (.t 18),some 19,none,[20,28],[]⟩,⟨.callv (.c (.clo 21 [] [])) [(.t 19)],some 20,none,[28],[]⟩,⟨.bin .add (.c (.str ⟨#[32]⟩)) (.t 20),some 21,none,[28],[]⟩,⟨.bin .add (.t 21) (.c (.str ⟨#[61]⟩)),some 22,none,[28],[]⟩,⟨.mv (.t 0),some 23,none,[20,28],[]⟩,⟨.mv (.t 4),some 24,none,[20,28],[]⟩,⟨.iaddr 2 (.t 23) (.t 24),some 25,none,[20,28],[]⟩,⟨.faddr 1 (.t 25),some 26,none,[20,28],[]⟩,⟨.load 1 false (.t 26),some 27,none,[20,28],[]⟩,⟨.callv (.c (.clo 21 [] [])) [(.t 27)],some 28,none,[],[]⟩,⟨.bin .add (.t 22) (.t 28),some 29,none,[],[]⟩]
def zfg:Reg:=⟨z6a,[⟨.bin .add (.t 14) (.t 29),some 30,none,[],[]⟩,⟨.mv (.t 30),some 3,none,[],[]⟩],[20,28],[],true⟩
def z5o:List ROp:=[⟨.mv (.t 4),some 12,none,[],[]⟩,⟨.bin .add (.t 12) (.c (.int .i64 1)),some 13,none,[],[]⟩,⟨.mv (.t 13),some 4,none,[],[]⟩]
def zff:Reg:=⟨[],z5o,[],[],false⟩
def z9v:IR:=(.seq (.seq (.reg zfh)
 (.cond (.t 11) .skip
 (.exit 0)))
 (.seq (.block 1 (.reg zfg))
 (.reg zff)))
def zfe:Reg:=⟨[],[⟨.mv (.t 3),some 31,none,[],[]⟩,⟨.mv (.t 31),some 2,none,[],[]⟩],[],[],false⟩
def znx:IR:=(.seq (.reg zfk)
 (.seq (.reg zfj)
 (.seq (.seq (.reg zfi)
 (.block 0 (.loop z9v)))
 (.seq (.reg zfe)
 .ret))))
def zfb:List RDesc:=[(.tmp 2)]
theorem y7u:EqR zfk [⟨.mv (.c (.str ⟨#[]⟩)),some 2,none,[],[]⟩] []:=fun _ _ _=>rfl
theorem y7t:EqR zfj z5q [7]:=fun _ _ _=>rfl
theorem y7s:EqR zfi [⟨.mv (.c (.int .i64 0)),some 4,none,[],[]⟩] []:=fun _ _ _=>rfl
theorem y7r:EqR zfh z5p []:=fun _ _ _=>rfl
theorem y7q (C:FuncId->List AV->AV->Prop) (σ:St) (K:St->Prop):z0k C zfg σ K = z08 C [] [⟨.bin .add (.t 14) (.t 29),some 30,none,[],[]⟩,⟨.mv (.t 30),some 3,none,[],[]⟩] z6a (σ.kills [20,28]) K:=rfl
theorem y7p:EqR zff z5o []:=fun _ _ _=>rfl
theorem y7o:EqR zfe [⟨.mv (.t 3),some 31,none,[],[]⟩,⟨.mv (.t 31),some 2,none,[],[]⟩] []:=fun _ _ _=>rfl
theorem y9u {args:List AV} {r:AV} (ha:args.length.ble Tryz.f22.ntmps = true) (h:run (AFn Tryz.prog) znx (endQ zfb r) (z0b args)):AFn Tryz.prog 22 args r :=
 AFn.of_code (pv:=false) (hint:=fun _=>[]) (c:=Tryz.f22.body.getD .skip) (by kernel_rfl) (by kernel_rfl) Tryz.func22 (by kernel_rfl) (by kernel_rfl) (by kernel_rfl) (of_decide_eq_true (by kernel_rfl)) (Nat.le_of_ble_eq_true ha) (Nat.le_of_ble_eq_true (by kernel_rfl)) (z0c h)
/-! ### percolate/percolateref46.Message -/
def zu3:Reg:=⟨[],[⟨.box 6 55 (.t 0),some 1,none,[],[]⟩,⟨.mv (.c (.str ⟨#[]⟩)),some 2,none,[],[]⟩],[1],[],false⟩
def zcg:List ROp:=[⟨.faddr 0 (.t 1),some 4,none,[6],[]⟩,⟨.load 1 false (.t 4),some 5,none,[6],[]⟩,⟨.callv (.c (.clo 20 [] [])) [(.t 5)],some 6,none,[],[]⟩,⟨.mv (.t 6),some 3,none,[],[]⟩]
def zu2:Reg:=⟨[],zcg,[6],[],false⟩
def zu1:Reg:=⟨[],[⟨.faddr 1 (.t 1),some 7,none,[],[]⟩,⟨.load 1 false (.t 7),some 8,none,[],[]⟩],[],[],false⟩
def zu0:Reg:=⟨[],[⟨.bin .eql (.t 8) (.c (.int .i64 1)),some 10,none,[],[]⟩,⟨.mv (.t 10),some 9,none,[],[]⟩],[],[],false⟩
def zes:List ROp:=[⟨.mv (.t 3),some 11,none,[15,20],[]⟩,⟨.bin .add (.t 11) (.c (.str ⟨#[32,112,117,116,32]⟩)),some 12,none,[15,20],[]⟩,⟨.faddr 2 (.t 1),some 13,none,[15,20],[]⟩,⟨.load 1 false (.t 13),some 14,none,[15,20],[]⟩,⟨.callv (.c (.clo 21 [] [])) [(.t 14)],some 15,none,[20],[]⟩,⟨.bin .add (.t 12) (.t 15),some 16,none,[20],[]⟩,⟨.bin .add (.t 16) (.c (.str ⟨#[32]⟩)),some 17,none,[20],[]⟩,⟨.faddr 5 (.t 1),some 18,none,[15,20],[]⟩,⟨.load 1 false (.t 18),some 19,none,[15,20],[]⟩,⟨.callv (.c (.clo 21 [] [])) [(.t 19)],some 20,none,[],[]⟩]
def ztz:Reg:=⟨zes,[⟨.bin .add (.t 17) (.t 20),some 21,none,[],[]⟩,⟨.mv (.t 21),some 2,none,[],[]⟩],[15,20],[],true⟩
def zty:Reg:=⟨[],[⟨.bin .eql (.t 8) (.c (.int .i64 2)),some 23,none,[],[]⟩,⟨.mv (.t 23),some 22,none,[],[]⟩],[],[],false⟩
def zer:List ROp:=[⟨.mv (.t 3),some 24,none,[28,33],[]⟩,⟨.bin .add (.t 24) (.c (.str ⟨#[32,97,100,100,32]⟩)),some 25,none,[28,33],[]⟩,⟨.faddr 2 (.t 1),some 26,none,[28,33],[]⟩,⟨.load 1 false (.t 26),some 27,none,[28,33],[]⟩,⟨.callv (.c (.clo 21 [] [])) [(.t 27)],some 28,none,[33],[]⟩,⟨.bin .add (.t 25) (.t 28),some 29,none,[33],[]⟩,⟨.bin .add (.t 29) (.c (.str ⟨#[32]⟩)),some 30,none,[33],[]⟩,⟨.faddr 5 (.t 1),some 31,none,[28,33],[]⟩,⟨.load 1 false (.t 31),some 32,none,[28,33],[]⟩,⟨.callv (.c (.clo 21 [] [])) [(.t 32)],some 33,none,[],[]⟩]
def ztx:Reg:=⟨zer,[⟨.bin .add (.t 30) (.t 33),some 34,none,[],[]⟩,⟨.mv (.t 34),some 2,none,[],[]⟩],[28,33],[],true⟩
def ztw:Reg:=⟨[],[⟨.bin .eql (.t 8) (.c (.int .i64 3)),some 36,none,[],[]⟩,⟨.mv (.t 36),some 35,none,[],[]⟩],[],[],false⟩
def zcf:List ROp:=[⟨.mv (.t 3),some 37,none,[41],[]⟩,⟨.bin .add (.t 37) (.c (.str ⟨#[32,100,101,108,32]⟩)),some 38,none,[41],[]⟩,⟨.faddr 2 (.t 1),some 39,none,[41],[]⟩,⟨.load 1 false (.t 39),some 40,none,[41],[]⟩,⟨.callv (.c (.clo 21 [] [])) [(.t 40)],some 41,none,[],[]⟩,⟨.bin .add (.t 38) (.t 41),some 42,none,[],[]⟩,⟨.mv (.t 42),some 2,none,[],[]⟩]
def ztv:Reg:=⟨[],zcf,[41],[],false⟩
def ztu:Reg:=⟨[],[⟨.bin .eql (.t 8) (.c (.int .i64 4)),some 44,none,[],[]⟩,⟨.mv (.t 44),some 43,none,[],[]⟩],[],[],false⟩
def zm1:Reg:=⟨[],[⟨.faddr 4 (.t 1),some 45,none,[],[]⟩,⟨.load 1 false (.t 45),some 46,none,[],[]⟩],[],[],false⟩
def z7y:List ROp:=[⟨.mv (.t 3),some 47,none,[51],[]⟩,⟨.bin .add (.t 47) (.c (.str ⟨#[32,119,105,112,101,32]⟩)),some 48,none,[51],[]⟩,⟨.faddr 2 (.t 1),some 49,none,[51],[]⟩,⟨.load 1 false (.t 49),some 50,none,[51],[]⟩,⟨.callv (.c (.clo 21 [] [])) [(.t 50)],some 51,none,[],[]⟩,⟨.bin .add (.t 48) (.t 51),some 52,none,[],[]⟩,⟨.bin .add (.t 52) (.c (.str ⟨#[32,42]⟩)),some 53,none,[],[]⟩,⟨.mv (.t 53),some 2,none,[],[]⟩]
def zm0:Reg:=⟨[],z7y,[51],[],false⟩
def z98:List ROp:=[⟨.mv (.t 3),some 54,none,[58,63],[]⟩,⟨.bin .add (.t 54) (.c (.str ⟨#[32,119,105,112,101,32]⟩)),some 55,none,[58,63],[]⟩,⟨.faddr 2 (.t 1),some 56,none,[58,63],[]⟩,⟨.load 1 false (.t 56),some 57,none,[58,63],[]⟩,⟨.callv (.c (.clo 21 [] [])) [(.t 57)],some 58,none,[63],[]⟩,⟨.bin .add (.t 55) (.t 58),some 59,none,[63],[]⟩,⟨.bin .add (.t 59) (.c (.str ⟨#[32]⟩)),some 60,none,[63],[]⟩,⟨.faddr 3 (.t 1),some 61,none,[58,63],[]⟩,⟨.load 1 false (.t 61),some 62,none,[58,63],[]⟩,⟨.callv (.c (.clo 21 [] [])) [(.t 62)],some 63,none,[],[]⟩]
def zlz:Reg:=⟨z98,[⟨.bin .add (.t 60) (.t 63),some 64,none,[],[]⟩,⟨.mv (.t 64),some 2,none,[],[]⟩],[58,63],[],true⟩
def z7x:List ROp:=[⟨.mv (.t 3),some 65,none,[69],[]⟩,⟨.bin .add (.t 65) (.c (.str ⟨#[32,107,105,110,100,32]⟩)),some 66,none,[69],[]⟩,⟨.faddr 2 (.t 1),some 67,none,[69],[]⟩,⟨.load 1 false (.t 67),some 68,none,[69],[]⟩,⟨.callv (.c (.clo 21 [] [])) [(.t 68)],some 69,none,[],[]⟩,⟨.bin .add (.t 66) (.t 69),some 70,none,[],[]⟩,⟨.mv (.t 70),some 2,none,[],[]⟩]
def zly:Reg:=⟨[],z7x,[69],[],false⟩
def y6z:IR:=(.seq (.reg zu3)
 (.seq (.reg zu2)
 (.seq (.seq (.reg zu1)
 (.block 0 (.seq (.reg zu0)
 (.cond (.t 9) (.seq (.reg ztz)
 .ret)
 (.seq (.reg zty)
 (.cond (.t 22) (.seq (.reg ztx)
 .ret)
 (.seq (.reg ztw)
 (.cond (.t 35) (.seq (.reg ztv)
 .ret)
 (.seq (.reg ztu)
 (.cond (.t 43) (.seq (.seq (.reg zm1)
 (.cond (.t 46) (.seq (.reg zm0)
 .ret)
 .skip))
 (.seq (.reg zlz)
 .ret))
 .skip))))))))))
 (.seq (.reg zly)
 .ret))))
def zqc:List RDesc:=[(.tmp 2)]
theorem e_r46Msg_0:EqR zu3 [⟨.box 6 55 (.t 0),some 1,none,[],[]⟩,⟨.mv (.c (.str ⟨#[]⟩)),some 2,none,[],[]⟩] [1]:=fun _ _ _=>rfl
theorem e_r46Msg_1:EqR zu2 zcg [6]:=fun _ _ _=>rfl
theorem e_r46Msg_2:EqR zu1 [⟨.faddr 1 (.t 1),some 7,none,[],[]⟩,⟨.load 1 false (.t 7),some 8,none,[],[]⟩] []:=fun _ _ _=>rfl
theorem e_r46Msg_3:EqR zu0 [⟨.bin .eql (.t 8) (.c (.int .i64 1)),some 10,none,[],[]⟩,⟨.mv (.t 10),some 9,none,[],[]⟩] []:=fun _ _ _=>rfl
theorem e_r46Msg_4 (C:FuncId->List AV->AV->Prop) (σ:St) (K:St->Prop):z0k C ztz σ K = z08 C [] [⟨.bin .add (.t 17) (.t 20),some 21,none,[],[]⟩,⟨.mv (.t 21),some 2,none,[],[]⟩] zes (σ.kills [15,20]) K:=rfl
theorem e_r46Msg_5:EqR zty [⟨.bin .eql (.t 8) (.c (.int .i64 2)),some 23,none,[],[]⟩,⟨.mv (.t 23),some 22,none,[],[]⟩] []:=fun _ _ _=>rfl
theorem e_r46Msg_6 (C:FuncId->List AV->AV->Prop) (σ:St) (K:St->Prop):z0k C ztx σ K = z08 C [] [⟨.bin .add (.t 30) (.t 33),some 34,none,[],[]⟩,⟨.mv (.t 34),some 2,none,[],[]⟩] zer (σ.kills [28,33]) K:=rfl
theorem e_r46Msg_7:EqR ztw [⟨.bin .eql (.t 8) (.c (.int .i64 3)),some 36,none,[],[]⟩,⟨.mv (.t 36),some 35,none,[],[]⟩] []:=fun _ _ _=>rfl
theorem e_r46Msg_8:EqR ztv zcf [41]:=fun _ _ _=>rfl
theorem e_r46Msg_9:EqR ztu [⟨.bin .eql (.t 8) (.c (.int .i64 4)),some 44,none,[],[]⟩,⟨.mv (.t 44),some 43,none,[],[]⟩] []:=fun _ _ _=>rfl
theorem yb1:EqR zm1 [⟨.faddr 4 (.t 1),some 45,none,[],[]⟩,⟨.load 1 false (.t 45),some 46,none,[],[]⟩] []:=fun _ _ _=>rfl
theorem yb0:EqR zm0 z7y [51]:=fun _ _ _=>rfl
theorem yaz (C:FuncId->List AV->AV->Prop) (σ:St) (K:St->Prop):z0k C zlz σ K = z08 C [] [⟨.bin .add (.t 60) (.t 63),some 64,none,[],[]⟩,⟨.mv (.t 64),some 2,none,[],[]⟩] z98 (σ.kills [58,63]) K:=rfl
theorem yay:EqR zly z7x [69]:=fun _ _ _=>rfl
theorem fn_r46Msg {args:List AV} {r:AV} (ha:args.length.ble Tryz.f23.ntmps = true) (h:run (AFn Tryz.prog) y6z (endQ zqc r) (z0b args)):AFn Tryz.prog 23 args r :=
 AFn.of_code (pv:=false) (hint:=fun _=>[]) (c:=Tryz.f23.body.getD .skip) (by kernel_rfl) (by kernel_rfl) Tryz.func23 (by kernel_rfl) (by kernel_rfl) (by kernel_rfl) (of_decide_eq_true (by kernel_rfl)) (Nat.le_of_ble_eq_true ha) (Nat.le_of_ble_eq_true (by kernel_rfl)) (z0c h)
/-! ### percolate/percolateref46.Node -/
def zlx:Reg:=⟨[],[⟨.box 10 32 (.t 0),some 1,none,[],[]⟩,⟨.mv (.c (.str ⟨#[]⟩)),some 2,none,[],[]⟩],[1],[],false⟩
def z4x:List ROp:=[⟨.bin .add (.t 20) (.t 23),some 24,none,[],[]⟩,⟨.bin .add (.t 24) (.c (.str ⟨#[32]⟩)),some 25,none,[],[]⟩,⟨.mv (.t 25),some 3,none,[],[]⟩]
def z5c:List ROp:=[⟨.faddr 0 (.t 1),some 6,none,[8,13,18,23],[]⟩,⟨.load 1 false (.t 6),some 7,none,[8,13,18,23],[]⟩,⟨.callv (.c (.clo 20 [] [])) [(.t 7)],some 8,none,[13,18,23],[]⟩,⟨.bin .add (.c (.str ⟨#[110,111,100,101,32]⟩)) (.t 8),some 9,none,[13,18,23],[]⟩,⟨.bin .add (.t 9) (.c (.str ⟨#[32]⟩)),some 10,none,[13,18,23],[]⟩,⟨.faddr 1 (.t 1),some 11,none,[8,13,18,23],[]⟩,⟨.load 1 false (.t 11),some 12,none,[8,13,18,23],[]⟩,⟨.callv (.c (.clo 20 [] [])) [(.t 12)],some 13,none,[18,23],[]⟩,⟨.bin .add (.t 10) (.t 13),some 14,none,[18,23],[]⟩,⟨.bin .add (.t 14) (.c (.str ⟨#[32]⟩)),some 15,none,[18,23],[]⟩,⟨.faddr 7 (.t 1),some 16,none,[8,13,18,23],[]⟩,⟨.load 1 false (.t 16),some 17,none,[8,13,18,23],[]⟩,⟨.callv (.c (.clo 20 [] [])) [(.t 17)],some 18,none,[23],[]⟩,⟨.bin .add (.t 15) (.t 18),some 19,none,[23],[]⟩,⟨.bin .add (.t 19) (.c (.str ⟨#[32]⟩)),some 20,none,[23],[]⟩,⟨.faddr 6 (.t 1),some 21,none,[8,13,18,23],[]⟩,⟨.load 1 false (.t 21),some 22,none,[8,13,18,23],[]⟩,⟨.callv (.c (.clo 20 [] [])) [(.t 22)],some 23,none,[],[]⟩]
def zlw:Reg:=⟨z5c,z4x,[8,13,18,23],[],true⟩
def zlv:Reg:=⟨[],[⟨.faddr 5 (.t 1),some 26,none,[],[]⟩,⟨.load 1 false (.t 26),some 27,none,[],[]⟩],[],[],false⟩
def z4w:List ROp:=[⟨.mv (.t 3),some 28,none,[],[]⟩,⟨.bin .add (.t 28) (.c (.str ⟨#[42,32,58,32]⟩)),some 29,none,[],[]⟩,⟨.mv (.t 29),some 3,none,[],[]⟩]
def zlu:Reg:=⟨[],z4w,[],[],false⟩
def z4v:List ROp:=[⟨.mv (.t 3),some 30,none,[33],[]⟩,⟨.faddr 4 (.t 1),some 31,none,[33],[]⟩,⟨.load 1 false (.t 31),some 32,none,[33],[]⟩,⟨.callv (.c (.clo 21 [] [])) [(.t 32)],some 33,none,[],[]⟩,⟨.bin .add (.t 33) (.c (.str ⟨#[32,58,32]⟩)),some 34,none,[],[]⟩,⟨.bin .add (.t 30) (.t 34),some 35,none,[],[]⟩,⟨.mv (.t 35),some 3,none,[],[]⟩]
def zlt:Reg:=⟨[],z4v,[33],[],false⟩
def z4u:List ROp:=[⟨.faddr 1 (.t 1),some 36,none,[],[]⟩,⟨.load 1 false (.t 36),some 37,none,[],[]⟩,⟨.bin .eql (.t 37) (.c (.int .i64 0)),some 38,none,[],[]⟩]
def zls:Reg:=⟨[],z4u,[],[],false⟩
def z4t:List ROp:=[⟨.mv (.t 3),some 39,none,[42],[]⟩,⟨.faddr 9 (.t 1),some 40,none,[42],[]⟩,⟨.load 1 false (.t 40),some 41,none,[42],[]⟩,⟨.callv (.c (.clo 22 [] [])) [(.t 41)],some 42,none,[],[]⟩,⟨.bin .add (.c (.str ⟨#[114,111,119,115,32]⟩)) (.t 42),some 43,none,[],[]⟩,⟨.bin .add (.t 39) (.t 43),some 44,none,[],[]⟩,⟨.mv (.t 44),some 3,none,[],[]⟩]
def zlr:Reg:=⟨[],z4t,[42],[],false⟩
def z4s:List ROp:=[⟨.mv (.t 3),some 45,none,[],[]⟩,⟨.bin .add (.t 45) (.c (.str ⟨#[107,105,100,115]⟩)),some 46,none,[],[]⟩,⟨.mv (.t 46),some 3,none,[],[]⟩]
def zlq:Reg:=⟨[],z4s,[],[],false⟩
def zlp:Reg:=⟨[],[⟨.mv (.c (.int .i64 0)),some 4,none,[],[]⟩],[],[],false⟩
def z4r:List ROp:=[⟨.mv (.t 4),some 47,none,[],[]⟩,⟨.faddr 3 (.t 1),some 48,none,[],[]⟩,⟨.load 1 false (.t 48),some 49,none,[],[]⟩,⟨.len false (.t 49),some 50,none,[],[]⟩,⟨.bin .lss (.t 47) (.t 50),some 51,none,[],[]⟩]
def zlo:Reg:=⟨[],z4r,[],[],false⟩
def z3r:List ROp:=[⟨.mv (.t 4),some 54,none,[],[]⟩,⟨.bin .gtr (.t 54) (.c (.int .i64 0)),some 55,none,[],[]⟩,⟨.mv (.t 55),some 56,none,[],[]⟩,⟨.mv (.t 4),some 57,(some (56,true)),[],[]⟩,⟨.bin .sub (.t 57) (.c (.int .i64 1)),some 58,(some (56,true)),[],[]⟩,⟨.faddr 2 (.t 1),some 59,(some (56,true)),[],[]⟩,⟨.load 1 false (.t 59),some 60,(some (56,true)),[],[]⟩,⟨.len false (.t 60),some 61,(some (56,true)),[],[]⟩,⟨.bin .lss (.t 58) (.t 61),some 62,(some (56,true)),[],[]⟩,⟨.pick (.t 56) (.t 62) (.c (.bool false)),some 63,none,[],[]⟩]
def zfu:Reg:=⟨[],z3r,[],[],false⟩
def z3q:List ROp:=[⟨.mv (.t 3),some 64,none,[71],[]⟩,⟨.faddr 2 (.t 1),some 65,none,[71],[]⟩,⟨.load 1 false (.t 65),some 66,none,[71],[]⟩,⟨.mv (.t 4),some 67,none,[71],[]⟩,⟨.bin .sub (.t 67) (.c (.int .i64 1)),some 68,none,[71],[]⟩,⟨.iaddr 1 (.t 66) (.t 68),some 69,none,[71],[]⟩,⟨.load 1 false (.t 69),some 70,none,[71],[]⟩,⟨.callv (.c (.clo 21 [] [])) [(.t 70)],some 71,none,[],[]⟩,⟨.bin .add (.c (.str ⟨#[32]⟩)) (.t 71),some 72,none,[],[]⟩,⟨.bin .add (.t 64) (.t 72),some 73,none,[],[]⟩,⟨.mv (.t 73),some 3,none,[],[]⟩]
def zft:Reg:=⟨[],z3q,[71],[],false⟩
def z3p:List ROp:=[⟨.mv (.t 3),some 74,none,[80],[]⟩,⟨.faddr 3 (.t 1),some 75,none,[80],[]⟩,⟨.load 1 false (.t 75),some 76,none,[80],[]⟩,⟨.mv (.t 4),some 77,none,[80],[]⟩,⟨.iaddr 1 (.t 76) (.t 77),some 78,none,[80],[]⟩,⟨.load 1 false (.t 78),some 79,none,[80],[]⟩,⟨.callv (.c (.clo 20 [] [])) [(.t 79)],some 80,none,[],[]⟩,⟨.bin .add (.c (.str ⟨#[32]⟩)) (.t 80),some 81,none,[],[]⟩,⟨.bin .add (.t 74) (.t 81),some 82,none,[],[]⟩,⟨.mv (.t 82),some 3,none,[],[]⟩]
def zfs:Reg:=⟨[],z3p,[80],[],false⟩
def z3o:List ROp:=[⟨.mv (.t 4),some 52,none,[],[]⟩,⟨.bin .add (.t 52) (.c (.int .i64 1)),some 53,none,[],[]⟩,⟨.mv (.t 53),some 4,none,[],[]⟩]
def zfr:Reg:=⟨[],z3o,[],[],false⟩
def z56:IR:=(.seq (.seq (.reg zlo)
 (.cond (.t 51) .skip
 (.exit 0)))
 (.seq (.block 1 (.seq (.seq (.reg zfu)
 (.cond (.t 63) (.reg zft)
 .skip))
 (.reg zfs)))
 (.reg zfr)))
def z3n:List ROp:=[⟨.mv (.t 3),some 83,none,[87],[]⟩,⟨.faddr 8 (.t 1),some 84,none,[87],[]⟩,⟨.load 1 false (.t 84),some 85,none,[87],[]⟩,⟨.len false (.t 85),some 86,none,[87],[]⟩,⟨.callv (.c (.clo 20 [] [])) [(.t 86)],some 87,none,[],[]⟩,⟨.bin .add (.c (.str ⟨#[32,58,32,109,115,103,115,32]⟩)) (.t 87),some 88,none,[],[]⟩,⟨.bin .add (.t 83) (.t 88),some 89,none,[],[]⟩,⟨.mv (.t 89),some 3,none,[],[]⟩]
def zfq:Reg:=⟨[],z3n,[87],[],false⟩
def zfp:Reg:=⟨[],[⟨.mv (.c (.int .i64 0)),some 5,none,[],[]⟩],[],[],false⟩
def z3m:List ROp:=[⟨.mv (.t 5),some 90,none,[],[]⟩,⟨.faddr 8 (.t 1),some 91,none,[],[]⟩,⟨.load 1 false (.t 91),some 92,none,[],[]⟩,⟨.len false (.t 92),some 93,none,[],[]⟩,⟨.bin .lss (.t 90) (.t 93),some 94,none,[],[]⟩]
def zfo:Reg:=⟨[],z3m,[],[],false⟩
def z3l:List ROp:=[⟨.mv (.t 3),some 97,none,[103],[]⟩,⟨.faddr 8 (.t 1),some 98,none,[103],[]⟩,⟨.load 1 false (.t 98),some 99,none,[103],[]⟩,⟨.mv (.t 5),some 100,none,[103],[]⟩,⟨.iaddr 6 (.t 99) (.t 100),some 101,none,[103],[]⟩,⟨.load 6 true (.t 101),some 102,none,[103],[]⟩,⟨.callv (.c (.clo 23 [] [])) [(.t 102)],some 103,none,[],[]⟩,⟨.bin .add (.c (.str ⟨#[32,44,32]⟩)) (.t 103),some 104,none,[],[]⟩,⟨.bin .add (.t 97) (.t 104),some 105,none,[],[]⟩,⟨.mv (.t 105),some 3,none,[],[]⟩]
def zfn:Reg:=⟨[],z3l,[103],[],false⟩
def z3k:List ROp:=[⟨.mv (.t 5),some 95,none,[],[]⟩,⟨.bin .add (.t 95) (.c (.int .i64 1)),some 96,none,[],[]⟩,⟨.mv (.t 96),some 5,none,[],[]⟩]
def zfm:Reg:=⟨[],z3k,[],[],false⟩
def z55:IR:=(.seq (.seq (.reg zfo)
 (.cond (.t 94) .skip
 (.exit 2)))
 (.seq (.block 3 (.reg zfn))
 (.reg zfm)))
def zfl:Reg:=⟨[],[⟨.mv (.t 3),some 106,none,[],[]⟩,⟨.mv (.t 106),some 2,none,[],[]⟩],[],[],false⟩
def zei:IR:=(.seq (.reg zlx)
 (.seq (.reg zlw)
 (.seq (.seq (.reg zlv)
 (.cond (.t 27) (.reg zlu)
 (.reg zlt)))
 (.seq (.seq (.reg zls)
 (.cond (.t 38) (.reg zlr)
 (.seq (.reg zlq)
 (.seq (.reg zlp)
 (.block 0 (.loop z56))))))
 (.seq (.reg zfq)
 (.seq (.seq (.reg zfp)
 (.block 2 (.loop z55)))
 (.seq (.reg zfl)
 .ret)))))))
def z8q:List RDesc:=[(.tmp 2)]
theorem zoy:EqR zlx [⟨.box 10 32 (.t 0),some 1,none,[],[]⟩,⟨.mv (.c (.str ⟨#[]⟩)),some 2,none,[],[]⟩] [1]:=fun _ _ _=>rfl
theorem zox (C:FuncId->List AV->AV->Prop) (σ:St) (K:St->Prop):z0k C zlw σ K = z08 C [] z4x z5c (σ.kills [8,13,18,23]) K:=rfl
theorem zow:EqR zlv [⟨.faddr 5 (.t 1),some 26,none,[],[]⟩,⟨.load 1 false (.t 26),some 27,none,[],[]⟩] []:=fun _ _ _=>rfl
theorem zov:EqR zlu z4w []:=fun _ _ _=>rfl
theorem zou:EqR zlt z4v [33]:=fun _ _ _=>rfl
theorem zot:EqR zls z4u []:=fun _ _ _=>rfl
theorem zos:EqR zlr z4t [42]:=fun _ _ _=>rfl
theorem zor:EqR zlq z4s []:=fun _ _ _=>rfl
theorem zoq:EqR zlp [⟨.mv (.c (.int .i64 0)),some 4,none,[],[]⟩] []:=fun _ _ _=>rfl
theorem zop:EqR zlo z4r []:=fun _ _ _=>rfl
theorem zgm:EqR zfu z3r []:=fun _ _ _=>rfl
theorem zgl:EqR zft z3q [71]:=fun _ _ _=>rfl
theorem zgk:EqR zfs z3p [80]:=fun _ _ _=>rfl
theorem zgj:EqR zfr z3o []:=fun _ _ _=>rfl
theorem zgi:EqR zfq z3n [87]:=fun _ _ _=>rfl
theorem zgh:EqR zfp [⟨.mv (.c (.int .i64 0)),some 5,none,[],[]⟩] []:=fun _ _ _=>rfl
theorem zgg:EqR zfo z3m []:=fun _ _ _=>rfl
theorem zgf:EqR zfn z3l [103]:=fun _ _ _=>rfl
theorem zge:EqR zfm z3k []:=fun _ _ _=>rfl
theorem zgd:EqR zfl [⟨.mv (.t 3),some 106,none,[],[]⟩,⟨.mv (.t 106),some 2,none,[],[]⟩] []:=fun _ _ _=>rfl
theorem fn_r46Node {args:List AV} {r:AV} (ha:args.length.ble Tryz.f7.ntmps = true) (h:run (AFn Tryz.prog) zei (endQ z8q r) (z0b args)):AFn Tryz.prog 7 args r :=
 AFn.of_code (pv:=false) (hint:=fun _=>[]) (c:=Tryz.f7.body.getD .skip) (by kernel_rfl) (by kernel_rfl) Tryz.func7 (by kernel_rfl) (by kernel_rfl) (by kernel_rfl) (of_decide_eq_true (by kernel_rfl)) (Nat.le_of_ble_eq_true ha) (Nat.le_of_ble_eq_true (by kernel_rfl)) (z0c h)
attribute [local go_sem ↓] znx
attribute [local go_sem] zfb y7u y7t z5q y7s y7r z5p y7q z6a y7p z5o y7o
attribute [local go_sem ↓] y6z
attribute [local go_sem] zqc e_r46Msg_0 e_r46Msg_1 zcg e_r46Msg_2 e_r46Msg_3 e_r46Msg_4 zes e_r46Msg_5 e_r46Msg_6 zer e_r46Msg_7 e_r46Msg_8 zcf e_r46Msg_9 yb1 yb0 z7y yaz z98 yay z7x
attribute [local go_sem ↓] zei
attribute [local go_sem] z8q zoy zox z4x z5c zow zov z4w zou z4v zot z4u zos z4t zor z4s zoq zop z4r zgm z3r zgl z3q zgk z3p zgj z3o zgi z3n zgh zgg z3m zgf z3l zge z3k zgd
theorem zz1 (a:UInt8):(#[a]:Array UInt8).size = 1:=rfl
def rpInv (l:List Par) (k:Nat) (σ:St):Prop :=
 ∃ j:Nat,j≤l.length∧k = l.length - j∧σ.T 0 = .sl (l.map Par.a)∧σ.T 4 = .int .i64 j∧σ.T 3 = .str (decS l.length ++ catF (fun p=>(⟨#[32]⟩:ByteArray) ++ p.w) (l.take j))
theorem y92 (l:List Par) (hl:l.length≤2000) (hs:∀ p,p ∈ l->p.key.size≤2000∧p.val.size≤2000):AFn Tryz.prog 22 [.sl (l.map Par.a)] (.str (z64 l)):=by
 refine y9u rfl ?_
 have d1:=z0g l.length (by omega) (by omega)
 have c1:=z59 l.length ⟨by omega,by omega⟩
 (repeat (first | simp (maxSteps:=9^7) only [go_sem,↓reduceIte,reduceCtorEq,Nat.reduceEqDiff,Nat.reduceBEq,Nat.reduceAdd,Nat.reduceSub,Nat.reduceMul,Nat.reduceLT,Nat.reduceLeDiff,Nat.reduceBNe,Int.reduceBEq,Int.reduceBNe,Int.reduceLT,Int.reduceLE,Msg.a,Par.a,Hld.a,Nd.a,List.length_map] | refine z01 (c1) ?_ | refine z00 (c1) ?_ | refine And.intro (by omega) ?_ | refine And.intro (fun d hd=>by (repeat (rcases hd with rfl | hd; · exact ⟨rfl,rfl⟩)); cases hd) ?_))
 refine z0d (rpInv l) (k:=l.length) ⟨0,by omega,rfl,?_,?_,?_⟩ ?_
 ·simp (maxSteps:=9^7) only [go_sem,↓reduceIte,reduceCtorEq,Nat.reduceEqDiff,Nat.reduceBEq,Nat.reduceAdd,Nat.reduceSub,Nat.reduceMul,Nat.reduceLT,Nat.reduceLeDiff,Nat.reduceBNe,Int.reduceBEq,Int.reduceBNe,Int.reduceLT,Int.reduceLE,Msg.a,Par.a,Hld.a,Nd.a]
 ·simp (maxSteps:=9^7) only [go_sem,↓reduceIte,reduceCtorEq,Nat.reduceEqDiff,Nat.reduceBEq,Nat.reduceAdd,Nat.reduceSub,Nat.reduceMul,Nat.reduceLT,Nat.reduceLeDiff,Nat.reduceBNe,Int.reduceBEq,Int.reduceBNe,Int.reduceLT,Int.reduceLE,Msg.a,Par.a,Hld.a,Nd.a]
  rfl
 ·simp (maxSteps:=9^7) only [go_sem,↓reduceIte,reduceCtorEq,Nat.reduceEqDiff,Nat.reduceBEq,Nat.reduceAdd,Nat.reduceSub,Nat.reduceMul,Nat.reduceLT,Nat.reduceLeDiff,Nat.reduceBNe,Int.reduceBEq,Int.reduceBNe,Int.reduceLT,Int.reduceLE,Msg.a,Par.a,Hld.a,Nd.a,List.take_zero,catF,z4j]
 rintro k σ ⟨j,hj,rfl,t0,t4,t3⟩
 simp only [z9v]
 have hcs:=z45 (fun p:Par=>(⟨#[32]⟩:ByteArray) ++ p.w) 12011 l j (fun p hp=>by
  have:=zng (hs p hp).1 (hs p hp).2
  have e:(⟨#[32]⟩:ByteArray).size = 1:=rfl
  show (_ ++ _:ByteArray).size≤_
  rw [ByteArray.size_append,e]; omega)
 have h2:l.length * 12011≤2000 * 12011:=Nat.mul_le_mul_right _ hl
 by_cases hlt:j < l.length
 ·have hlt':(j:Int) < (l.length:Int):=by omega
  obtain ⟨x,hx⟩:=z0i hlt
  have hgj:=z0o (f:=Par.a) hx
  simp only [Par.a] at hgj
  have hw:=z1j (j:=j) (by omega)
  obtain ⟨s1,s2⟩:=hs x (List.mem_of_getElem? hx)
  have q1:=z0f x.key
  have q2:=z0f x.val
  have c2:=z2v x.key (by omega)
  have c3:=z2v x.val (by omega)
  have hn:decS l.length ++ catF (fun p=>(⟨#[32]⟩:ByteArray) ++ p.w) (l.take j) ++ ((⟨#[32]⟩:ByteArray) ++ z04 x.key ++ (⟨#[61]⟩:ByteArray) ++ z04 x.val) = decS l.length ++ catF (fun p=>(⟨#[32]⟩:ByteArray) ++ p.w) (l.take (j + 1)):=by
   rw [z7d hx,zad]
   unfold Par.w
   simp only [z14]
  (repeat (first | simp (maxSteps:=9^7) only [go_sem,↓reduceIte,reduceCtorEq,Nat.reduceEqDiff,Nat.reduceBEq,Nat.reduceAdd,Nat.reduceSub,Nat.reduceMul,Nat.reduceLT,Nat.reduceLeDiff,Nat.reduceBNe,Int.reduceBEq,Int.reduceBNe,Int.reduceLT,Int.reduceLE,Msg.a,Par.a,Hld.a,Nd.a,t0,t4,t3,hlt',hgj,List.length_map,Int.toNat_natCast,zz1,ByteArray.size_append] | refine z01 (c2) ?_ | refine z00 (c2) ?_ | refine z01 (c3) ?_ | refine z00 (c3) ?_ | refine And.intro (by omega) ?_ | refine And.intro (fun d hd=>by (repeat (rcases hd with rfl | hd; · exact ⟨rfl,rfl⟩)); cases hd) ?_))
  refine ⟨l.length - (j + 1),by omega,j + 1,by omega,rfl,?_,?_,?_⟩ <;>
   (simp (maxSteps:=9^7) only [go_sem,↓reduceIte,reduceCtorEq,Nat.reduceEqDiff,Nat.reduceBEq,Nat.reduceAdd,Nat.reduceSub,Nat.reduceMul,Nat.reduceLT,Nat.reduceLeDiff,Nat.reduceBNe,Int.reduceBEq,Int.reduceBNe,Int.reduceLT,Int.reduceLE,Msg.a,Par.a,Hld.a,Nd.a,t0,t4,t3,hw,hn])
 ·have hlt':¬ (j:Int) < (l.length:Int):=by omega
  obtain rfl:j = l.length:=by omega
  unfold z64
  simp (maxSteps:=9^7) only [go_sem,↓reduceIte,reduceCtorEq,Nat.reduceEqDiff,Nat.reduceBEq,Nat.reduceAdd,Nat.reduceSub,Nat.reduceMul,Nat.reduceLT,Nat.reduceLeDiff,Nat.reduceBNe,Int.reduceBEq,Int.reduceBNe,Int.reduceLT,Int.reduceLE,Msg.a,Par.a,Hld.a,Nd.a,t0,t4,t3,hlt',List.take_length,List.length_map]
set_option maxHeartbeats 2000000 in
theorem r46Msg_ok (m:Msg) (hs:-9223372036854775808≤m.stamp∧m.stamp≤9223372036854775807) (h1:m.key.size≤2000) (h2:m.hi.size≤2000) (h3:m.val.size≤2000):AFn Tryz.prog 23 [m.a] (.str m.line):=by
 refine fn_r46Msg rfl ?_
 have d1:=z0g m.stamp hs.1 hs.2
 have q1:=z0f m.key
 have q2:=z0f m.hi
 have q3:=z0f m.val
 have c1:=z59 m.stamp hs
 have c2:=z2v m.key (by omega)
 have c3:=z2v m.hi (by omega)
 have c4:=z2v m.val (by omega)
 obtain ⟨stamp,kind,key,hi,op,val⟩:=m
 have z6:∀ a b c d e f:UInt8,(#[a,b,c,d,e,f]:Array UInt8).size = 6:=fun _ _ _ _ _ _=>rfl
 have z5:∀ a b c d e:UInt8,(#[a,b,c,d,e]:Array UInt8).size = 5:=fun _ _ _ _ _=>rfl
 have z2:∀ a b:UInt8,(#[a,b]:Array UInt8).size = 2:=fun _ _=>rfl
 unfold Msg.line Msg.word Msg.rest
 simp only at d1 q1 q2 q3 c1 c2 c3 c4 h1 h2 h3 ⊢
 by_cases hk:kind = 1∨kind = 2∨kind = 3∨kind = 4
 case neg =>
  have e1:kind ≠ 1:=fun e=>hk (by omega)
  have e2:kind ≠ 2:=fun e=>hk (by omega)
  have e3:kind ≠ 3:=fun e=>hk (by omega)
  have e4:kind ≠ 4:=fun e=>hk (by omega)
  have b1:(kind == 1) = false:=by simp [e1]
  have b2:(kind == 2) = false:=by simp [e2]
  have b3:(kind == 3) = false:=by simp [e3]
  have b4:(kind == 4) = false:=by simp [e4]
  simp only [e1,e2,e3,e4,if_false,or_self,List.cons_append,List.nil_append]
  have e:z15 [decS stamp,(⟨#[107,105,110,100]⟩:ByteArray),z04 key] (⟨#[32]⟩:ByteArray) = decS stamp ++ (⟨#[32,107,105,110,100,32]⟩:ByteArray) ++ z04 key:=by
   rw [yfh,show (⟨#[32,107,105,110,100,32]⟩:ByteArray) = (⟨#[32]⟩:ByteArray) ++ (⟨#[107,105,110,100]⟩:ByteArray) ++ (⟨#[32]⟩:ByteArray) by decide +kernel]; simp only [z14]
  rw [e]
  (repeat (first | simp (maxSteps:=9^7) only [go_sem,↓reduceIte,reduceCtorEq,Nat.reduceEqDiff,Nat.reduceBEq,Nat.reduceAdd,Nat.reduceSub,Nat.reduceMul,Nat.reduceLT,Nat.reduceLeDiff,Nat.reduceBNe,Int.reduceBEq,Int.reduceBNe,Int.reduceLT,Int.reduceLE,Msg.a,Par.a,Hld.a,Nd.a,b1,b2,b3,b4,zz1,z2,z5,z6,ByteArray.size_append] | refine z01 (c1) ?_ | refine z00 (c1) ?_ | refine z01 (c2) ?_ | refine z00 (c2) ?_ | refine z01 (c3) ?_ | refine z00 (c3) ?_ | refine z01 (c4) ?_ | refine z00 (c4) ?_ | refine And.intro (by omega) ?_ | refine And.intro (fun d hd=>by (repeat (rcases hd with rfl | hd; · exact ⟨rfl,rfl⟩)); cases hd) ?_))
  all_goals omega
 rcases hk with rfl | rfl | rfl | rfl
 ·have e:z15 ([decS stamp,(⟨#[112,117,116]⟩:ByteArray),z04 key] ++ [z04 val]) (⟨#[32]⟩:ByteArray) = decS stamp ++ (⟨#[32,112,117,116,32]⟩:ByteArray) ++ z04 key ++ (⟨#[32]⟩:ByteArray) ++ z04 val:=by
   show z15 [decS stamp,(⟨#[112,117,116]⟩:ByteArray),z04 key,z04 val] (⟨#[32]⟩:ByteArray) = _
   rw [yfg,show (⟨#[32,112,117,116,32]⟩:ByteArray) = (⟨#[32]⟩:ByteArray) ++ (⟨#[112,117,116]⟩:ByteArray) ++ (⟨#[32]⟩:ByteArray) by decide +kernel]; simp only [z14]
  show run _ _ (endQ _ (AV.str (z15 ([decS stamp,(⟨#[112,117,116]⟩:ByteArray),z04 key] ++ [z04 val]) (⟨#[32]⟩:ByteArray)))) _
  rw [e]
  (repeat (first | simp (maxSteps:=9^7) only [go_sem,↓reduceIte,reduceCtorEq,Nat.reduceEqDiff,Nat.reduceBEq,Nat.reduceAdd,Nat.reduceSub,Nat.reduceMul,Nat.reduceLT,Nat.reduceLeDiff,Nat.reduceBNe,Int.reduceBEq,Int.reduceBNe,Int.reduceLT,Int.reduceLE,Msg.a,Par.a,Hld.a,Nd.a,zz1,z2,z5,z6,ByteArray.size_append] | refine z01 (c1) ?_ | refine z00 (c1) ?_ | refine z01 (c2) ?_ | refine z00 (c2) ?_ | refine z01 (c3) ?_ | refine z00 (c3) ?_ | refine z01 (c4) ?_ | refine z00 (c4) ?_ | refine And.intro (by omega) ?_ | refine And.intro (fun d hd=>by (repeat (rcases hd with rfl | hd; · exact ⟨rfl,rfl⟩)); cases hd) ?_))
  all_goals omega
 ·have e:z15 ([decS stamp,(⟨#[97,100,100]⟩:ByteArray),z04 key] ++ [z04 val]) (⟨#[32]⟩:ByteArray) = decS stamp ++ (⟨#[32,97,100,100,32]⟩:ByteArray) ++ z04 key ++ (⟨#[32]⟩:ByteArray) ++ z04 val:=by
   show z15 [decS stamp,(⟨#[97,100,100]⟩:ByteArray),z04 key,z04 val] (⟨#[32]⟩:ByteArray) = _
   rw [yfg,show (⟨#[32,97,100,100,32]⟩:ByteArray) = (⟨#[32]⟩:ByteArray) ++ (⟨#[97,100,100]⟩:ByteArray) ++ (⟨#[32]⟩:ByteArray) by decide +kernel]; simp only [z14]
  show run _ _ (endQ _ (AV.str (z15 ([decS stamp,(⟨#[97,100,100]⟩:ByteArray),z04 key] ++ [z04 val]) (⟨#[32]⟩:ByteArray)))) _
  rw [e]
  (repeat (first | simp (maxSteps:=9^7) only [go_sem,↓reduceIte,reduceCtorEq,Nat.reduceEqDiff,Nat.reduceBEq,Nat.reduceAdd,Nat.reduceSub,Nat.reduceMul,Nat.reduceLT,Nat.reduceLeDiff,Nat.reduceBNe,Int.reduceBEq,Int.reduceBNe,Int.reduceLT,Int.reduceLE,Msg.a,Par.a,Hld.a,Nd.a,zz1,z2,z5,z6,ByteArray.size_append] | refine z01 (c1) ?_ | refine z00 (c1) ?_ | refine z01 (c2) ?_ | refine z00 (c2) ?_ | refine z01 (c3) ?_ | refine z00 (c3) ?_ | refine z01 (c4) ?_ | refine z00 (c4) ?_ | refine And.intro (by omega) ?_ | refine And.intro (fun d hd=>by (repeat (rcases hd with rfl | hd; · exact ⟨rfl,rfl⟩)); cases hd) ?_))
  all_goals omega
 ·have e:z15 [decS stamp,(⟨#[100,101,108]⟩:ByteArray),z04 key] (⟨#[32]⟩:ByteArray) = decS stamp ++ (⟨#[32,100,101,108,32]⟩:ByteArray) ++ z04 key:=by
   rw [yfh,show (⟨#[32,100,101,108,32]⟩:ByteArray) = (⟨#[32]⟩:ByteArray) ++ (⟨#[100,101,108]⟩:ByteArray) ++ (⟨#[32]⟩:ByteArray) by decide +kernel]; simp only [z14]
  show run _ _ (endQ _ (AV.str (z15 [decS stamp,(⟨#[100,101,108]⟩:ByteArray),z04 key] (⟨#[32]⟩:ByteArray)))) _
  rw [e]
  (repeat (first | simp (maxSteps:=9^7) only [go_sem,↓reduceIte,reduceCtorEq,Nat.reduceEqDiff,Nat.reduceBEq,Nat.reduceAdd,Nat.reduceSub,Nat.reduceMul,Nat.reduceLT,Nat.reduceLeDiff,Nat.reduceBNe,Int.reduceBEq,Int.reduceBNe,Int.reduceLT,Int.reduceLE,Msg.a,Par.a,Hld.a,Nd.a,zz1,z2,z5,z6,ByteArray.size_append] | refine z01 (c1) ?_ | refine z00 (c1) ?_ | refine z01 (c2) ?_ | refine z00 (c2) ?_ | refine z01 (c3) ?_ | refine z00 (c3) ?_ | refine z01 (c4) ?_ | refine z00 (c4) ?_ | refine And.intro (by omega) ?_ | refine And.intro (fun d hd=>by (repeat (rcases hd with rfl | hd; · exact ⟨rfl,rfl⟩)); cases hd) ?_))
  all_goals omega
 ·cases op with
  | true =>
   have e:z15 [decS stamp,(⟨#[119,105,112,101]⟩:ByteArray),z04 key,(⟨#[42]⟩:ByteArray)] (⟨#[32]⟩:ByteArray) = decS stamp ++ (⟨#[32,119,105,112,101,32]⟩:ByteArray) ++ z04 key ++ (⟨#[32,42]⟩:ByteArray):=by
    rw [yfg,show (⟨#[32,119,105,112,101,32]⟩:ByteArray) = (⟨#[32]⟩:ByteArray) ++ (⟨#[119,105,112,101]⟩:ByteArray) ++ (⟨#[32]⟩:ByteArray) by decide +kernel,show (⟨#[32,42]⟩:ByteArray) = (⟨#[32]⟩:ByteArray) ++ (⟨#[42]⟩:ByteArray) by decide +kernel]; simp only [z14]
   show run _ _ (endQ _ (AV.str (z15 [decS stamp,(⟨#[119,105,112,101]⟩:ByteArray),z04 key,(⟨#[42]⟩:ByteArray)] (⟨#[32]⟩:ByteArray)))) _
   rw [e]
   (repeat (first | simp (maxSteps:=9^7) only [go_sem,↓reduceIte,reduceCtorEq,Nat.reduceEqDiff,Nat.reduceBEq,Nat.reduceAdd,Nat.reduceSub,Nat.reduceMul,Nat.reduceLT,Nat.reduceLeDiff,Nat.reduceBNe,Int.reduceBEq,Int.reduceBNe,Int.reduceLT,Int.reduceLE,Msg.a,Par.a,Hld.a,Nd.a,zz1,z2,z5,z6,ByteArray.size_append] | refine z01 (c1) ?_ | refine z00 (c1) ?_ | refine z01 (c2) ?_ | refine z00 (c2) ?_ | refine z01 (c3) ?_ | refine z00 (c3) ?_ | refine z01 (c4) ?_ | refine z00 (c4) ?_ | refine And.intro (by omega) ?_ | refine And.intro (fun d hd=>by (repeat (rcases hd with rfl | hd; · exact ⟨rfl,rfl⟩)); cases hd) ?_))
   all_goals omega
  | false =>
   have e:z15 [decS stamp,(⟨#[119,105,112,101]⟩:ByteArray),z04 key,z04 hi] (⟨#[32]⟩:ByteArray) = decS stamp ++ (⟨#[32,119,105,112,101,32]⟩:ByteArray) ++ z04 key ++ (⟨#[32]⟩:ByteArray) ++ z04 hi:=by
    rw [yfg,show (⟨#[32,119,105,112,101,32]⟩:ByteArray) = (⟨#[32]⟩:ByteArray) ++ (⟨#[119,105,112,101]⟩:ByteArray) ++ (⟨#[32]⟩:ByteArray) by decide +kernel]; simp only [z14]
   show run _ _ (endQ _ (AV.str (z15 [decS stamp,(⟨#[119,105,112,101]⟩:ByteArray),z04 key,z04 hi] (⟨#[32]⟩:ByteArray)))) _
   rw [e]
   (repeat (first | simp (maxSteps:=9^7) only [go_sem,↓reduceIte,reduceCtorEq,Nat.reduceEqDiff,Nat.reduceBEq,Nat.reduceAdd,Nat.reduceSub,Nat.reduceMul,Nat.reduceLT,Nat.reduceLeDiff,Nat.reduceBNe,Int.reduceBEq,Int.reduceBNe,Int.reduceLT,Int.reduceLE,Msg.a,Par.a,Hld.a,Nd.a,zz1,z2,z5,z6,ByteArray.size_append] | refine z01 (c1) ?_ | refine z00 (c1) ?_ | refine z01 (c2) ?_ | refine z00 (c2) ?_ | refine z01 (c3) ?_ | refine z00 (c3) ?_ | refine z01 (c4) ?_ | refine z00 (c4) ?_ | refine And.intro (by omega) ?_ | refine And.intro (fun d hd=>by (repeat (rcases hd with rfl | hd; · exact ⟨rfl,rfl⟩)); cases hd) ?_))
   all_goals omega
end
section
/-
 Traces: what the document says of a node's line,walked.
-/
open Go.RowKit
set_option linter.unusedVariables false
set_option linter.unusedSimpArgs false
set_option maxRecDepth 100000
attribute [local go_sem ↓] z11 z0l
attribute [local go_sem ↓] zei
attribute [local go_sem] z8q zoy zox z4x z5c zow zov z4w zou z4v zot z4u zos z4t zor z4s zoq zop z4r zgm z3r zgl z3q zgk z3p zgj z3o zgi z3n zgh zgg z3m zgf z3l zge z3k zgd
def preR (n:Nd):ByteArray :=
 let b:=(⟨#[110,111,100,101,32]⟩:ByteArray) ++ decS n.slot ++ (⟨#[32]⟩:ByteArray) ++ decS n.level ++ (⟨#[32]⟩:ByteArray) ++ decS n.seen ++ (⟨#[32]⟩:ByteArray) ++ decS n.right ++ (⟨#[32]⟩:ByteArray)
 if n.top then b ++ (⟨#[42,32,58,32]⟩:ByteArray) else b ++ (z04 n.high ++ (⟨#[32,58,32]⟩:ByteArray))
def z3i (n:Nd) (j:Nat):ByteArray:=preR n ++ (⟨#[107,105,100,115]⟩:ByteArray) ++ catF (fun y=>(⟨#[32]⟩:ByteArray) ++ y) (z41 n.pivots 0 (n.kids.take j))
def znm (n:Nd) (j:Nat):ByteArray:=preR n ++ n.below ++ ((⟨#[32,58,32,109,115,103,115,32]⟩:ByteArray) ++ decS n.msgs.length) ++ catF (fun m=>(⟨#[32,44,32]⟩:ByteArray) ++ m.line) (n.msgs.take j)
theorem line_flat (n:Nd):n.line = znm n n.msgs.length:=by
 have e1:(⟨#[110,111,100,101,32]⟩:ByteArray) = (⟨#[110,111,100,101]⟩:ByteArray) ++ (⟨#[32]⟩:ByteArray):=by decide +kernel
 have e2:(⟨#[42,32,58,32]⟩:ByteArray) = (⟨#[42]⟩:ByteArray) ++ (⟨#[32]⟩:ByteArray) ++ (⟨#[58]⟩:ByteArray) ++ (⟨#[32]⟩:ByteArray):=by decide +kernel
 have e3:(⟨#[32,58,32]⟩:ByteArray) = (⟨#[32]⟩:ByteArray) ++ (⟨#[58]⟩:ByteArray) ++ (⟨#[32]⟩:ByteArray):=by decide +kernel
 have e4:(⟨#[32,58,32,109,115,103,115,32]⟩:ByteArray) = (⟨#[32]⟩:ByteArray) ++ (⟨#[58]⟩:ByteArray) ++ (⟨#[32]⟩:ByteArray) ++ (⟨#[109,115,103,115]⟩:ByteArray) ++ (⟨#[32]⟩:ByteArray):=by decide +kernel
 unfold Nd.line znm msgsF preR
 rw [List.take_length,za5,e1,e2,e3,e4]
 cases n.top with
 | true=>simp only [catF,if_true,z14,z4j]
 | false=>simp only [catF,Bool.false_eq_true,if_false,z14,z4j]
theorem znc {n:Nd} (h:n.Fit):(preR n).size≤7000:=by
 have z1:=z0g n.slot h.ok.slot.1 h.ok.slot.2
 have z2:=z0g n.level h.ok.level.1 h.ok.level.2
 have z3:=z0g n.seen h.ok.seen.1 h.ok.seen.2
 have z4:=z0g n.right h.ok.right.1 h.ok.right.2
 have q:=z0f n.high
 have hh:=h.hi
 unfold preR
 cases n.top with
 | true=>simp only [if_true,ByteArray.size_append,baz,List.size_toArray,List.length_cons,List.length_nil]; omega
 | false=>simp only [Bool.false_eq_true,if_false,ByteArray.size_append,baz,List.size_toArray,List.length_cons,List.length_nil]; omega
theorem zx0 {n:Nd} (h:n.Fit) (j:Nat):(z3i n j).size≤25000000:=by
 have hp:=znc h
 have e:(⟨#[32]⟩:ByteArray).size = 1:=rfl
 have e1:(⟨#[107,105,100,115]⟩:ByteArray).size = 4:=rfl
 have hc:=z6i (fun y:ByteArray=>(⟨#[32]⟩:ByteArray) ++ y) 6002 (z41 n.pivots 0 (n.kids.take j)) (fun x hx=>by
  have:=z6u n.pivots h.pivs (n.kids.take j) 0 (fun x hx=>h.ok.kids.2 x (List.mem_of_mem_take hx)) x hx
  show (_ ++ _:ByteArray).size≤_
  rw [ByteArray.size_append,e]; omega)
 have hl:=za2 n.pivots (n.kids.take j) 0
 have h2:(n.kids.take j).length≤2000:=by have:=h.nkid; rw [List.length_take]; omega
 have:=Nat.mul_le_mul_right 6002 hl
 unfold z3i
 rw [ByteArray.size_append,ByteArray.size_append,e1]; omega
theorem msgsR_size {n:Nd} (h:n.Fit) (j:Nat):(znm n j).size≤120000000:=by
 have hp:=znc h
 have hb:=zf7 h
 have d1:=z0g n.msgs.length (by have:=h.nmsg; omega) (by have:=h.nmsg; omega)
 have hc:=z45 (fun m:Msg=>(⟨#[32,44,32]⟩:ByteArray) ++ m.line) 24103 n.msgs j (fun m hm=>by
  obtain ⟨a,b,c⟩:=h.ms m hm
  have:=z2y m (h.ok.msgs.2 m hm).stamp a b c
  have e:(⟨#[32,44,32]⟩:ByteArray).size = 3:=rfl
  show (_ ++ _:ByteArray).size≤_
  rw [ByteArray.size_append,e]; omega)
 have h2:=Nat.mul_le_mul_right 24103 h.nmsg
 have e1:(⟨#[32,58,32,109,115,103,115,32]⟩:ByteArray).size = 8:=rfl
 unfold znm
 rw [ByteArray.size_append,ByteArray.size_append,ByteArray.size_append,ByteArray.size_append,e1]
 omega
def rkInv (n:Nd) (k:Nat) (σ:St):Prop :=
 ∃ j:Nat,j≤n.kids.length∧k = n.kids.length - j∧σ.T 1 = .ptr 1 0 0∧σ.H 1 = some ⟨10,32,[n.a],0⟩∧σ.T 4 = .int .i64 j∧σ.T 3 = .str (z3i n j)
def rmInv (n:Nd) (k:Nat) (σ:St):Prop :=
 ∃ j:Nat,j≤n.msgs.length∧k = n.msgs.length - j∧σ.T 1 = .ptr 1 0 0∧σ.H 1 = some ⟨10,32,[n.a],0⟩∧σ.T 5 = .int .i64 j∧σ.T 3 = .str (znm n j)
theorem zx1 {n:Nd} {j:Nat} {k:Int} (h:n.kids[j]? = some k):z3i n (j + 1) = z3i n j ++ catF (fun y=>(⟨#[32]⟩:ByteArray) ++ y) ((if 0 < j∧j≤n.pivots.length then [z04 (n.pivots.getD (j - 1) ⟨#[]⟩)] else []) ++ [decS k]):=by
 have hl:(n.kids.take j).length = j:=by
  have:=(List.getElem?_eq_some_iff.1 h).1
  rw [List.length_take]; omega
 unfold z3i
 rw [z7d h,znt,hl,Nat.zero_add,zzp]
 simp only [z41,List.append_nil,z14]
set_option maxHeartbeats 4000000 in
theorem r46Node_ok (n:Nd) (h:n.Fit):AFn Tryz.prog 7 [n.a] (.str n.line):=by
 refine fn_r46Node rfl ?_
 have hnm:=h.nmsg
 have hnk:=h.nkid
 have hnp:=h.npiv
 have qh:=z0f n.high
 have hh:=h.hi
 have hps:=znc h
 have hbs:=zf7 h
 have d0:=z0g n.msgs.length (by omega) (by omega)
 have k0:=z59 n.msgs.length ⟨by omega,by omega⟩
 have k1:=z59 n.slot h.ok.slot
 have k2:=z59 n.level h.ok.level
 have k3:=z59 n.seen h.ok.seen
 have k4:=z59 n.right h.ok.right
 have d1:=z0g n.slot h.ok.slot.1 h.ok.slot.2
 have d2:=z0g n.level h.ok.level.1 h.ok.level.2
 have d3:=z0g n.seen h.ok.seen.1 h.ok.seen.2
 have d4:=z0g n.right h.ok.right.1 h.ok.right.2
 have ch:=z2v n.high (by omega)
 have z3:∀ a b c:UInt8,(#[a,b,c]:Array UInt8).size = 3:=fun _ _ _=>rfl
 have z4:∀ a b c d:UInt8,(#[a,b,c,d]:Array UInt8).size = 4:=fun _ _ _ _=>rfl
 have z5:∀ a b c d e:UInt8,(#[a,b,c,d,e]:Array UInt8).size = 5:=fun _ _ _ _ _=>rfl
 have z8:∀ a b c d e f g h:UInt8,(#[a,b,c,d,e,f,g,h]:Array UInt8).size = 8:=fun _ _ _ _ _ _ _ _=>rfl
 have loop2:∀ {σ:St} {Q:XK->St->Prop},σ.T 1 = .ptr 1 0 0->σ.H 1 = some ⟨10,32,[n.a],0⟩->σ.T 5 = .int .i64 0->σ.T 3 = .str (znm n 0)->(∀ σ',σ'.T 3 = .str n.line->Q (.exit 2) σ')->awp (AFn Tryz.prog) (.loop z55) Q σ:=by
  intro σ Q u1 v1 u5 u3 hQ
  refine z0d (rmInv n) (k:=n.msgs.length) ⟨0,by omega,rfl,u1,v1,u5,u3⟩ ?_
  rintro k σ ⟨j,hj,rfl,t1,o1,t5,t3⟩
  simp only [z55]
  have ms:=msgsR_size h j
  by_cases hlt:j < n.msgs.length
  ·have hlt':(j:Int) < (n.msgs.length:Int):=by omega
   obtain ⟨x,hx⟩:=z0i hlt
   have hgj:=z0o (f:=Msg.a) hx
   simp only [Msg.a] at hgj
   have hw:=z1j (j:=j) (by omega)
   obtain ⟨s1,s2,s3⟩:=h.ms x (List.mem_of_getElem? hx)
   have st:=(h.ok.msgs.2 x (List.mem_of_getElem? hx)).stamp
   have c4:=r46Msg_ok x st s1 s2 s3
   have ls:=z2y x st s1 s2 s3
   have hn:znm n j ++ ((⟨#[32,44,32]⟩:ByteArray) ++ x.line) = znm n (j + 1):=by
    unfold znm
    rw [z7d hx,zad]
    simp only [z14]
   (repeat (first | simp (maxSteps:=9^7) only [go_sem,↓reduceIte,reduceCtorEq,Nat.reduceEqDiff,Nat.reduceBEq,Nat.reduceAdd,Nat.reduceSub,Nat.reduceMul,Nat.reduceLT,Nat.reduceLeDiff,Nat.reduceBNe,Int.reduceBEq,Int.reduceBNe,Int.reduceLT,Int.reduceLE,Msg.a,Par.a,Nd.a,t1,o1,t5,t3,hlt',hgj,List.length_map,Int.toNat_natCast,z3,ByteArray.size_append] | refine z01 (c4) ?_ | refine z00 (c4) ?_ | refine And.intro (by omega) ?_ | refine And.intro (fun d hd=>by (repeat (rcases hd with rfl | hd; · exact ⟨rfl,rfl⟩)); cases hd) ?_))
   refine ⟨n.msgs.length - (j + 1),by omega,j + 1,by omega,rfl,?_,?_,?_,?_⟩ <;>
    (simp (maxSteps:=9^7) only [go_sem,↓reduceIte,reduceCtorEq,Nat.reduceEqDiff,Nat.reduceBEq,Nat.reduceAdd,Nat.reduceSub,Nat.reduceMul,Nat.reduceLT,Nat.reduceLeDiff,Nat.reduceBNe,Int.reduceBEq,Int.reduceBNe,Int.reduceLT,Int.reduceLE,Msg.a,Par.a,Nd.a,t1,o1,t5,t3,hw,hn])
  ·have hlt':¬ (j:Int) < (n.msgs.length:Int):=by omega
   obtain rfl:j = n.msgs.length:=by omega
   rw [← line_flat] at t3
   simp (maxSteps:=9^7) only [go_sem,↓reduceIte,reduceCtorEq,Nat.reduceEqDiff,Nat.reduceBEq,Nat.reduceAdd,Nat.reduceSub,Nat.reduceMul,Nat.reduceLT,Nat.reduceLeDiff,Nat.reduceBNe,Int.reduceBEq,Int.reduceBNe,Int.reduceLT,Int.reduceLE,Msg.a,Par.a,Nd.a,t1,o1,t5,t3,hlt',List.length_map,Int.toNat_natCast]
   refine hQ _ ?_
   simp (maxSteps:=9^7) only [go_sem,↓reduceIte,reduceCtorEq,Nat.reduceEqDiff,Nat.reduceBEq,Nat.reduceAdd,Nat.reduceSub,Nat.reduceMul,Nat.reduceLT,Nat.reduceLeDiff,Nat.reduceBNe,Int.reduceBEq,Int.reduceBNe,Int.reduceLT,Int.reduceLE,Msg.a,Par.a,Nd.a,t1,o1,t5,t3]
 have hp0:(⟨#[110,111,100,101,32]⟩:ByteArray) ++ decS n.slot ++ (⟨#[32]⟩:ByteArray) ++ decS n.level ++ (⟨#[32]⟩:ByteArray) ++ decS n.seen ++ (⟨#[32]⟩:ByteArray) ++ decS n.right ++ (⟨#[32]⟩:ByteArray) ++ (⟨#[42,32,58,32]⟩:ByteArray) = preR n∨n.top = false:=by
  unfold preR; cases n.top <;> simp
 have hp1:(⟨#[110,111,100,101,32]⟩:ByteArray) ++ decS n.slot ++ (⟨#[32]⟩:ByteArray) ++ decS n.level ++ (⟨#[32]⟩:ByteArray) ++ decS n.seen ++ (⟨#[32]⟩:ByteArray) ++ decS n.right ++ (⟨#[32]⟩:ByteArray) ++ (z04 n.high ++ (⟨#[32,58,32]⟩:ByteArray)) = preR n∨n.top = true:=by
  unfold preR; cases n.top <;> simp
 have hm0:preR n ++ n.below ++ ((⟨#[32,58,32,109,115,103,115,32]⟩:ByteArray) ++ decS n.msgs.length) = znm n 0:=by unfold znm; exact (z4j _).symm
 by_cases h0:n.level = 0
 ·have b0:(n.level == 0) = true:=by simp [h0]
  have cp:=y92 n.rows h.nrow h.rws
  have hp:=zoa h.nrow h.rws
  have hb:preR n ++ ((⟨#[114,111,119,115,32]⟩:ByteArray) ++ z64 n.rows) = preR n ++ n.below:=by
   unfold Nd.below
   rw [if_pos h0,joinB2,show (⟨#[114,111,119,115,32]⟩:ByteArray) = (⟨#[114,111,119,115]⟩:ByteArray) ++ (⟨#[32]⟩:ByteArray) by decide +kernel]
  cases ht:n.top with
  | true =>
   have hq:=hp0.resolve_right (by rw [ht]; simp)
   (repeat (first | simp (maxSteps:=9^7) only [go_sem,↓reduceIte,reduceCtorEq,Nat.reduceEqDiff,Nat.reduceBEq,Nat.reduceAdd,Nat.reduceSub,Nat.reduceMul,Nat.reduceLT,Nat.reduceLeDiff,Nat.reduceBNe,Int.reduceBEq,Int.reduceBNe,Int.reduceLT,Int.reduceLE,Msg.a,Par.a,Nd.a,ht,b0,hq,hb,hm0,zz1,z3,z4,z5,z8,List.length_map,ByteArray.size_append] | refine z01 (k1) ?_ | refine z00 (k1) ?_ | refine z01 (k2) ?_ | refine z00 (k2) ?_ | refine z01 (k3) ?_ | refine z00 (k3) ?_ | refine z01 (k4) ?_ | refine z00 (k4) ?_ | refine z01 (ch) ?_ | refine z00 (ch) ?_ | refine z01 (cp) ?_ | refine z00 (cp) ?_ | refine z01 (k0) ?_ | refine z00 (k0) ?_ | refine And.intro (by omega) ?_ | refine And.intro (fun d hd=>by (repeat (rcases hd with rfl | hd; · exact ⟨rfl,rfl⟩)); cases hd) ?_))
   all_goals (try omega)
   all_goals (repeat (refine And.intro (by omega) ?_))
   refine loop2 ?_ ?_ ?_ ?_ ?_
   iterate 4 focus ((simp (maxSteps:=9^7) only [go_sem,↓reduceIte,reduceCtorEq,Nat.reduceEqDiff,Nat.reduceBEq,Nat.reduceAdd,Nat.reduceSub,Nat.reduceMul,Nat.reduceLT,Nat.reduceLeDiff,Nat.reduceBNe,Int.reduceBEq,Int.reduceBNe,Int.reduceLT,Int.reduceLE,Msg.a,Par.a,Nd.a,ht,hm0]) <;> rfl)
   intro σ' u3
   simp (maxSteps:=9^7) only [go_sem,↓reduceIte,reduceCtorEq,Nat.reduceEqDiff,Nat.reduceBEq,Nat.reduceAdd,Nat.reduceSub,Nat.reduceMul,Nat.reduceLT,Nat.reduceLeDiff,Nat.reduceBNe,Int.reduceBEq,Int.reduceBNe,Int.reduceLT,Int.reduceLE,Msg.a,Par.a,Nd.a,u3]
  | false =>
   have hq:=hp1.resolve_right (by rw [ht]; simp)
   (repeat (first | simp (maxSteps:=9^7) only [go_sem,↓reduceIte,reduceCtorEq,Nat.reduceEqDiff,Nat.reduceBEq,Nat.reduceAdd,Nat.reduceSub,Nat.reduceMul,Nat.reduceLT,Nat.reduceLeDiff,Nat.reduceBNe,Int.reduceBEq,Int.reduceBNe,Int.reduceLT,Int.reduceLE,Msg.a,Par.a,Nd.a,ht,b0,hq,hb,hm0,zz1,z3,z4,z5,z8,List.length_map,ByteArray.size_append] | refine z01 (k1) ?_ | refine z00 (k1) ?_ | refine z01 (k2) ?_ | refine z00 (k2) ?_ | refine z01 (k3) ?_ | refine z00 (k3) ?_ | refine z01 (k4) ?_ | refine z00 (k4) ?_ | refine z01 (ch) ?_ | refine z00 (ch) ?_ | refine z01 (cp) ?_ | refine z00 (cp) ?_ | refine z01 (k0) ?_ | refine z00 (k0) ?_ | refine And.intro (by omega) ?_ | refine And.intro (fun d hd=>by (repeat (rcases hd with rfl | hd; · exact ⟨rfl,rfl⟩)); cases hd) ?_))
   all_goals (try omega)
   all_goals (repeat (refine And.intro (by omega) ?_))
   refine loop2 ?_ ?_ ?_ ?_ ?_
   iterate 4 focus ((simp (maxSteps:=9^7) only [go_sem,↓reduceIte,reduceCtorEq,Nat.reduceEqDiff,Nat.reduceBEq,Nat.reduceAdd,Nat.reduceSub,Nat.reduceMul,Nat.reduceLT,Nat.reduceLeDiff,Nat.reduceBNe,Int.reduceBEq,Int.reduceBNe,Int.reduceLT,Int.reduceLE,Msg.a,Par.a,Nd.a,ht,hm0]) <;> rfl)
   intro σ' u3
   simp (maxSteps:=9^7) only [go_sem,↓reduceIte,reduceCtorEq,Nat.reduceEqDiff,Nat.reduceBEq,Nat.reduceAdd,Nat.reduceSub,Nat.reduceMul,Nat.reduceLT,Nat.reduceLeDiff,Nat.reduceBNe,Int.reduceBEq,Int.reduceBNe,Int.reduceLT,Int.reduceLE,Msg.a,Par.a,Nd.a,u3]
 ·have b0:(n.level == 0) = false:=by simp [h0]
  have hb2:z3i n n.kids.length = preR n ++ n.below:=by
   unfold z3i Nd.below
   rw [if_neg h0,List.take_length,z14]
  have hk0:preR n ++ (⟨#[107,105,100,115]⟩:ByteArray) = z3i n 0:=by unfold z3i; exact (z4j _).symm
  cases ht:n.top with
  | true =>
   have hq:=hp0.resolve_right (by rw [ht]; simp)
   (repeat (first | simp (maxSteps:=9^7) only [go_sem,↓reduceIte,reduceCtorEq,Nat.reduceEqDiff,Nat.reduceBEq,Nat.reduceAdd,Nat.reduceSub,Nat.reduceMul,Nat.reduceLT,Nat.reduceLeDiff,Nat.reduceBNe,Int.reduceBEq,Int.reduceBNe,Int.reduceLT,Int.reduceLE,Msg.a,Par.a,Nd.a,ht,b0,hq,zz1,z3,z4,z5,z8,List.length_map,ByteArray.size_append] | refine z01 (k1) ?_ | refine z00 (k1) ?_ | refine z01 (k2) ?_ | refine z00 (k2) ?_ | refine z01 (k3) ?_ | refine z00 (k3) ?_ | refine z01 (k4) ?_ | refine z00 (k4) ?_ | refine z01 (ch) ?_ | refine z00 (ch) ?_ | refine And.intro (by omega) ?_ | refine And.intro (fun d hd=>by (repeat (rcases hd with rfl | hd; · exact ⟨rfl,rfl⟩)); cases hd) ?_))
   all_goals (try omega)
   all_goals (repeat (refine And.intro (by omega) ?_))
   refine z0d (rkInv n) (k:=n.kids.length) ⟨0,by omega,rfl,?_,?_,?_,?_⟩ ?_
   iterate 2 focus ((simp (maxSteps:=9^7) only [go_sem,↓reduceIte,reduceCtorEq,Nat.reduceEqDiff,Nat.reduceBEq,Nat.reduceAdd,Nat.reduceSub,Nat.reduceMul,Nat.reduceLT,Nat.reduceLeDiff,Nat.reduceBNe,Int.reduceBEq,Int.reduceBNe,Int.reduceLT,Int.reduceLE,Msg.a,Par.a,Nd.a,ht]) <;> rfl)
   ·simp (maxSteps:=9^7) only [go_sem,↓reduceIte,reduceCtorEq,Nat.reduceEqDiff,Nat.reduceBEq,Nat.reduceAdd,Nat.reduceSub,Nat.reduceMul,Nat.reduceLT,Nat.reduceLeDiff,Nat.reduceBNe,Int.reduceBEq,Int.reduceBNe,Int.reduceLT,Int.reduceLE,Msg.a,Par.a,Nd.a]
    rfl
   ·simp (maxSteps:=9^7) only [go_sem,↓reduceIte,reduceCtorEq,Nat.reduceEqDiff,Nat.reduceBEq,Nat.reduceAdd,Nat.reduceSub,Nat.reduceMul,Nat.reduceLT,Nat.reduceLeDiff,Nat.reduceBNe,Int.reduceBEq,Int.reduceBNe,Int.reduceLT,Int.reduceLE,Msg.a,Par.a,Nd.a,hk0]
   rintro k σ ⟨j,hj,rfl,t1,o1,t4,t3⟩
   simp only [z56]
   have ks:=zx0 h j
   by_cases hlt:j < n.kids.length
   ·have hlt':(j:Int) < (n.kids.length:Int):=by omega
    obtain ⟨x,hx⟩:=z0i hlt
    have hgj:=z0o (f:=AV.int .i64) hx
    have hw:=z1j (j:=j) (by omega)
    have ki:=h.ok.kids.2 x (List.mem_of_getElem? hx)
    have c1:=z59 x ki
    have dx:=z0g x ki.1 ki.2
    have hn:=zx1 hx
    by_cases g0:0 < j
    ·have g0':(0:Int) < (j:Int):=by omega
     have tw:IntKind.i64.wrap ((j:Int) - 1) = ((j - 1:Nat):Int):=by rw [IntWalk.i64_in _ (by omega)]; omega
     by_cases g1:j≤n.pivots.length
     ·have g2:((j - 1:Nat):Int) < (n.pivots.length:Int):=by omega
      have g3:(j - 1) < n.pivots.length:=by omega
      obtain ⟨y,hy⟩:∃ y,n.pivots[j - 1]? = some y:=z0i (by omega)
      have hgy:=z0o (f:=AV.str) hy
      have hyd:n.pivots.getD (j - 1) ⟨#[]⟩ = y:=by rw [List.getD_eq_getElem?_getD,hy]; rfl
      have ys:=h.pivs y (List.mem_of_getElem? hy)
      have q1:=z0f y
      have c2:=z2v y (by omega)
      rw [if_pos ⟨g0,g1⟩,hyd] at hn
      have hn':z3i n j ++ ((⟨#[32]⟩:ByteArray) ++ z04 y) ++ ((⟨#[32]⟩:ByteArray) ++ decS x) = z3i n (j + 1):=by
       rw [hn]; simp only [catF,List.cons_append,List.nil_append,z4j,z14]
      (repeat (first | simp (maxSteps:=9^7) only [go_sem,↓reduceIte,reduceCtorEq,Nat.reduceEqDiff,Nat.reduceBEq,Nat.reduceAdd,Nat.reduceSub,Nat.reduceMul,Nat.reduceLT,Nat.reduceLeDiff,Nat.reduceBNe,Int.reduceBEq,Int.reduceBNe,Int.reduceLT,Int.reduceLE,Msg.a,Par.a,Nd.a,t1,o1,t4,t3,hlt',hgj,g0',tw,g2,g3,hgy,List.length_map,Int.toNat_natCast,zz1,ByteArray.size_append] | refine z01 (c2) ?_ | refine z00 (c2) ?_ | refine z01 (c1) ?_ | refine z00 (c1) ?_ | refine And.intro (by omega) ?_ | refine And.intro (fun d hd=>by (repeat (rcases hd with rfl | hd; · exact ⟨rfl,rfl⟩)); cases hd) ?_))
      refine ⟨n.kids.length - (j + 1),by omega,j + 1,by omega,rfl,?_,?_,?_,?_⟩ <;>
       (simp (maxSteps:=9^7) only [go_sem,↓reduceIte,reduceCtorEq,Nat.reduceEqDiff,Nat.reduceBEq,Nat.reduceAdd,Nat.reduceSub,Nat.reduceMul,Nat.reduceLT,Nat.reduceLeDiff,Nat.reduceBNe,Int.reduceBEq,Int.reduceBNe,Int.reduceLT,Int.reduceLE,Msg.a,Par.a,Nd.a,t1,o1,t4,t3,hw,hn'])
     ·have g2:¬ ((j - 1:Nat):Int) < (n.pivots.length:Int):=by omega
      rw [if_neg (fun e=>g1 e.2)] at hn
      have hn':z3i n j ++ ((⟨#[32]⟩:ByteArray) ++ decS x) = z3i n (j + 1):=by
       rw [hn]; simp only [catF,List.nil_append,z4j]
      (repeat (first | simp (maxSteps:=9^7) only [go_sem,↓reduceIte,reduceCtorEq,Nat.reduceEqDiff,Nat.reduceBEq,Nat.reduceAdd,Nat.reduceSub,Nat.reduceMul,Nat.reduceLT,Nat.reduceLeDiff,Nat.reduceBNe,Int.reduceBEq,Int.reduceBNe,Int.reduceLT,Int.reduceLE,Msg.a,Par.a,Nd.a,t1,o1,t4,t3,hlt',hgj,g0',tw,g2,List.length_map,Int.toNat_natCast,zz1,ByteArray.size_append] | refine z01 (c1) ?_ | refine z00 (c1) ?_ | refine And.intro (by omega) ?_ | refine And.intro (fun d hd=>by (repeat (rcases hd with rfl | hd; · exact ⟨rfl,rfl⟩)); cases hd) ?_))
      refine ⟨n.kids.length - (j + 1),by omega,j + 1,by omega,rfl,?_,?_,?_,?_⟩ <;>
       (simp (maxSteps:=9^7) only [go_sem,↓reduceIte,reduceCtorEq,Nat.reduceEqDiff,Nat.reduceBEq,Nat.reduceAdd,Nat.reduceSub,Nat.reduceMul,Nat.reduceLT,Nat.reduceLeDiff,Nat.reduceBNe,Int.reduceBEq,Int.reduceBNe,Int.reduceLT,Int.reduceLE,Msg.a,Par.a,Nd.a,t1,o1,t4,t3,hw,hn'])
    ·have g0':¬ (0:Int) < (j:Int):=by omega
     rw [if_neg (fun e=>g0 e.1)] at hn
     have hn':z3i n j ++ ((⟨#[32]⟩:ByteArray) ++ decS x) = z3i n (j + 1):=by
      rw [hn]; simp only [catF,List.nil_append,z4j]
     (repeat (first | simp (maxSteps:=9^7) only [go_sem,↓reduceIte,reduceCtorEq,Nat.reduceEqDiff,Nat.reduceBEq,Nat.reduceAdd,Nat.reduceSub,Nat.reduceMul,Nat.reduceLT,Nat.reduceLeDiff,Nat.reduceBNe,Int.reduceBEq,Int.reduceBNe,Int.reduceLT,Int.reduceLE,Msg.a,Par.a,Nd.a,t1,o1,t4,t3,hlt',hgj,g0',List.length_map,Int.toNat_natCast,zz1,ByteArray.size_append] | refine z01 (c1) ?_ | refine z00 (c1) ?_ | refine And.intro (by omega) ?_ | refine And.intro (fun d hd=>by (repeat (rcases hd with rfl | hd; · exact ⟨rfl,rfl⟩)); cases hd) ?_))
     refine ⟨n.kids.length - (j + 1),by omega,j + 1,by omega,rfl,?_,?_,?_,?_⟩ <;>
      (simp (maxSteps:=9^7) only [go_sem,↓reduceIte,reduceCtorEq,Nat.reduceEqDiff,Nat.reduceBEq,Nat.reduceAdd,Nat.reduceSub,Nat.reduceMul,Nat.reduceLT,Nat.reduceLeDiff,Nat.reduceBNe,Int.reduceBEq,Int.reduceBNe,Int.reduceLT,Int.reduceLE,Msg.a,Par.a,Nd.a,t1,o1,t4,t3,hw,hn'])
   ·have hlt':¬ (j:Int) < (n.kids.length:Int):=by omega
    obtain rfl:j = n.kids.length:=by omega
    rw [hb2] at t3 ks
    (repeat (first | simp (maxSteps:=9^7) only [go_sem,↓reduceIte,reduceCtorEq,Nat.reduceEqDiff,Nat.reduceBEq,Nat.reduceAdd,Nat.reduceSub,Nat.reduceMul,Nat.reduceLT,Nat.reduceLeDiff,Nat.reduceBNe,Int.reduceBEq,Int.reduceBNe,Int.reduceLT,Int.reduceLE,Msg.a,Par.a,Nd.a,t1,o1,t4,t3,hlt',z8,ByteArray.size_append,List.length_map,Int.toNat_natCast] | refine z01 (k0) ?_ | refine z00 (k0) ?_ | refine And.intro (by omega) ?_ | refine And.intro (fun d hd=>by (repeat (rcases hd with rfl | hd; · exact ⟨rfl,rfl⟩)); cases hd) ?_))
    all_goals (try omega)
    all_goals (repeat (refine And.intro (by omega) ?_))
    refine loop2 ?_ ?_ ?_ ?_ ?_
    iterate 4 focus ((simp (maxSteps:=9^7) only [go_sem,↓reduceIte,reduceCtorEq,Nat.reduceEqDiff,Nat.reduceBEq,Nat.reduceAdd,Nat.reduceSub,Nat.reduceMul,Nat.reduceLT,Nat.reduceLeDiff,Nat.reduceBNe,Int.reduceBEq,Int.reduceBNe,Int.reduceLT,Int.reduceLE,Msg.a,Par.a,Nd.a,t1,o1,hm0]) <;> rfl)
    intro σ' u3
    simp (maxSteps:=9^7) only [go_sem,↓reduceIte,reduceCtorEq,Nat.reduceEqDiff,Nat.reduceBEq,Nat.reduceAdd,Nat.reduceSub,Nat.reduceMul,Nat.reduceLT,Nat.reduceLeDiff,Nat.reduceBNe,Int.reduceBEq,Int.reduceBNe,Int.reduceLT,Int.reduceLE,Msg.a,Par.a,Nd.a,u3]
  | false =>
   have hq:=hp1.resolve_right (by rw [ht]; simp)
   (repeat (first | simp (maxSteps:=9^7) only [go_sem,↓reduceIte,reduceCtorEq,Nat.reduceEqDiff,Nat.reduceBEq,Nat.reduceAdd,Nat.reduceSub,Nat.reduceMul,Nat.reduceLT,Nat.reduceLeDiff,Nat.reduceBNe,Int.reduceBEq,Int.reduceBNe,Int.reduceLT,Int.reduceLE,Msg.a,Par.a,Nd.a,ht,b0,hq,zz1,z3,z4,z5,z8,List.length_map,ByteArray.size_append] | refine z01 (k1) ?_ | refine z00 (k1) ?_ | refine z01 (k2) ?_ | refine z00 (k2) ?_ | refine z01 (k3) ?_ | refine z00 (k3) ?_ | refine z01 (k4) ?_ | refine z00 (k4) ?_ | refine z01 (ch) ?_ | refine z00 (ch) ?_ | refine And.intro (by omega) ?_ | refine And.intro (fun d hd=>by (repeat (rcases hd with rfl | hd; · exact ⟨rfl,rfl⟩)); cases hd) ?_))
   all_goals (try omega)
   all_goals (repeat (refine And.intro (by omega) ?_))
   refine z0d (rkInv n) (k:=n.kids.length) ⟨0,by omega,rfl,?_,?_,?_,?_⟩ ?_
   iterate 2 focus ((simp (maxSteps:=9^7) only [go_sem,↓reduceIte,reduceCtorEq,Nat.reduceEqDiff,Nat.reduceBEq,Nat.reduceAdd,Nat.reduceSub,Nat.reduceMul,Nat.reduceLT,Nat.reduceLeDiff,Nat.reduceBNe,Int.reduceBEq,Int.reduceBNe,Int.reduceLT,Int.reduceLE,Msg.a,Par.a,Nd.a,ht]) <;> rfl)
   ·simp (maxSteps:=9^7) only [go_sem,↓reduceIte,reduceCtorEq,Nat.reduceEqDiff,Nat.reduceBEq,Nat.reduceAdd,Nat.reduceSub,Nat.reduceMul,Nat.reduceLT,Nat.reduceLeDiff,Nat.reduceBNe,Int.reduceBEq,Int.reduceBNe,Int.reduceLT,Int.reduceLE,Msg.a,Par.a,Nd.a]
    rfl
   ·simp (maxSteps:=9^7) only [go_sem,↓reduceIte,reduceCtorEq,Nat.reduceEqDiff,Nat.reduceBEq,Nat.reduceAdd,Nat.reduceSub,Nat.reduceMul,Nat.reduceLT,Nat.reduceLeDiff,Nat.reduceBNe,Int.reduceBEq,Int.reduceBNe,Int.reduceLT,Int.reduceLE,Msg.a,Par.a,Nd.a,hk0]
   rintro k σ ⟨j,hj,rfl,t1,o1,t4,t3⟩
   simp only [z56]
   have ks:=zx0 h j
   by_cases hlt:j < n.kids.length
   ·have hlt':(j:Int) < (n.kids.length:Int):=by omega
    obtain ⟨x,hx⟩:=z0i hlt
    have hgj:=z0o (f:=AV.int .i64) hx
    have hw:=z1j (j:=j) (by omega)
    have ki:=h.ok.kids.2 x (List.mem_of_getElem? hx)
    have c1:=z59 x ki
    have dx:=z0g x ki.1 ki.2
    have hn:=zx1 hx
    by_cases g0:0 < j
    ·have g0':(0:Int) < (j:Int):=by omega
     have tw:IntKind.i64.wrap ((j:Int) - 1) = ((j - 1:Nat):Int):=by rw [IntWalk.i64_in _ (by omega)]; omega
     by_cases g1:j≤n.pivots.length
     ·have g2:((j - 1:Nat):Int) < (n.pivots.length:Int):=by omega
      have g3:(j - 1) < n.pivots.length:=by omega
      obtain ⟨y,hy⟩:∃ y,n.pivots[j - 1]? = some y:=z0i (by omega)
      have hgy:=z0o (f:=AV.str) hy
      have hyd:n.pivots.getD (j - 1) ⟨#[]⟩ = y:=by rw [List.getD_eq_getElem?_getD,hy]; rfl
      have ys:=h.pivs y (List.mem_of_getElem? hy)
      have q1:=z0f y
      have c2:=z2v y (by omega)
      rw [if_pos ⟨g0,g1⟩,hyd] at hn
      have hn':z3i n j ++ ((⟨#[32]⟩:ByteArray) ++ z04 y) ++ ((⟨#[32]⟩:ByteArray) ++ decS x) = z3i n (j + 1):=by
       rw [hn]; simp only [catF,List.cons_append,List.nil_append,z4j,z14]
      (repeat (first | simp (maxSteps:=9^7) only [go_sem,↓reduceIte,reduceCtorEq,Nat.reduceEqDiff,Nat.reduceBEq,Nat.reduceAdd,Nat.reduceSub,Nat.reduceMul,Nat.reduceLT,Nat.reduceLeDiff,Nat.reduceBNe,Int.reduceBEq,Int.reduceBNe,Int.reduceLT,Int.reduceLE,Msg.a,Par.a,Nd.a,t1,o1,t4,t3,hlt',hgj,g0',tw,g2,g3,hgy,List.length_map,Int.toNat_natCast,zz1,ByteArray.size_append] | refine z01 (c2) ?_ | refine z00 (c2) ?_ | refine z01 (c1) ?_ | refine z00 (c1) ?_ | refine And.intro (by omega) ?_ | refine And.intro (fun d hd=>by (repeat (rcases hd with rfl | hd; · exact ⟨rfl,rfl⟩)); cases hd) ?_))
      refine ⟨n.kids.length - (j + 1),by omega,j + 1,by omega,rfl,?_,?_,?_,?_⟩ <;>
       (simp (maxSteps:=9^7) only [go_sem,↓reduceIte,reduceCtorEq,Nat.reduceEqDiff,Nat.reduceBEq,Nat.reduceAdd,Nat.reduceSub,Nat.reduceMul,Nat.reduceLT,Nat.reduceLeDiff,Nat.reduceBNe,Int.reduceBEq,Int.reduceBNe,Int.reduceLT,Int.reduceLE,Msg.a,Par.a,Nd.a,t1,o1,t4,t3,hw,hn'])
     ·have g2:¬ ((j - 1:Nat):Int) < (n.pivots.length:Int):=by omega
      rw [if_neg (fun e=>g1 e.2)] at hn
      have hn':z3i n j ++ ((⟨#[32]⟩:ByteArray) ++ decS x) = z3i n (j + 1):=by
       rw [hn]; simp only [catF,List.nil_append,z4j]
      (repeat (first | simp (maxSteps:=9^7) only [go_sem,↓reduceIte,reduceCtorEq,Nat.reduceEqDiff,Nat.reduceBEq,Nat.reduceAdd,Nat.reduceSub,Nat.reduceMul,Nat.reduceLT,Nat.reduceLeDiff,Nat.reduceBNe,Int.reduceBEq,Int.reduceBNe,Int.reduceLT,Int.reduceLE,Msg.a,Par.a,Nd.a,t1,o1,t4,t3,hlt',hgj,g0',tw,g2,List.length_map,Int.toNat_natCast,zz1,ByteArray.size_append] | refine z01 (c1) ?_ | refine z00 (c1) ?_ | refine And.intro (by omega) ?_ | refine And.intro (fun d hd=>by (repeat (rcases hd with rfl | hd; · exact ⟨rfl,rfl⟩)); cases hd) ?_))
      refine ⟨n.kids.length - (j + 1),by omega,j + 1,by omega,rfl,?_,?_,?_,?_⟩ <;>
       (simp (maxSteps:=9^7) only [go_sem,↓reduceIte,reduceCtorEq,Nat.reduceEqDiff,Nat.reduceBEq,Nat.reduceAdd,Nat.reduceSub,Nat.reduceMul,Nat.reduceLT,Nat.reduceLeDiff,Nat.reduceBNe,Int.reduceBEq,Int.reduceBNe,Int.reduceLT,Int.reduceLE,Msg.a,Par.a,Nd.a,t1,o1,t4,t3,hw,hn'])
    ·have g0':¬ (0:Int) < (j:Int):=by omega
     rw [if_neg (fun e=>g0 e.1)] at hn
     have hn':z3i n j ++ ((⟨#[32]⟩:ByteArray) ++ decS x) = z3i n (j + 1):=by
      rw [hn]; simp only [catF,List.nil_append,z4j]
     (repeat (first | simp (maxSteps:=9^7) only [go_sem,↓reduceIte,reduceCtorEq,Nat.reduceEqDiff,Nat.reduceBEq,Nat.reduceAdd,Nat.reduceSub,Nat.reduceMul,Nat.reduceLT,Nat.reduceLeDiff,Nat.reduceBNe,Int.reduceBEq,Int.reduceBNe,Int.reduceLT,Int.reduceLE,Msg.a,Par.a,Nd.a,t1,o1,t4,t3,hlt',hgj,g0',List.length_map,Int.toNat_natCast,zz1,ByteArray.size_append] | refine z01 (c1) ?_ | refine z00 (c1) ?_ | refine And.intro (by omega) ?_ | refine And.intro (fun d hd=>by (repeat (rcases hd with rfl | hd; · exact ⟨rfl,rfl⟩)); cases hd) ?_))
     refine ⟨n.kids.length - (j + 1),by omega,j + 1,by omega,rfl,?_,?_,?_,?_⟩ <;>
      (simp (maxSteps:=9^7) only [go_sem,↓reduceIte,reduceCtorEq,Nat.reduceEqDiff,Nat.reduceBEq,Nat.reduceAdd,Nat.reduceSub,Nat.reduceMul,Nat.reduceLT,Nat.reduceLeDiff,Nat.reduceBNe,Int.reduceBEq,Int.reduceBNe,Int.reduceLT,Int.reduceLE,Msg.a,Par.a,Nd.a,t1,o1,t4,t3,hw,hn'])
   ·have hlt':¬ (j:Int) < (n.kids.length:Int):=by omega
    obtain rfl:j = n.kids.length:=by omega
    rw [hb2] at t3 ks
    (repeat (first | simp (maxSteps:=9^7) only [go_sem,↓reduceIte,reduceCtorEq,Nat.reduceEqDiff,Nat.reduceBEq,Nat.reduceAdd,Nat.reduceSub,Nat.reduceMul,Nat.reduceLT,Nat.reduceLeDiff,Nat.reduceBNe,Int.reduceBEq,Int.reduceBNe,Int.reduceLT,Int.reduceLE,Msg.a,Par.a,Nd.a,t1,o1,t4,t3,hlt',z8,ByteArray.size_append,List.length_map,Int.toNat_natCast] | refine z01 (k0) ?_ | refine z00 (k0) ?_ | refine And.intro (by omega) ?_ | refine And.intro (fun d hd=>by (repeat (rcases hd with rfl | hd; · exact ⟨rfl,rfl⟩)); cases hd) ?_))
    all_goals (try omega)
    all_goals (repeat (refine And.intro (by omega) ?_))
    refine loop2 ?_ ?_ ?_ ?_ ?_
    iterate 4 focus ((simp (maxSteps:=9^7) only [go_sem,↓reduceIte,reduceCtorEq,Nat.reduceEqDiff,Nat.reduceBEq,Nat.reduceAdd,Nat.reduceSub,Nat.reduceMul,Nat.reduceLT,Nat.reduceLeDiff,Nat.reduceBNe,Int.reduceBEq,Int.reduceBNe,Int.reduceLT,Int.reduceLE,Msg.a,Par.a,Nd.a,t1,o1,hm0]) <;> rfl)
    intro σ' u3
    simp (maxSteps:=9^7) only [go_sem,↓reduceIte,reduceCtorEq,Nat.reduceEqDiff,Nat.reduceBEq,Nat.reduceAdd,Nat.reduceSub,Nat.reduceMul,Nat.reduceLT,Nat.reduceLeDiff,Nat.reduceBNe,Int.reduceBEq,Int.reduceBNe,Int.reduceLT,Int.reduceLE,Msg.a,Par.a,Nd.a,u3]
end
section
/-
 Layer 7 on the plain machine: operations: whether they may be,their spans.
-/
open Go.RowKit
set_option linter.unusedVariables false
set_option linter.unusedSimpArgs false
set_option maxRecDepth 100000
attribute [local go_sem ↓] z11 z0l
structure Opr where
 kind:Int
 key:ByteArray
 hi:ByteArray
 op:Bool
 val:ByteArray
 lim:Int
def Opr.a (o:Opr):AV:=.agg [.int .i64 o.kind,.str o.key,.str o.hi,.bool o.op,.str o.val,.int .i64 o.lim]
def Opr.zero:Opr:=⟨0,⟨#[]⟩,⟨#[]⟩,false,⟨#[]⟩,0⟩
structure OSpn where
 lo:ByteArray
 hi:ByteArray
 op:Bool
def OSpn.a (s:OSpn):AV:=.agg [.str s.lo,.str s.hi,.bool s.op]
def nul:ByteArray:=⟨#[]⟩
def nextB (k:ByteArray):ByteArray:=k ++ ⟨#[0]⟩
def Opr.ranged (o:Opr):Bool:=o.kind == 4 || o.kind == 6
def Opr.valued (o:Opr):Bool:=o.kind == 1 || o.kind == 2
def Opr.span (o:Opr):OSpn:=if o.ranged then ⟨o.key,o.hi,o.op⟩ else ⟨o.key,nextB o.key,false⟩
def leB (x y:ByteArray):Bool:=Op.bytesLess x.toList y.toList
def OSpn.empty (s:OSpn):Bool:=!s.op && !leB s.lo s.hi
def nilB (s:ByteArray):Bool:=s.toList == nul.toList
/-- no byte,or so many -/
def Opr.right (o:Opr):Bool :=
 decide (1≤o.kind) && decide (o.kind≤6) && decide ((o.key.size:Int)≤16) && decide ((o.hi.size:Int)≤16) && decide ((o.val.size:Int)≤16) &&
 (o.valued || nilB o.val) && (!o.op || nilB o.hi) && (if o.ranged then !(OSpn.empty ⟨o.key,o.hi,o.op⟩) else nilB o.hi && !o.op) &&
 (if o.kind == 6 then decide (1≤o.lim) && decide (o.lim≤64) else o.lim == 0)
/-! ### percolate/op.valued -/
def zqm:Reg:=⟨[],[⟨.box 6 39 (.t 0),some 1,none,[],[]⟩,⟨.mv (.c (.bool false)),some 2,none,[],[]⟩],[1],[],false⟩
def zah:List ROp:=[⟨.faddr 0 (.t 1),some 3,none,[],[]⟩,⟨.load 1 false (.t 3),some 4,none,[],[]⟩,⟨.bin .eql (.t 4) (.c (.int .i64 1)),some 5,none,[],[]⟩,⟨.mv (.t 5),some 6,none,[],[]⟩,⟨.faddr 0 (.t 1),some 7,(some (6,false)),[],[]⟩,⟨.load 1 false (.t 7),some 8,(some (6,false)),[],[]⟩,⟨.bin .eql (.t 8) (.c (.int .i64 2)),some 9,(some (6,false)),[],[]⟩,⟨.pick (.t 6) (.c (.bool true)) (.t 9),some 10,none,[],[]⟩,⟨.mv (.t 10),some 2,none,[],[]⟩]
def zql:Reg:=⟨[],zah,[],[],false⟩
def y6j:IR:=(.seq (.reg zqm)
 (.seq (.reg zql)
 .ret))
def zpw:List RDesc:=[(.tmp 2)]
theorem e_valued_0:EqR zqm [⟨.box 6 39 (.t 0),some 1,none,[],[]⟩,⟨.mv (.c (.bool false)),some 2,none,[],[]⟩] [1]:=fun _ _ _=>rfl
theorem e_valued_1:EqR zql zah []:=fun _ _ _=>rfl
theorem fn_valued {args:List AV} {r:AV} (ha:args.length.ble Tryz.f66.ntmps = true) (h:run (AFn Tryz.prog) y6j (endQ zpw r) (z0b args)):AFn Tryz.prog 66 args r :=
 AFn.of_code (pv:=false) (hint:=fun _=>[]) (c:=Tryz.f66.body.getD .skip) (by kernel_rfl) (by kernel_rfl) Tryz.func66 (by kernel_rfl) (by kernel_rfl) (by kernel_rfl) (of_decide_eq_true (by kernel_rfl)) (Nat.le_of_ble_eq_true ha) (Nat.le_of_ble_eq_true (by kernel_rfl)) (z0c h)
/-! ### percolate/op.ranged -/
def zsw:Reg:=⟨[],[⟨.box 6 39 (.t 0),some 1,none,[],[]⟩,⟨.mv (.c (.bool false)),some 2,none,[],[]⟩],[1],[],false⟩
def zbz:List ROp:=[⟨.faddr 0 (.t 1),some 3,none,[],[]⟩,⟨.load 1 false (.t 3),some 4,none,[],[]⟩,⟨.bin .eql (.t 4) (.c (.int .i64 4)),some 5,none,[],[]⟩,⟨.mv (.t 5),some 6,none,[],[]⟩,⟨.faddr 0 (.t 1),some 7,(some (6,false)),[],[]⟩,⟨.load 1 false (.t 7),some 8,(some (6,false)),[],[]⟩,⟨.bin .eql (.t 8) (.c (.int .i64 6)),some 9,(some (6,false)),[],[]⟩,⟨.pick (.t 6) (.c (.bool true)) (.t 9),some 10,none,[],[]⟩,⟨.mv (.t 10),some 2,none,[],[]⟩]
def zsv:Reg:=⟨[],zbz,[],[],false⟩
def y6u:IR:=(.seq (.reg zsw)
 (.seq (.reg zsv)
 .ret))
def zq7:List RDesc:=[(.tmp 2)]
theorem e_ranged_0:EqR zsw [⟨.box 6 39 (.t 0),some 1,none,[],[]⟩,⟨.mv (.c (.bool false)),some 2,none,[],[]⟩] [1]:=fun _ _ _=>rfl
theorem e_ranged_1:EqR zsv zbz []:=fun _ _ _=>rfl
theorem fn_ranged {args:List AV} {r:AV} (ha:args.length.ble Tryz.f67.ntmps = true) (h:run (AFn Tryz.prog) y6u (endQ zq7 r) (z0b args)):AFn Tryz.prog 67 args r :=
 AFn.of_code (pv:=false) (hint:=fun _=>[]) (c:=Tryz.f67.body.getD .skip) (by kernel_rfl) (by kernel_rfl) Tryz.func67 (by kernel_rfl) (by kernel_rfl) (by kernel_rfl) (of_decide_eq_true (by kernel_rfl)) (Nat.le_of_ble_eq_true ha) (Nat.le_of_ble_eq_true (by kernel_rfl)) (z0c h)
/-! ### percolate/key.Right -/
def yei:Reg:=⟨[],[⟨.mv (.c (.bool false)),some 2,none,[],[]⟩],[],[],false⟩
def zyl:List ROp:=[⟨.mv (.t 0),some 3,none,[],[]⟩,⟨.len true (.t 3),some 4,none,[],[]⟩,⟨.bin .leq (.t 4) (.c (.int .i64 16)),some 5,none,[],[]⟩,⟨.mv (.t 5),some 2,none,[],[]⟩]
def yeh:Reg:=⟨[],zyl,[],[],false⟩
def ir_keyR:IR:=(.seq (.reg yei)
 (.seq (.reg yeh)
 .ret))
def ycy:List RDesc:=[(.tmp 2)]
theorem e_keyR_0:EqR yei [⟨.mv (.c (.bool false)),some 2,none,[],[]⟩] []:=fun _ _ _=>rfl
theorem e_keyR_1:EqR yeh zyl []:=fun _ _ _=>rfl
theorem fn_keyR {args:List AV} {r:AV} (ha:args.length.ble Tryz.f70.ntmps = true) (h:run (AFn Tryz.prog) ir_keyR (endQ ycy r) (z0b args)):AFn Tryz.prog 70 args r :=
 AFn.of_code (pv:=false) (hint:=fun _=>[]) (c:=Tryz.f70.body.getD .skip) (by kernel_rfl) (by kernel_rfl) Tryz.func70 (by kernel_rfl) (by kernel_rfl) (by kernel_rfl) (of_decide_eq_true (by kernel_rfl)) (Nat.le_of_ble_eq_true ha) (Nat.le_of_ble_eq_true (by kernel_rfl)) (z0c h)
/-! ### percolate/value.Right -/
def yd5:Reg:=⟨[],[⟨.mv (.c (.bool false)),some 2,none,[],[]⟩],[],[],false⟩
def zxr:List ROp:=[⟨.mv (.t 0),some 3,none,[],[]⟩,⟨.len true (.t 3),some 4,none,[],[]⟩,⟨.bin .leq (.t 4) (.c (.int .i64 16)),some 5,none,[],[]⟩,⟨.mv (.t 5),some 2,none,[],[]⟩]
def yd4:Reg:=⟨[],zxr,[],[],false⟩
def ir_valR:IR:=(.seq (.reg yd5)
 (.seq (.reg yd4)
 .ret))
def ycr:List RDesc:=[(.tmp 2)]
theorem e_valR_0:EqR yd5 [⟨.mv (.c (.bool false)),some 2,none,[],[]⟩] []:=fun _ _ _=>rfl
theorem e_valR_1:EqR yd4 zxr []:=fun _ _ _=>rfl
theorem fn_valR {args:List AV} {r:AV} (ha:args.length.ble Tryz.f38.ntmps = true) (h:run (AFn Tryz.prog) ir_valR (endQ ycr r) (z0b args)):AFn Tryz.prog 38 args r :=
 AFn.of_code (pv:=false) (hint:=fun _=>[]) (c:=Tryz.f38.body.getD .skip) (by kernel_rfl) (by kernel_rfl) Tryz.func38 (by kernel_rfl) (by kernel_rfl) (by kernel_rfl) (of_decide_eq_true (by kernel_rfl)) (Nat.le_of_ble_eq_true ha) (Nat.le_of_ble_eq_true (by kernel_rfl)) (z0c h)
/-! ### percolate/span.Empty -/
def zsn:Reg:=⟨[],[⟨.box 3 67 (.t 0),some 1,none,[],[]⟩,⟨.mv (.c (.bool false)),some 2,none,[],[]⟩],[1],[],false⟩
def zbv:List ROp:=[⟨.faddr 2 (.t 1),some 3,none,[],[]⟩,⟨.load 1 false (.t 3),some 4,none,[],[]⟩,⟨.un .not (.t 4),some 5,none,[],[]⟩,⟨.mv (.t 5),some 6,none,[],[]⟩,⟨.faddr 0 (.t 1),some 7,(some (6,true)),[],[]⟩,⟨.load 1 false (.t 7),some 8,(some (6,true)),[],[]⟩,⟨.faddr 1 (.t 1),some 9,(some (6,true)),[],[]⟩,⟨.load 1 false (.t 9),some 10,(some (6,true)),[],[]⟩,⟨.bin .geq (.t 8) (.t 10),some 11,(some (6,true)),[],[]⟩,⟨.pick (.t 6) (.t 11) (.c (.bool false)),some 12,none,[],[]⟩,⟨.mv (.t 12),some 2,none,[],[]⟩]
def zsm:Reg:=⟨[],zbv,[],[],false⟩
def y6s:IR:=(.seq (.reg zsn)
 (.seq (.reg zsm)
 .ret))
def zq5:List RDesc:=[(.tmp 2)]
theorem e_sEmpty_0:EqR zsn [⟨.box 3 67 (.t 0),some 1,none,[],[]⟩,⟨.mv (.c (.bool false)),some 2,none,[],[]⟩] [1]:=fun _ _ _=>rfl
theorem e_sEmpty_1:EqR zsm zbv []:=fun _ _ _=>rfl
theorem fn_sEmpty {args:List AV} {r:AV} (ha:args.length.ble Tryz.f88.ntmps = true) (h:run (AFn Tryz.prog) y6s (endQ zq5 r) (z0b args)):AFn Tryz.prog 88 args r :=
 AFn.of_code (pv:=false) (hint:=fun _=>[]) (c:=Tryz.f88.body.getD .skip) (by kernel_rfl) (by kernel_rfl) Tryz.func88 (by kernel_rfl) (by kernel_rfl) (by kernel_rfl) (of_decide_eq_true (by kernel_rfl)) (Nat.le_of_ble_eq_true ha) (Nat.le_of_ble_eq_true (by kernel_rfl)) (z0c h)
/-! ### percolate/key.Next -/
def y52:Reg:=⟨[],[⟨.mv (.c (.str ⟨#[]⟩)),some 2,none,[],[]⟩],[],[],false⟩
def zj3:List ROp:=[⟨.mv (.t 0),some 3,none,[],[]⟩,⟨.bin .add (.t 3) (.c (.str ⟨#[0]⟩)),some 4,none,[],[]⟩,⟨.mv (.t 4),some 2,none,[],[]⟩]
def y51:Reg:=⟨[],zj3,[],[],false⟩
def yfz:IR:=(.seq (.reg y52)
 (.seq (.reg y51)
 .ret))
def y0q:List RDesc:=[(.tmp 2)]
theorem e_kNext_0:EqR y52 [⟨.mv (.c (.str ⟨#[]⟩)),some 2,none,[],[]⟩] []:=fun _ _ _=>rfl
theorem e_kNext_1:EqR y51 zj3 []:=fun _ _ _=>rfl
theorem fn_kNext {args:List AV} {r:AV} (ha:args.length.ble Tryz.f113.ntmps = true) (h:run (AFn Tryz.prog) yfz (endQ y0q r) (z0b args)):AFn Tryz.prog 113 args r :=
 AFn.of_code (pv:=false) (hint:=fun _=>[]) (c:=Tryz.f113.body.getD .skip) (by kernel_rfl) (by kernel_rfl) Tryz.func113 (by kernel_rfl) (by kernel_rfl) (by kernel_rfl) (of_decide_eq_true (by kernel_rfl)) (Nat.le_of_ble_eq_true ha) (Nat.le_of_ble_eq_true (by kernel_rfl)) (z0c h)
/-! ### percolate/span.Point -/
def zsl:Reg:=⟨[],[⟨.alloc 3 67 (.agg [(.str ⟨#[]⟩),(.str ⟨#[]⟩),(.bool false)]),some 2,none,[],[]⟩],[2],[],false⟩
def zbu:List ROp:=[⟨.mv (.t 0),some 3,none,[5],[]⟩,⟨.mv (.t 0),some 4,none,[5],[]⟩,⟨.callv (.c (.clo 113 [] [])) [(.t 4)],some 5,none,[],[]⟩,⟨.bld [(.str ⟨#[]⟩),(.str ⟨#[]⟩),(.bool false)] [⟨0,1,(.t 3)⟩,⟨1,1,(.t 5)⟩],some 6,none,[],[]⟩,⟨.store 3 (.t 2) (.t 6),none,none,[],[]⟩]
def zsk:Reg:=⟨[],zbu,[5],[],false⟩
def y6r:IR:=(.seq (.reg zsl)
 (.seq (.reg zsk)
 .ret))
def zq4:List RDesc:=[(.cell 2 3 true)]
theorem e_sPoint_0:EqR zsl [⟨.alloc 3 67 (.agg [(.str ⟨#[]⟩),(.str ⟨#[]⟩),(.bool false)]),some 2,none,[],[]⟩] [2]:=fun _ _ _=>rfl
theorem e_sPoint_1:EqR zsk zbu [5]:=fun _ _ _=>rfl
theorem fn_sPoint {args:List AV} {r:AV} (ha:args.length.ble Tryz.f101.ntmps = true) (h:run (AFn Tryz.prog) y6r (endQ zq4 r) (z0b args)):AFn Tryz.prog 101 args r :=
 AFn.of_code (pv:=false) (hint:=fun _=>[]) (c:=Tryz.f101.body.getD .skip) (by kernel_rfl) (by kernel_rfl) Tryz.func101 (by kernel_rfl) (by kernel_rfl) (by kernel_rfl) (of_decide_eq_true (by kernel_rfl)) (Nat.le_of_ble_eq_true ha) (Nat.le_of_ble_eq_true (by kernel_rfl)) (z0c h)
/-! ### percolate/op.Span -/
def zim:List ROp:=[⟨.box 6 39 (.t 0),some 1,none,[2],[]⟩,⟨.alloc 3 67 (.agg [(.str ⟨#[]⟩),(.str ⟨#[]⟩),(.bool false)]),some 2,none,[],[]⟩]
def y48:Reg:=⟨[],zim,[1,2],[],false⟩
def y47:Reg:=⟨[],[⟨.load 6 true (.t 1),some 3,none,[4],[]⟩,⟨.callv (.c (.clo 67 [] [])) [(.t 3)],some 4,none,[],[]⟩],[4],[],false⟩
def zil:List ROp:=[⟨.faddr 1 (.t 1),some 5,none,[],[]⟩,⟨.load 1 false (.t 5),some 6,none,[],[]⟩,⟨.faddr 2 (.t 1),some 7,none,[],[]⟩,⟨.load 1 false (.t 7),some 8,none,[],[]⟩,⟨.faddr 3 (.t 1),some 9,none,[],[]⟩,⟨.load 1 false (.t 9),some 10,none,[],[]⟩,⟨.bld [(.str ⟨#[]⟩),(.str ⟨#[]⟩),(.bool false)] [⟨0,1,(.t 6)⟩,⟨1,1,(.t 8)⟩,⟨2,1,(.t 10)⟩],some 11,none,[],[]⟩,⟨.store 3 (.t 2) (.t 11),none,none,[],[]⟩]
def y46:Reg:=⟨[],zil,[],[],false⟩
def zik:List ROp:=[⟨.faddr 1 (.t 1),some 12,none,[14],[]⟩,⟨.load 1 false (.t 12),some 13,none,[14],[]⟩,⟨.callv (.c (.clo 101 [] [])) [(.t 13)],some 14,none,[],[]⟩,⟨.store 3 (.t 2) (.t 14),none,none,[],[]⟩]
def y45:Reg:=⟨[],zik,[14],[],false⟩
def yfv:IR:=(.seq (.reg y48)
 (.seq (.seq (.reg y47)
 (.cond (.t 4) (.seq (.reg y46)
 .ret)
 .skip))
 (.seq (.reg y45)
 .ret)))
def y0m:List RDesc:=[(.cell 2 3 true)]
theorem e_oSpan_0:EqR y48 zim [1,2]:=fun _ _ _=>rfl
theorem e_oSpan_1:EqR y47 [⟨.load 6 true (.t 1),some 3,none,[4],[]⟩,⟨.callv (.c (.clo 67 [] [])) [(.t 3)],some 4,none,[],[]⟩] [4]:=fun _ _ _=>rfl
theorem e_oSpan_2:EqR y46 zil []:=fun _ _ _=>rfl
theorem e_oSpan_3:EqR y45 zik [14]:=fun _ _ _=>rfl
theorem fn_oSpan {args:List AV} {r:AV} (ha:args.length.ble Tryz.f89.ntmps = true) (h:run (AFn Tryz.prog) yfv (endQ y0m r) (z0b args)):AFn Tryz.prog 89 args r :=
 AFn.of_code (pv:=false) (hint:=fun _=>[]) (c:=Tryz.f89.body.getD .skip) (by kernel_rfl) (by kernel_rfl) Tryz.func89 (by kernel_rfl) (by kernel_rfl) (by kernel_rfl) (of_decide_eq_true (by kernel_rfl)) (Nat.le_of_ble_eq_true ha) (Nat.le_of_ble_eq_true (by kernel_rfl)) (z0c h)
attribute [local go_sem ↓] y6j
attribute [local go_sem] zpw e_valued_0 e_valued_1 zah
attribute [local go_sem ↓] y6u
attribute [local go_sem] zq7 e_ranged_0 e_ranged_1 zbz
attribute [local go_sem ↓] ir_keyR
attribute [local go_sem] ycy e_keyR_0 e_keyR_1 zyl
attribute [local go_sem ↓] ir_valR
attribute [local go_sem] ycr e_valR_0 e_valR_1 zxr
attribute [local go_sem ↓] y6s
attribute [local go_sem] zq5 e_sEmpty_0 e_sEmpty_1 zbv
attribute [local go_sem ↓] yfz
attribute [local go_sem] y0q e_kNext_0 e_kNext_1 zj3
attribute [local go_sem ↓] y6r
attribute [local go_sem] zq4 e_sPoint_0 e_sPoint_1 zbu
attribute [local go_sem ↓] yfv
attribute [local go_sem] y0m e_oSpan_0 zim e_oSpan_1 e_oSpan_2 zil e_oSpan_3 zik
theorem z19 (o:Opr):AFn Tryz.prog 66 [o.a] (.bool o.valued):=by
 refine fn_valued rfl ?_
 unfold Opr.valued
 cases h1:(o.kind == 1) <;> cases h2:(o.kind == 2) <;> (simp (maxSteps:=9^7) only [go_sem,↓reduceIte,reduceCtorEq,Nat.reduceEqDiff,Nat.reduceBEq,Nat.reduceAdd,Nat.reduceSub,Nat.reduceMul,Nat.reduceLT,Nat.reduceLeDiff,Nat.reduceBNe,Int.reduceBEq,Int.reduceBNe,Int.reduceLT,Int.reduceLE,Opr.a,OSpn.a,nul,h1,h2])
theorem z0t (o:Opr):AFn Tryz.prog 67 [o.a] (.bool o.ranged):=by
 refine fn_ranged rfl ?_
 unfold Opr.ranged
 cases h1:(o.kind == 4) <;> cases h2:(o.kind == 6) <;> (simp (maxSteps:=9^7) only [go_sem,↓reduceIte,reduceCtorEq,Nat.reduceEqDiff,Nat.reduceBEq,Nat.reduceAdd,Nat.reduceSub,Nat.reduceMul,Nat.reduceLT,Nat.reduceLeDiff,Nat.reduceBNe,Int.reduceBEq,Int.reduceBNe,Int.reduceLT,Int.reduceLE,Opr.a,OSpn.a,nul,h1,h2])
theorem z02 (s:ByteArray):AFn Tryz.prog 70 [.str s] (.bool (decide ((s.size:Int)≤16))):=by
 refine fn_keyR rfl ?_
 simp (maxSteps:=9^7) only [go_sem,↓reduceIte,reduceCtorEq,Nat.reduceEqDiff,Nat.reduceBEq,Nat.reduceAdd,Nat.reduceSub,Nat.reduceMul,Nat.reduceLT,Nat.reduceLeDiff,Nat.reduceBNe,Int.reduceBEq,Int.reduceBNe,Int.reduceLT,Int.reduceLE,Opr.a,OSpn.a,nul]
theorem z05 (s:ByteArray):AFn Tryz.prog 38 [.str s] (.bool (decide ((s.size:Int)≤16))):=by
 refine fn_valR rfl ?_
 simp (maxSteps:=9^7) only [go_sem,↓reduceIte,reduceCtorEq,Nat.reduceEqDiff,Nat.reduceBEq,Nat.reduceAdd,Nat.reduceSub,Nat.reduceMul,Nat.reduceLT,Nat.reduceLeDiff,Nat.reduceBNe,Int.reduceBEq,Int.reduceBNe,Int.reduceLT,Int.reduceLE,Opr.a,OSpn.a,nul]
theorem sEmpty_ok (s:OSpn):AFn Tryz.prog 88 [s.a] (.bool s.empty):=by
 refine fn_sEmpty rfl ?_
 unfold OSpn.empty leB
 cases h1:s.op <;> (simp (maxSteps:=9^7) only [go_sem,↓reduceIte,reduceCtorEq,Nat.reduceEqDiff,Nat.reduceBEq,Nat.reduceAdd,Nat.reduceSub,Nat.reduceMul,Nat.reduceLT,Nat.reduceLeDiff,Nat.reduceBNe,Int.reduceBEq,Int.reduceBNe,Int.reduceLT,Int.reduceLE,Opr.a,OSpn.a,nul,h1])
theorem yfe (s:ByteArray) (h:s.size≤9000000000):AFn Tryz.prog 113 [.str s] (.str (nextB s)):=by
 refine fn_kNext rfl ?_
 unfold nextB
 simp (maxSteps:=9^7) only [go_sem,↓reduceIte,reduceCtorEq,Nat.reduceEqDiff,Nat.reduceBEq,Nat.reduceAdd,Nat.reduceSub,Nat.reduceMul,Nat.reduceLT,Nat.reduceLeDiff,Nat.reduceBNe,Int.reduceBEq,Int.reduceBNe,Int.reduceLT,Int.reduceLE,Opr.a,OSpn.a,nul]
 show s.size + 1≤_
 omega
theorem y03 (s:ByteArray) (h:s.size≤9000000000):AFn Tryz.prog 101 [.str s] (OSpn.a ⟨s,nextB s,false⟩):=by
 refine fn_sPoint rfl ?_
 simp (maxSteps:=9^7) only [go_sem,↓reduceIte,reduceCtorEq,Nat.reduceEqDiff,Nat.reduceBEq,Nat.reduceAdd,Nat.reduceSub,Nat.reduceMul,Nat.reduceLT,Nat.reduceLeDiff,Nat.reduceBNe,Int.reduceBEq,Int.reduceBNe,Int.reduceLT,Int.reduceLE,Opr.a,OSpn.a,nul]
 (first | refine z01 (yfe s h) ?_ | refine z00 (yfe s h) ?_)
 simp (maxSteps:=9^7) only [go_sem,↓reduceIte,reduceCtorEq,Nat.reduceEqDiff,Nat.reduceBEq,Nat.reduceAdd,Nat.reduceSub,Nat.reduceMul,Nat.reduceLT,Nat.reduceLeDiff,Nat.reduceBNe,Int.reduceBEq,Int.reduceBNe,Int.reduceLT,Int.reduceLE,Opr.a,OSpn.a,nul]
theorem oSpan_ok (o:Opr) (h:o.key.size≤9000000000):AFn Tryz.prog 89 [o.a] o.span.a:=by
 refine fn_oSpan rfl ?_
 unfold Opr.span
 simp (maxSteps:=9^7) only [go_sem,↓reduceIte,reduceCtorEq,Nat.reduceEqDiff,Nat.reduceBEq,Nat.reduceAdd,Nat.reduceSub,Nat.reduceMul,Nat.reduceLT,Nat.reduceLeDiff,Nat.reduceBNe,Int.reduceBEq,Int.reduceBNe,Int.reduceLT,Int.reduceLE,Opr.a,OSpn.a,nul]
 (first | refine z01 (z0t o) ?_ | refine z00 (z0t o) ?_)
 cases h1:o.ranged with
 | true=>simp (maxSteps:=9^7) only [go_sem,↓reduceIte,reduceCtorEq,Nat.reduceEqDiff,Nat.reduceBEq,Nat.reduceAdd,Nat.reduceSub,Nat.reduceMul,Nat.reduceLT,Nat.reduceLeDiff,Nat.reduceBNe,Int.reduceBEq,Int.reduceBNe,Int.reduceLT,Int.reduceLE,Opr.a,OSpn.a,nul,h1]
 | false =>
  simp (maxSteps:=9^7) only [go_sem,↓reduceIte,reduceCtorEq,Nat.reduceEqDiff,Nat.reduceBEq,Nat.reduceAdd,Nat.reduceSub,Nat.reduceMul,Nat.reduceLT,Nat.reduceLeDiff,Nat.reduceBNe,Int.reduceBEq,Int.reduceBNe,Int.reduceLT,Int.reduceLE,Opr.a,OSpn.a,nul,h1]
  (first | refine z01 (y03 o.key h) ?_ | refine z00 (y03 o.key h) ?_)
  simp (maxSteps:=9^7) only [go_sem,↓reduceIte,reduceCtorEq,Nat.reduceEqDiff,Nat.reduceBEq,Nat.reduceAdd,Nat.reduceSub,Nat.reduceMul,Nat.reduceLT,Nat.reduceLeDiff,Nat.reduceBNe,Int.reduceBEq,Int.reduceBNe,Int.reduceLT,Int.reduceLE,Opr.a,OSpn.a,nul,h1]
end
end Go.Proofs.YthpbokjnfloeoaaGreatDoor
