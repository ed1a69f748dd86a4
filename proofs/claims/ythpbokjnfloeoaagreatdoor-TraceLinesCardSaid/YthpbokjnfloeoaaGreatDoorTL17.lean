/-
  Part 17 of a proof: TeD, TeE.
-/
import Derived.Test.YthpbokjnfloeoaaGreatDoorTL16
namespace Go.Proofs.YthpbokjnfloeoaaGreatDoor
attribute [local go_sem] Spn.a Msg.a Par.a Nd.a Seat.a Cfg.a
set_option linter.unusedVariables false
section
/-
 Trees of the document: each met once; linked; leaves: walked.
-/
open Go.RowKit
set_option linter.unusedVariables false
set_option linter.unusedSimpArgs false
set_option maxRecDepth 100000
attribute [local go_sem ↓] z11 z0l
def zjv (seats:List Seat) (s:Int):Nat:=seats.countP fun x=>x.n.slot == s
def onceB (l:List Nd) (seats:List Seat):Bool:=decide (l.length = seats.length) && l.all fun n=>zjv seats n.slot == 1
/-- each leads to the next one of its level -/
def zxk:List Seat->Int
 | x :: y :: _=>if y.n.level = x.n.level then y.n.slot else -1
 | _=>-1
def z67:List Seat->Bool
 | []=>true
 | x :: l=>decide (x.n.right = zxk (x :: l)) && z67 l
/-! ### percolate/percolateref28.Once -/
def y44:Reg:=⟨[],[⟨.mv (.c (.bool false)),some 4,none,[],[]⟩],[],[],false⟩
def zij:List ROp:=[⟨.mv (.t 0),some 8,none,[],[]⟩,⟨.len false (.t 8),some 9,none,[],[]⟩,⟨.mv (.t 1),some 10,none,[],[]⟩,⟨.len false (.t 10),some 11,none,[],[]⟩,⟨.bin .neq (.t 9) (.t 11),some 12,none,[],[]⟩]
def y43:Reg:=⟨[],zij,[],[],false⟩
def y42:Reg:=⟨[],[⟨.mv (.c (.bool false)),some 4,none,[],[]⟩],[],[],false⟩
def y41:Reg:=⟨[],[⟨.mv (.c (.int .i64 0)),some 5,none,[],[]⟩],[],[],false⟩
def zii:List ROp:=[⟨.mv (.t 5),some 13,none,[],[]⟩,⟨.mv (.t 0),some 14,none,[],[]⟩,⟨.len false (.t 14),some 15,none,[],[]⟩,⟨.bin .lss (.t 13) (.t 15),some 16,none,[],[]⟩]
def y40:Reg:=⟨[],zii,[],[],false⟩
def y3z:Reg:=⟨[],[⟨.mv (.c (.int .i64 0)),some 6,none,[],[]⟩],[],[],false⟩
def y3y:Reg:=⟨[],[⟨.mv (.c (.int .i64 0)),some 7,none,[],[]⟩],[],[],false⟩
def zih:List ROp:=[⟨.mv (.t 7),some 19,none,[],[]⟩,⟨.mv (.t 1),some 20,none,[],[]⟩,⟨.len false (.t 20),some 21,none,[],[]⟩,⟨.bin .lss (.t 19) (.t 21),some 22,none,[],[]⟩]
def y3x:Reg:=⟨[],zih,[],[],false⟩
def zo5:List ROp:=[⟨.mv (.t 1),some 25,none,[],[]⟩,⟨.mv (.t 7),some 26,none,[],[]⟩,⟨.iaddr 14 (.t 25) (.t 26),some 27,none,[],[]⟩,⟨.faddr 0 (.t 27),some 28,none,[],[]⟩,⟨.faddr 0 (.t 28),some 29,none,[],[]⟩,⟨.load 1 false (.t 29),some 30,none,[],[]⟩,⟨.mv (.t 0),some 31,none,[],[]⟩,⟨.mv (.t 5),some 32,none,[],[]⟩,⟨.iaddr 10 (.t 31) (.t 32),some 33,none,[],[]⟩,⟨.faddr 0 (.t 33),some 34,none,[],[]⟩,⟨.load 1 false (.t 34),some 35,none,[],[]⟩]
def y3w:Reg:=⟨zo5,[⟨.bin .eql (.t 30) (.t 35),some 36,none,[],[]⟩],[],[],true⟩
def zig:List ROp:=[⟨.mv (.t 6),some 37,none,[],[]⟩,⟨.bin .add (.t 37) (.c (.int .i64 1)),some 38,none,[],[]⟩,⟨.mv (.t 38),some 6,none,[],[]⟩]
def y3v:Reg:=⟨[],zig,[],[],false⟩
def zcm:List ROp:=[⟨.mv (.t 7),some 23,none,[],[]⟩,⟨.bin .add (.t 23) (.c (.int .i64 1)),some 24,none,[],[]⟩,⟨.mv (.t 24),some 7,none,[],[]⟩]
def zuh:Reg:=⟨[],zcm,[],[],false⟩
def zml:IR:=(.seq (.seq (.reg y3x)
 (.cond (.t 22) .skip
 (.exit 2)))
 (.seq (.block 3 (.seq (.reg y3w)
 (.cond (.t 36) (.reg y3v)
 .skip)))
 (.reg zuh)))
def zug:Reg:=⟨[],[⟨.mv (.t 6),some 39,none,[],[]⟩,⟨.bin .neq (.t 39) (.c (.int .i64 1)),some 40,none,[],[]⟩],[],[],false⟩
def zuf:Reg:=⟨[],[⟨.mv (.c (.bool false)),some 4,none,[],[]⟩],[],[],false⟩
def zcl:List ROp:=[⟨.mv (.t 5),some 17,none,[],[]⟩,⟨.bin .add (.t 17) (.c (.int .i64 1)),some 18,none,[],[]⟩,⟨.mv (.t 18),some 5,none,[],[]⟩]
def zue:Reg:=⟨[],zcl,[],[],false⟩
def zmk:IR:=(.seq (.seq (.reg y40)
 (.cond (.t 16) .skip
 (.exit 0)))
 (.seq (.block 1 (.seq (.reg y3z)
 (.seq (.seq (.reg y3y)
 (.block 2 (.loop zml)))
 (.seq (.reg zug)
 (.cond (.t 40) (.seq (.reg zuf)
 .ret)
 .skip)))))
 (.reg zue)))
def zud:Reg:=⟨[],[⟨.mv (.c (.bool true)),some 4,none,[],[]⟩],[],[],false⟩
def yfu:IR:=(.seq (.reg y44)
 (.seq (.seq (.reg y43)
 (.cond (.t 12) (.seq (.reg y42)
 .ret)
 .skip))
 (.seq (.seq (.reg y41)
 (.block 0 (.loop zmk)))
 (.seq (.reg zud)
 .ret))))
def y0l:List RDesc:=[(.tmp 4)]
theorem e_onceR_0:EqR y44 [⟨.mv (.c (.bool false)),some 4,none,[],[]⟩] []:=fun _ _ _=>rfl
theorem e_onceR_1:EqR y43 zij []:=fun _ _ _=>rfl
theorem e_onceR_2:EqR y42 [⟨.mv (.c (.bool false)),some 4,none,[],[]⟩] []:=fun _ _ _=>rfl
theorem e_onceR_3:EqR y41 [⟨.mv (.c (.int .i64 0)),some 5,none,[],[]⟩] []:=fun _ _ _=>rfl
theorem e_onceR_4:EqR y40 zii []:=fun _ _ _=>rfl
theorem e_onceR_5:EqR y3z [⟨.mv (.c (.int .i64 0)),some 6,none,[],[]⟩] []:=fun _ _ _=>rfl
theorem e_onceR_6:EqR y3y [⟨.mv (.c (.int .i64 0)),some 7,none,[],[]⟩] []:=fun _ _ _=>rfl
theorem e_onceR_7:EqR y3x zih []:=fun _ _ _=>rfl
theorem e_onceR_8 (C:FuncId->List AV->AV->Prop) (σ:St) (K:St->Prop):z0k C y3w σ K = z08 C [] [⟨.bin .eql (.t 30) (.t 35),some 36,none,[],[]⟩] zo5 (σ.kills []) K:=rfl
theorem e_onceR_9:EqR y3v zig []:=fun _ _ _=>rfl
theorem e_onceR_10:EqR zuh zcm []:=fun _ _ _=>rfl
theorem e_onceR_12:EqR zug [⟨.mv (.t 6),some 39,none,[],[]⟩,⟨.bin .neq (.t 39) (.c (.int .i64 1)),some 40,none,[],[]⟩] []:=fun _ _ _=>rfl
theorem e_onceR_13:EqR zuf [⟨.mv (.c (.bool false)),some 4,none,[],[]⟩] []:=fun _ _ _=>rfl
theorem e_onceR_14:EqR zue zcl []:=fun _ _ _=>rfl
theorem e_onceR_16:EqR zud [⟨.mv (.c (.bool true)),some 4,none,[],[]⟩] []:=fun _ _ _=>rfl
theorem fn_onceR {args:List AV} {r:AV} (ha:args.length.ble Tryz.f28.ntmps = true) (h:run (AFn Tryz.prog) yfu (endQ y0l r) (z0b args)):AFn Tryz.prog 28 args r :=
 AFn.of_code (pv:=false) (hint:=fun _=>[]) (c:=Tryz.f28.body.getD .skip) (by kernel_rfl) (by kernel_rfl) Tryz.func28 (by kernel_rfl) (by kernel_rfl) (by kernel_rfl) (of_decide_eq_true (by kernel_rfl)) (Nat.le_of_ble_eq_true ha) (Nat.le_of_ble_eq_true (by kernel_rfl)) (z0c h)
/-! ### percolate/percolateref28.linked -/
def zvr:Reg:=⟨[],[⟨.mv (.c (.bool false)),some 2,none,[],[]⟩],[],[],false⟩
def zvq:Reg:=⟨[],[⟨.mv (.c (.int .i64 0)),some 3,none,[],[]⟩],[],[],false⟩
def zdf:List ROp:=[⟨.mv (.t 3),some 5,none,[],[]⟩,⟨.mv (.t 0),some 6,none,[],[]⟩,⟨.len false (.t 6),some 7,none,[],[]⟩,⟨.bin .lss (.t 5) (.t 7),some 8,none,[],[]⟩]
def zvp:Reg:=⟨[],zdf,[],[],false⟩
def zvo:Reg:=⟨[],[⟨.mv (.c (.int .i64 (-1))),some 4,none,[],[]⟩],[],[],false⟩
def zde:List ROp:=[⟨.bin .eql (.t 23) (.t 29),some 30,(some (16,true)),[],[]⟩,⟨.pick (.t 16) (.t 30) (.c (.bool false)),some 31,none,[],[]⟩]
def zex:List ROp:=[⟨.mv (.t 3),some 11,none,[],[]⟩,⟨.bin .add (.t 11) (.c (.int .i64 1)),some 12,none,[],[]⟩,⟨.mv (.t 0),some 13,none,[],[]⟩,⟨.len false (.t 13),some 14,none,[],[]⟩,⟨.bin .lss (.t 12) (.t 14),some 15,none,[],[]⟩,⟨.mv (.t 15),some 16,none,[],[]⟩,⟨.mv (.t 0),some 17,(some (16,true)),[],[]⟩,⟨.mv (.t 3),some 18,(some (16,true)),[],[]⟩,⟨.bin .add (.t 18) (.c (.int .i64 1)),some 19,(some (16,true)),[],[]⟩,⟨.iaddr 14 (.t 17) (.t 19),some 20,(some (16,true)),[],[]⟩,⟨.faddr 0 (.t 20),some 21,(some (16,true)),[],[]⟩,⟨.faddr 1 (.t 21),some 22,(some (16,true)),[],[]⟩,⟨.load 1 false (.t 22),some 23,(some (16,true)),[],[]⟩,⟨.mv (.t 0),some 24,(some (16,true)),[],[]⟩,⟨.mv (.t 3),some 25,(some (16,true)),[],[]⟩,⟨.iaddr 14 (.t 24) (.t 25),some 26,(some (16,true)),[],[]⟩,⟨.faddr 0 (.t 26),some 27,(some (16,true)),[],[]⟩,⟨.faddr 1 (.t 27),some 28,(some (16,true)),[],[]⟩,⟨.load 1 false (.t 28),some 29,(some (16,true)),[],[]⟩]
def zvn:Reg:=⟨zex,zde,[],[],true⟩
def zdd:List ROp:=[⟨.mv (.t 0),some 32,none,[],[]⟩,⟨.mv (.t 3),some 33,none,[],[]⟩,⟨.bin .add (.t 33) (.c (.int .i64 1)),some 34,none,[],[]⟩,⟨.iaddr 14 (.t 32) (.t 34),some 35,none,[],[]⟩,⟨.faddr 0 (.t 35),some 36,none,[],[]⟩,⟨.faddr 0 (.t 36),some 37,none,[],[]⟩,⟨.load 1 false (.t 37),some 38,none,[],[]⟩,⟨.mv (.t 38),some 4,none,[],[]⟩]
def zvm:Reg:=⟨[],zdd,[],[],false⟩
def zdc:List ROp:=[⟨.mv (.t 0),some 39,none,[],[]⟩,⟨.mv (.t 3),some 40,none,[],[]⟩,⟨.iaddr 14 (.t 39) (.t 40),some 41,none,[],[]⟩,⟨.faddr 0 (.t 41),some 42,none,[],[]⟩,⟨.faddr 6 (.t 42),some 43,none,[],[]⟩,⟨.load 1 false (.t 43),some 44,none,[],[]⟩,⟨.mv (.t 4),some 45,none,[],[]⟩,⟨.bin .neq (.t 44) (.t 45),some 46,none,[],[]⟩]
def zvl:Reg:=⟨[],zdc,[],[],false⟩
def zvk:Reg:=⟨[],[⟨.mv (.c (.bool false)),some 2,none,[],[]⟩],[],[],false⟩
def zdb:List ROp:=[⟨.mv (.t 3),some 9,none,[],[]⟩,⟨.bin .add (.t 9) (.c (.int .i64 1)),some 10,none,[],[]⟩,⟨.mv (.t 10),some 3,none,[],[]⟩]
def zvj:Reg:=⟨[],zdb,[],[],false⟩
def zmv:IR:=(.seq (.seq (.reg zvp)
 (.cond (.t 8) .skip
 (.exit 0)))
 (.seq (.block 1 (.seq (.reg zvo)
 (.seq (.seq (.reg zvn)
 (.cond (.t 31) (.reg zvm)
 .skip))
 (.seq (.reg zvl)
 (.cond (.t 46) (.seq (.reg zvk)
 .ret)
 .skip)))))
 (.reg zvj)))
def zmw:Reg:=⟨[],[⟨.mv (.c (.bool true)),some 2,none,[],[]⟩],[],[],false⟩
def y74:IR:=(.seq (.reg zvr)
 (.seq (.seq (.reg zvq)
 (.block 0 (.loop zmv)))
 (.seq (.reg zmw)
 .ret)))
def zqh:List RDesc:=[(.tmp 2)]
theorem e_linked_0:EqR zvr [⟨.mv (.c (.bool false)),some 2,none,[],[]⟩] []:=fun _ _ _=>rfl
theorem e_linked_1:EqR zvq [⟨.mv (.c (.int .i64 0)),some 3,none,[],[]⟩] []:=fun _ _ _=>rfl
theorem e_linked_2:EqR zvp zdf []:=fun _ _ _=>rfl
theorem e_linked_3:EqR zvo [⟨.mv (.c (.int .i64 (-1))),some 4,none,[],[]⟩] []:=fun _ _ _=>rfl
theorem e_linked_4 (C:FuncId->List AV->AV->Prop) (σ:St) (K:St->Prop):z0k C zvn σ K = z08 C [] zde zex (σ.kills []) K:=rfl
theorem e_linked_5:EqR zvm zdd []:=fun _ _ _=>rfl
theorem e_linked_6:EqR zvl zdc []:=fun _ _ _=>rfl
theorem e_linked_7:EqR zvk [⟨.mv (.c (.bool false)),some 2,none,[],[]⟩] []:=fun _ _ _=>rfl
theorem e_linked_8:EqR zvj zdb []:=fun _ _ _=>rfl
theorem ybr:EqR zmw [⟨.mv (.c (.bool true)),some 2,none,[],[]⟩] []:=fun _ _ _=>rfl
theorem fn_linked {args:List AV} {r:AV} (ha:args.length.ble Tryz.f29.ntmps = true) (h:run (AFn Tryz.prog) y74 (endQ zqh r) (z0b args)):AFn Tryz.prog 29 args r :=
 AFn.of_code (pv:=false) (hint:=fun _=>[]) (c:=Tryz.f29.body.getD .skip) (by kernel_rfl) (by kernel_rfl) Tryz.func29 (by kernel_rfl) (by kernel_rfl) (by kernel_rfl) (of_decide_eq_true (by kernel_rfl)) (Nat.le_of_ble_eq_true ha) (Nat.le_of_ble_eq_true (by kernel_rfl)) (z0c h)
/-! ### percolate/percolateref21.Has -/
def y5d:Reg:=⟨[],[⟨.box 10 32 (.t 0),some 2,none,[],[]⟩,⟨.mv (.c (.bool false)),some 4,none,[],[]⟩],[2],[],false⟩
def zj6:List ROp:=[⟨.faddr 5 (.t 2),some 5,none,[11],[]⟩,⟨.load 1 false (.t 5),some 6,none,[11],[]⟩,⟨.mv (.t 6),some 7,none,[11],[]⟩,⟨.mv (.t 1),some 8,(some (7,false)),[11],[]⟩,⟨.faddr 4 (.t 2),some 9,(some (7,false)),[11],[]⟩,⟨.load 1 false (.t 9),some 10,(some (7,false)),[11],[]⟩,⟨.callv (.c (.clo 77 [] [])) [(.t 8),(.t 10)],some 11,(some (7,false)),[],[]⟩,⟨.pick (.t 7) (.c (.bool true)) (.t 11),some 12,none,[],[]⟩,⟨.mv (.t 12),some 4,none,[],[]⟩]
def y5c:Reg:=⟨[],zj6,[11],[],false⟩
def yg1:IR:=(.seq (.reg y5d)
 (.seq (.reg y5c)
 .ret))
def y0s:List RDesc:=[(.tmp 4)]
theorem e_has21_0:EqR y5d [⟨.box 10 32 (.t 0),some 2,none,[],[]⟩,⟨.mv (.c (.bool false)),some 4,none,[],[]⟩] [2]:=fun _ _ _=>rfl
theorem e_has21_1:EqR y5c zj6 [11]:=fun _ _ _=>rfl
theorem fn_has21 {args:List AV} {r:AV} (ha:args.length.ble Tryz.f80.ntmps = true) (h:run (AFn Tryz.prog) yg1 (endQ y0s r) (z0b args)):AFn Tryz.prog 80 args r :=
 AFn.of_code (pv:=false) (hint:=fun _=>[]) (c:=Tryz.f80.body.getD .skip) (by kernel_rfl) (by kernel_rfl) Tryz.func80 (by kernel_rfl) (by kernel_rfl) (by kernel_rfl) (of_decide_eq_true (by kernel_rfl)) (Nat.le_of_ble_eq_true ha) (Nat.le_of_ble_eq_true (by kernel_rfl)) (z0c h)
/-! ### percolate/percolateref21.leaf -/
def zdp:List ROp:=[⟨.box 5 23 (.t 0),some 2,none,[3],[]⟩,⟨.box 10 32 (.t 1),some 3,none,[],[]⟩,⟨.mv (.c (.bool false)),some 4,none,[],[]⟩]
def zwb:Reg:=⟨[],zdp,[2,3],[],false⟩
def zdo:List ROp:=[⟨.faddr 2 (.t 3),some 6,none,[29],[]⟩,⟨.load 1 false (.t 6),some 7,none,[29],[]⟩,⟨.len false (.t 7),some 8,none,[29],[]⟩,⟨.faddr 3 (.t 3),some 9,none,[29],[]⟩,⟨.load 1 false (.t 9),some 10,none,[29],[]⟩,⟨.len false (.t 10),some 11,none,[29],[]⟩,⟨.bin .add (.t 8) (.t 11),some 12,none,[29],[]⟩,⟨.faddr 8 (.t 3),some 13,none,[29],[]⟩,⟨.load 1 false (.t 13),some 14,none,[29],[]⟩,⟨.len false (.t 14),some 15,none,[29],[]⟩,⟨.bin .add (.t 12) (.t 15),some 16,none,[29],[]⟩,⟨.bin .gtr (.t 16) (.c (.int .i64 0)),some 17,none,[29],[]⟩,⟨.mv (.t 17),some 18,none,[29],[]⟩,⟨.faddr 9 (.t 3),some 19,(some (18,false)),[29],[]⟩,⟨.load 1 false (.t 19),some 20,(some (18,false)),[29],[]⟩,⟨.len false (.t 20),some 21,(some (18,false)),[29],[]⟩,⟨.faddr 1 (.t 2),some 22,(some (18,false)),[29],[]⟩,⟨.load 1 false (.t 22),some 23,(some (18,false)),[29],[]⟩,⟨.bin .gtr (.t 21) (.t 23),some 24,(some (18,false)),[29],[]⟩,⟨.pick (.t 18) (.c (.bool true)) (.t 24),some 25,none,[29],[]⟩,⟨.mv (.t 25),some 26,none,[29],[]⟩,⟨.faddr 9 (.t 3),some 27,(some (26,false)),[29],[]⟩,⟨.load 1 false (.t 27),some 28,(some (26,false)),[29],[]⟩,⟨.callv (.c (.clo 79 [] [])) [(.t 28)],some 29,(some (26,false)),[],[]⟩,⟨.un .not (.t 29),some 30,(some (26,false)),[],[]⟩,⟨.pick (.t 26) (.c (.bool true)) (.t 30),some 31,none,[],[]⟩]
def zwa:Reg:=⟨[],zdo,[29],[],false⟩
def zw9:Reg:=⟨[],[⟨.mv (.c (.bool false)),some 4,none,[],[]⟩],[],[],false⟩
def zw8:Reg:=⟨[],[⟨.mv (.c (.int .i64 0)),some 5,none,[],[]⟩],[],[],false⟩
def zdn:List ROp:=[⟨.mv (.t 5),some 32,none,[],[]⟩,⟨.faddr 9 (.t 3),some 33,none,[],[]⟩,⟨.load 1 false (.t 33),some 34,none,[],[]⟩,⟨.len false (.t 34),some 35,none,[],[]⟩,⟨.bin .lss (.t 32) (.t 35),some 36,none,[],[]⟩]
def zw7:Reg:=⟨[],zdn,[],[],false⟩
def zdm:List ROp:=[⟨.callv (.c (.clo 80 [] [])) [(.t 39),(.t 45)],some 46,none,[],[]⟩,⟨.un .not (.t 46),some 47,none,[],[]⟩]
def zey:List ROp:=[⟨.load 10 true (.t 3),some 39,none,[46],[]⟩,⟨.faddr 9 (.t 3),some 40,none,[46],[]⟩,⟨.load 1 false (.t 40),some 41,none,[46],[]⟩,⟨.mv (.t 5),some 42,none,[46],[]⟩,⟨.iaddr 2 (.t 41) (.t 42),some 43,none,[46],[]⟩,⟨.faddr 0 (.t 43),some 44,none,[46],[]⟩,⟨.load 1 false (.t 44),some 45,none,[46],[]⟩]
def zw6:Reg:=⟨zey,zdm,[46],[],true⟩
def zw5:Reg:=⟨[],[⟨.mv (.c (.bool false)),some 4,none,[],[]⟩],[],[],false⟩
def zdl:List ROp:=[⟨.mv (.t 5),some 37,none,[],[]⟩,⟨.bin .add (.t 37) (.c (.int .i64 1)),some 38,none,[],[]⟩,⟨.mv (.t 38),some 5,none,[],[]⟩]
def zw4:Reg:=⟨[],zdl,[],[],false⟩
def zn0:IR:=(.seq (.seq (.reg zw7)
 (.cond (.t 36) .skip
 (.exit 0)))
 (.seq (.block 1 (.seq (.reg zw6)
 (.cond (.t 47) (.seq (.reg zw5)
 .ret)
 .skip)))
 (.reg zw4)))
def zw3:Reg:=⟨[],[⟨.mv (.c (.bool true)),some 4,none,[],[]⟩],[],[],false⟩
def y76:IR:=(.seq (.reg zwb)
 (.seq (.seq (.reg zwa)
 (.cond (.t 31) (.seq (.reg zw9)
 .ret)
 .skip))
 (.seq (.seq (.reg zw8)
 (.block 0 (.loop zn0)))
 (.seq (.reg zw3)
 .ret))))
def zqj:List RDesc:=[(.tmp 4)]
theorem e_leaf21_0:EqR zwb zdp [2,3]:=fun _ _ _=>rfl
theorem e_leaf21_1:EqR zwa zdo [29]:=fun _ _ _=>rfl
theorem e_leaf21_2:EqR zw9 [⟨.mv (.c (.bool false)),some 4,none,[],[]⟩] []:=fun _ _ _=>rfl
theorem e_leaf21_3:EqR zw8 [⟨.mv (.c (.int .i64 0)),some 5,none,[],[]⟩] []:=fun _ _ _=>rfl
theorem e_leaf21_4:EqR zw7 zdn []:=fun _ _ _=>rfl
theorem e_leaf21_5 (C:FuncId->List AV->AV->Prop) (σ:St) (K:St->Prop):z0k C zw6 σ K = z08 C [] zdm zey (σ.kills [46]) K:=rfl
theorem e_leaf21_6:EqR zw5 [⟨.mv (.c (.bool false)),some 4,none,[],[]⟩] []:=fun _ _ _=>rfl
theorem e_leaf21_7:EqR zw4 zdl []:=fun _ _ _=>rfl
theorem e_leaf21_9:EqR zw3 [⟨.mv (.c (.bool true)),some 4,none,[],[]⟩] []:=fun _ _ _=>rfl
theorem fn_leaf21 {args:List AV} {r:AV} (ha:args.length.ble Tryz.f57.ntmps = true) (h:run (AFn Tryz.prog) y76 (endQ zqj r) (z0b args)):AFn Tryz.prog 57 args r :=
 AFn.of_code (pv:=false) (hint:=fun _=>[]) (c:=Tryz.f57.body.getD .skip) (by kernel_rfl) (by kernel_rfl) Tryz.func57 (by kernel_rfl) (by kernel_rfl) (by kernel_rfl) (of_decide_eq_true (by kernel_rfl)) (Nat.le_of_ble_eq_true ha) (Nat.le_of_ble_eq_true (by kernel_rfl)) (z0c h)
/-! ### percolate/percolateref25.Right -/
def zkq:Reg:=⟨[],[⟨.box 5 23 (.t 0),some 1,none,[],[]⟩,⟨.mv (.c (.bool false)),some 2,none,[],[]⟩],[1],[],false⟩
def z7l:List ROp:=[⟨.faddr 0 (.t 1),some 3,none,[],[]⟩,⟨.load 1 false (.t 3),some 4,none,[],[]⟩,⟨.bin .geq (.t 4) (.c (.int .i64 4)),some 5,none,[],[]⟩,⟨.mv (.t 5),some 6,none,[],[]⟩,⟨.faddr 0 (.t 1),some 7,(some (6,true)),[],[]⟩,⟨.load 1 false (.t 7),some 8,(some (6,true)),[],[]⟩,⟨.bin .leq (.t 8) (.c (.int .i64 64)),some 9,(some (6,true)),[],[]⟩,⟨.pick (.t 6) (.t 9) (.c (.bool false)),some 10,none,[],[]⟩,⟨.mv (.t 10),some 11,none,[],[]⟩,⟨.faddr 1 (.t 1),some 12,(some (11,true)),[],[]⟩,⟨.load 1 false (.t 12),some 13,(some (11,true)),[],[]⟩,⟨.bin .geq (.t 13) (.c (.int .i64 2)),some 14,(some (11,true)),[],[]⟩,⟨.pick (.t 11) (.t 14) (.c (.bool false)),some 15,none,[],[]⟩,⟨.mv (.t 15),some 16,none,[],[]⟩,⟨.faddr 1 (.t 1),some 17,(some (16,true)),[],[]⟩,⟨.load 1 false (.t 17),some 18,(some (16,true)),[],[]⟩,⟨.bin .leq (.t 18) (.c (.int .i64 64)),some 19,(some (16,true)),[],[]⟩,⟨.pick (.t 16) (.t 19) (.c (.bool false)),some 20,none,[],[]⟩,⟨.mv (.t 20),some 21,none,[],[]⟩,⟨.faddr 2 (.t 1),some 22,(some (21,true)),[],[]⟩,⟨.load 1 false (.t 22),some 23,(some (21,true)),[],[]⟩,⟨.bin .geq (.t 23) (.c (.int .i64 36)),some 24,(some (21,true)),[],[]⟩,⟨.pick (.t 21) (.t 24) (.c (.bool false)),some 25,none,[],[]⟩,⟨.mv (.t 25),some 26,none,[],[]⟩,⟨.faddr 2 (.t 1),some 27,(some (26,true)),[],[]⟩,⟨.load 1 false (.t 27),some 28,(some (26,true)),[],[]⟩,⟨.bin .leq (.t 28) (.c (.int .i64 4096)),some 29,(some (26,true)),[],[]⟩,⟨.pick (.t 26) (.t 29) (.c (.bool false)),some 30,none,[],[]⟩,⟨.mv (.t 30),some 31,none,[],[]⟩,⟨.faddr 3 (.t 1),some 32,(some (31,true)),[],[]⟩,⟨.load 1 false (.t 32),some 33,(some (31,true)),[],[]⟩,⟨.bin .geq (.t 33) (.c (.int .i64 1)),some 34,(some (31,true)),[],[]⟩,⟨.pick (.t 31) (.t 34) (.c (.bool false)),some 35,none,[],[]⟩,⟨.mv (.t 35),some 36,none,[],[]⟩,⟨.faddr 3 (.t 1),some 37,(some (36,true)),[],[]⟩,⟨.load 1 false (.t 37),some 38,(some (36,true)),[],[]⟩,⟨.bin .leq (.t 38) (.c (.int .i64 4096)),some 39,(some (36,true)),[],[]⟩,⟨.pick (.t 36) (.t 39) (.c (.bool false)),some 40,none,[],[]⟩,⟨.mv (.t 40),some 41,none,[],[]⟩,⟨.faddr 4 (.t 1),some 42,(some (41,true)),[],[]⟩,⟨.load 1 false (.t 42),some 43,(some (41,true)),[],[]⟩,⟨.bin .geq (.t 43) (.c (.int .i64 0)),some 44,(some (41,true)),[],[]⟩,⟨.pick (.t 41) (.t 44) (.c (.bool false)),some 45,none,[],[]⟩,⟨.mv (.t 45),some 46,none,[],[]⟩,⟨.faddr 4 (.t 1),some 47,(some (46,true)),[],[]⟩,⟨.load 1 false (.t 47),some 48,(some (46,true)),[],[]⟩,⟨.bin .leq (.t 48) (.c (.int .i64 100)),some 49,(some (46,true)),[],[]⟩,⟨.pick (.t 46) (.t 49) (.c (.bool false)),some 50,none,[],[]⟩,⟨.mv (.t 50),some 2,none,[],[]⟩]
def zkp:Reg:=⟨[],z7l,[],[],false⟩
def zx3:IR:=(.seq (.reg zkq)
 (.seq (.reg zkp)
 .ret))
def zk4:List RDesc:=[(.tmp 2)]
theorem yab:EqR zkq [⟨.box 5 23 (.t 0),some 1,none,[],[]⟩,⟨.mv (.c (.bool false)),some 2,none,[],[]⟩] [1]:=fun _ _ _=>rfl
theorem yaa:EqR zkp z7l []:=fun _ _ _=>rfl
theorem fn_right25 {args:List AV} {r:AV} (ha:args.length.ble Tryz.f9.ntmps = true) (h:run (AFn Tryz.prog) zx3 (endQ zk4 r) (z0b args)):AFn Tryz.prog 9 args r :=
 AFn.of_code (pv:=false) (hint:=fun _=>[]) (c:=Tryz.f9.body.getD .skip) (by kernel_rfl) (by kernel_rfl) Tryz.func9 (by kernel_rfl) (by kernel_rfl) (by kernel_rfl) (of_decide_eq_true (by kernel_rfl)) (Nat.le_of_ble_eq_true ha) (Nat.le_of_ble_eq_true (by kernel_rfl)) (z0c h)
attribute [local go_sem ↓] yfu
attribute [local go_sem] y0l e_onceR_0 e_onceR_1 zij e_onceR_2 e_onceR_3 e_onceR_4 zii e_onceR_5 e_onceR_6 e_onceR_7 zih e_onceR_8 zo5 e_onceR_9 zig e_onceR_10 zcm e_onceR_12 e_onceR_13 e_onceR_14 zcl e_onceR_16
attribute [local go_sem ↓] y74
attribute [local go_sem] zqh e_linked_0 e_linked_1 e_linked_2 zdf e_linked_3 e_linked_4 zde zex e_linked_5 zdd e_linked_6 zdc e_linked_7 e_linked_8 zdb ybr
attribute [local go_sem ↓] yg1
attribute [local go_sem] y0s e_has21_0 e_has21_1 zj6
attribute [local go_sem ↓] y76
attribute [local go_sem] zqj e_leaf21_0 zdp e_leaf21_1 zdo e_leaf21_2 e_leaf21_3 e_leaf21_4 zdn e_leaf21_5 zdm zey e_leaf21_6 e_leaf21_7 zdl e_leaf21_9
attribute [local go_sem ↓] zx3
attribute [local go_sem] zk4 yab yaa z7l
theorem countP_at {α:Type} {p:α->Bool} {l:List α} {j:Nat} {x:α} (h:l[j]? = some x):(l.drop j).countP p = (if p x then 1 else 0) + (l.drop (j + 1)).countP p:=by
 rw [z0h h,List.countP_cons,Nat.add_comm]
def o2Inv (l:List Nd) (s:List Seat) (i:Nat) (slot:Int) (k:Nat) (σ:St):Prop :=
 ∃ j n:Nat,j≤s.length∧k = s.length - j∧n≤j∧σ.T 0 = .sl (l.map Nd.a)∧σ.T 1 = .sl (s.map Seat.a)∧σ.T 5 = .int .i64 i∧σ.T 6 = .int .i64 n∧σ.T 7 = .int .i64 j∧n + zjv (s.drop j) slot = zjv s slot
def o1Inv (l:List Nd) (s:List Seat) (R:Bool) (k:Nat) (σ:St):Prop :=
 ∃ i:Nat,i≤l.length∧k = l.length - i∧σ.T 0 = .sl (l.map Nd.a)∧σ.T 1 = .sl (s.map Seat.a)∧σ.T 5 = .int .i64 i∧(l.drop i).all (fun n=>zjv s n.slot == 1) = R
set_option maxHeartbeats 2000000 in
theorem onceT_ok (l:List Nd) (s:List Seat) (hl:l.length≤1000000) (hs:s.length≤1000000):AFn Tryz.prog 28 [.sl (l.map Nd.a),.sl (s.map Seat.a)] (.bool (onceB l s)):=by
 refine fn_onceR rfl ?_
 unfold onceB
 by_cases hq:l.length = s.length
 case neg =>
  have hq':((l.length:Int) != (s.length:Int)) = true:=by simp; omega
  rw [decide_eq_false hq]
  simp (maxSteps:=9^7) only [go_sem,↓reduceIte,reduceCtorEq,Nat.reduceEqDiff,Nat.reduceBEq,Nat.reduceAdd,Nat.reduceSub,Nat.reduceMul,Nat.reduceLT,Nat.reduceLeDiff,Nat.reduceBNe,Int.reduceBEq,Int.reduceBNe,Int.reduceLT,Int.reduceLE,List.length_map,hq',Bool.false_and]
 have hq':((l.length:Int) != (s.length:Int)) = false:=by simp [hq]
 rw [decide_eq_true hq]
 obtain ⟨R,hR⟩:∃ R,l.all (fun n=>zjv s n.slot == 1) = R:=⟨_,rfl⟩
 rw [hR]
 simp (maxSteps:=9^7) only [go_sem,↓reduceIte,reduceCtorEq,Nat.reduceEqDiff,Nat.reduceBEq,Nat.reduceAdd,Nat.reduceSub,Nat.reduceMul,Nat.reduceLT,Nat.reduceLeDiff,Nat.reduceBNe,Int.reduceBEq,Int.reduceBNe,Int.reduceLT,Int.reduceLE,List.length_map,hq']
 refine z0d (o1Inv l s R) (k:=l.length) ⟨0,by omega,rfl,rfl,rfl,rfl,hR⟩ ?_
 clear hR
 rintro k σ ⟨i,hi,rfl,t0,t1,t5,hr⟩
 simp only [zmk]
 by_cases hlt:i < l.length
 case neg =>
  have hlt':¬ (i:Int) < (l.length:Int):=by omega
  rw [List.drop_eq_nil_of_le (by omega),List.all_nil] at hr
  subst hr
  simp (maxSteps:=9^7) only [go_sem,↓reduceIte,reduceCtorEq,Nat.reduceEqDiff,Nat.reduceBEq,Nat.reduceAdd,Nat.reduceSub,Nat.reduceMul,Nat.reduceLT,Nat.reduceLeDiff,Nat.reduceBNe,Int.reduceBEq,Int.reduceBNe,Int.reduceLT,Int.reduceLE,t0,t1,t5,hlt',List.length_map]
 have hlt':(i:Int) < (l.length:Int):=by omega
 obtain ⟨nd,hx⟩:=z0i hlt
 have hgx:=z0o (f:=Nd.a) hx
 simp only [Nd.a] at hgx
 have hw:=z1j (j:=i) (by omega)
 rw [z0h hx,List.all_cons] at hr
 simp (maxSteps:=9^7) only [go_sem,↓reduceIte,reduceCtorEq,Nat.reduceEqDiff,Nat.reduceBEq,Nat.reduceAdd,Nat.reduceSub,Nat.reduceMul,Nat.reduceLT,Nat.reduceLeDiff,Nat.reduceBNe,Int.reduceBEq,Int.reduceBNe,Int.reduceLT,Int.reduceLE,t0,t1,t5,hlt',List.length_map]
 refine z0d (o2Inv l s i nd.slot) (k:=s.length) ⟨0,0,by omega,rfl,by omega,?_,?_,?_,?_,?_,by rw [List.drop_zero,Nat.zero_add]⟩ ?_
 iterate 5 focus ((simp (maxSteps:=9^7) only [go_sem,↓reduceIte,reduceCtorEq,Nat.reduceEqDiff,Nat.reduceBEq,Nat.reduceAdd,Nat.reduceSub,Nat.reduceMul,Nat.reduceLT,Nat.reduceLeDiff,Nat.reduceBNe,Int.reduceBEq,Int.reduceBNe,Int.reduceLT,Int.reduceLE,t0,t1,t5]) <;> rfl)
 rintro k σ ⟨j,n,hj,rfl,hn,t0,t1,t5,t6,t7,hc⟩
 simp only [zml]
 by_cases hjt:j < s.length
 ·have hjt':(j:Int) < (s.length:Int):=by omega
  obtain ⟨y,hy⟩:=z0i hjt
  have hgy:=z0o (f:=Seat.a) hy
  simp only [Seat.a] at hgy
  have hwj:=z1j (j:=j) (by omega)
  have hwn:=z1j (j:=n) (by omega)
  unfold zjv at hc
  rw [countP_at hy] at hc
  cases he:(y.n.slot == nd.slot)
  ·rw [he] at hc
   simp (maxSteps:=9^7) only [go_sem,↓reduceIte,reduceCtorEq,Nat.reduceEqDiff,Nat.reduceBEq,Nat.reduceAdd,Nat.reduceSub,Nat.reduceMul,Nat.reduceLT,Nat.reduceLeDiff,Nat.reduceBNe,Int.reduceBEq,Int.reduceBNe,Int.reduceLT,Int.reduceLE,t0,t1,t5,t6,t7,hlt',hjt',hgx,hgy,he,hwj,List.length_map,Int.toNat_natCast]
   (repeat refine And.intro (by omega) ?_)
   refine ⟨s.length - (j + 1),by omega,j + 1,n,by omega,rfl,by omega,?_,?_,?_,?_,?_,by unfold zjv; rw [← hc]; simp⟩
   iterate 5 focus ((simp (maxSteps:=9^7) only [go_sem,↓reduceIte,reduceCtorEq,Nat.reduceEqDiff,Nat.reduceBEq,Nat.reduceAdd,Nat.reduceSub,Nat.reduceMul,Nat.reduceLT,Nat.reduceLeDiff,Nat.reduceBNe,Int.reduceBEq,Int.reduceBNe,Int.reduceLT,Int.reduceLE,t0,t1,t5,t6,hwj]) <;> rfl)
  ·rw [he] at hc
   simp (maxSteps:=9^7) only [go_sem,↓reduceIte,reduceCtorEq,Nat.reduceEqDiff,Nat.reduceBEq,Nat.reduceAdd,Nat.reduceSub,Nat.reduceMul,Nat.reduceLT,Nat.reduceLeDiff,Nat.reduceBNe,Int.reduceBEq,Int.reduceBNe,Int.reduceLT,Int.reduceLE,t0,t1,t5,t6,t7,hlt',hjt',hgx,hgy,he,hwj,hwn,List.length_map,Int.toNat_natCast]
   (repeat refine And.intro (by omega) ?_)
   refine ⟨s.length - (j + 1),by omega,j + 1,n + 1,by omega,rfl,by omega,?_,?_,?_,?_,?_,by unfold zjv; rw [← hc]; simp; omega⟩
   iterate 5 focus ((simp (maxSteps:=9^7) only [go_sem,↓reduceIte,reduceCtorEq,Nat.reduceEqDiff,Nat.reduceBEq,Nat.reduceAdd,Nat.reduceSub,Nat.reduceMul,Nat.reduceLT,Nat.reduceLeDiff,Nat.reduceBNe,Int.reduceBEq,Int.reduceBNe,Int.reduceLT,Int.reduceLE,t0,t1,t5,hwn,hwj]) <;> rfl)
 ·have hjt':¬ (j:Int) < (s.length:Int):=by omega
  rw [List.drop_eq_nil_of_le (by omega)] at hc
  have hc':n = zjv s nd.slot:=by rw [← hc]; rfl
  by_cases h1:n = 1
  ·have h1':((n:Int) != 1) = false:=by simp [h1]
   have h2:(zjv s nd.slot == 1) = true:=by rw [← hc',h1]; rfl
   rw [h2,Bool.true_and] at hr
   simp (maxSteps:=9^7) only [go_sem,↓reduceIte,reduceCtorEq,Nat.reduceEqDiff,Nat.reduceBEq,Nat.reduceAdd,Nat.reduceSub,Nat.reduceMul,Nat.reduceLT,Nat.reduceLeDiff,Nat.reduceBNe,Int.reduceBEq,Int.reduceBNe,Int.reduceLT,Int.reduceLE,t0,t1,t5,t6,t7,hjt',h1',hw,List.length_map]
   refine ⟨l.length - (i + 1),by omega,i + 1,by omega,rfl,?_,?_,?_,hr⟩
   iterate 3 focus ((simp (maxSteps:=9^7) only [go_sem,↓reduceIte,reduceCtorEq,Nat.reduceEqDiff,Nat.reduceBEq,Nat.reduceAdd,Nat.reduceSub,Nat.reduceMul,Nat.reduceLT,Nat.reduceLeDiff,Nat.reduceBNe,Int.reduceBEq,Int.reduceBNe,Int.reduceLT,Int.reduceLE,t0,t1,hw]) <;> rfl)
  ·have h1':((n:Int) != 1) = true:=by simp; omega
   have h2:(zjv s nd.slot == 1) = false:=by rw [← hc']; simp [h1]
   rw [h2,Bool.false_and] at hr
   subst hr
   simp (maxSteps:=9^7) only [go_sem,↓reduceIte,reduceCtorEq,Nat.reduceEqDiff,Nat.reduceBEq,Nat.reduceAdd,Nat.reduceSub,Nat.reduceMul,Nat.reduceLT,Nat.reduceLeDiff,Nat.reduceBNe,Int.reduceBEq,Int.reduceBNe,Int.reduceLT,Int.reduceLE,t0,t1,t5,t6,t7,hjt',h1',List.length_map]
def lkInv (s:List Seat) (R:Bool) (k:Nat) (σ:St):Prop :=
 ∃ i:Nat,i≤s.length∧k = s.length - i∧σ.T 0 = .sl (s.map Seat.a)∧σ.T 3 = .int .i64 i∧z67 (s.drop i) = R
set_option maxHeartbeats 2000000 in
theorem linked_ok (s:List Seat) (hs:s.length≤1000000):AFn Tryz.prog 29 [.sl (s.map Seat.a)] (.bool (z67 s)):=by
 refine fn_linked rfl ?_
 obtain ⟨R,hR⟩:∃ R,z67 s = R:=⟨_,rfl⟩
 rw [hR]
 simp (maxSteps:=9^7) only [go_sem,↓reduceIte,reduceCtorEq,Nat.reduceEqDiff,Nat.reduceBEq,Nat.reduceAdd,Nat.reduceSub,Nat.reduceMul,Nat.reduceLT,Nat.reduceLeDiff,Nat.reduceBNe,Int.reduceBEq,Int.reduceBNe,Int.reduceLT,Int.reduceLE]
 refine z0d (lkInv s R) (k:=s.length) ⟨0,by omega,rfl,rfl,rfl,hR⟩ ?_
 clear hR
 rintro k σ ⟨i,hi,rfl,t0,t3,hr⟩
 simp only [zmv]
 by_cases hlt:i < s.length
 case neg =>
  have hlt':¬ (i:Int) < (s.length:Int):=by omega
  rw [List.drop_eq_nil_of_le (by omega),z67] at hr
  subst hr
  simp (maxSteps:=9^7) only [go_sem,↓reduceIte,reduceCtorEq,Nat.reduceEqDiff,Nat.reduceBEq,Nat.reduceAdd,Nat.reduceSub,Nat.reduceMul,Nat.reduceLT,Nat.reduceLeDiff,Nat.reduceBNe,Int.reduceBEq,Int.reduceBNe,Int.reduceLT,Int.reduceLE,t0,t3,hlt',List.length_map]
 have hlt':(i:Int) < (s.length:Int):=by omega
 obtain ⟨x,hx⟩:=z0i hlt
 have hgx:=z0o (f:=Seat.a) hx
 simp only [Seat.a] at hgx
 have hw:=z1j (j:=i) (by omega)
 rw [z0h hx,z67] at hr
 have fin:∀ w:Int,zxk (x :: s.drop (i + 1)) = w->(x.n.right != w) = !decide (x.n.right = zxk (x :: s.drop (i + 1))):=by
  rintro w rfl
  by_cases h:x.n.right = zxk (x :: s.drop (i + 1))
  ·rw [decide_eq_true h,← h]; simp
  ·rw [decide_eq_false h]; simp [h]
 by_cases hn:i + 1 < s.length
 ·have hn':((i + 1:Nat):Int) < (s.length:Int):=by omega
  obtain ⟨y,hy⟩:=z0i hn
  have hgy:=z0o (f:=Seat.a) hy
  simp only [Seat.a] at hgy
  have hwant:zxk (x :: s.drop (i + 1)) = if y.n.level = x.n.level then y.n.slot else -1:=by rw [z0h hy]; rfl
  cases he:(y.n.level == x.n.level)
  ·have hne:¬ y.n.level = x.n.level:=by simpa using he
   rw [if_neg hne] at hwant
   have hf:=fin _ hwant
   generalize decide (x.n.right = zxk (x :: s.drop (i + 1))) = b at *
   cases b
   ·rw [Bool.false_and] at hr
    subst hr
    simp (maxSteps:=9^7) only [go_sem,↓reduceIte,reduceCtorEq,Nat.reduceEqDiff,Nat.reduceBEq,Nat.reduceAdd,Nat.reduceSub,Nat.reduceMul,Nat.reduceLT,Nat.reduceLeDiff,Nat.reduceBNe,Int.reduceBEq,Int.reduceBNe,Int.reduceLT,Int.reduceLE,t0,t3,hlt',hn',hgx,hgy,he,hf,hw,List.length_map,Int.toNat_natCast]
    all_goals omega
   ·rw [Bool.true_and] at hr
    simp (maxSteps:=9^7) only [go_sem,↓reduceIte,reduceCtorEq,Nat.reduceEqDiff,Nat.reduceBEq,Nat.reduceAdd,Nat.reduceSub,Nat.reduceMul,Nat.reduceLT,Nat.reduceLeDiff,Nat.reduceBNe,Int.reduceBEq,Int.reduceBNe,Int.reduceLT,Int.reduceLE,t0,t3,hlt',hn',hgx,hgy,he,hf,hw,List.length_map,Int.toNat_natCast]
    (repeat refine And.intro (by omega) ?_)
    refine ⟨s.length - (i + 1),by omega,i + 1,by omega,rfl,?_,?_,hr⟩
    iterate 2 focus ((simp (maxSteps:=9^7) only [go_sem,↓reduceIte,reduceCtorEq,Nat.reduceEqDiff,Nat.reduceBEq,Nat.reduceAdd,Nat.reduceSub,Nat.reduceMul,Nat.reduceLT,Nat.reduceLeDiff,Nat.reduceBNe,Int.reduceBEq,Int.reduceBNe,Int.reduceLT,Int.reduceLE,t0,hw]) <;> rfl)
  ·have hne:y.n.level = x.n.level:=by simpa using he
   rw [if_pos hne] at hwant
   have hf:=fin _ hwant
   generalize decide (x.n.right = zxk (x :: s.drop (i + 1))) = b at *
   cases b
   ·rw [Bool.false_and] at hr
    subst hr
    simp (maxSteps:=9^7) only [go_sem,↓reduceIte,reduceCtorEq,Nat.reduceEqDiff,Nat.reduceBEq,Nat.reduceAdd,Nat.reduceSub,Nat.reduceMul,Nat.reduceLT,Nat.reduceLeDiff,Nat.reduceBNe,Int.reduceBEq,Int.reduceBNe,Int.reduceLT,Int.reduceLE,t0,t3,hlt',hn',hgx,hgy,he,hf,hw,List.length_map,Int.toNat_natCast]
    all_goals omega
   ·rw [Bool.true_and] at hr
    simp (maxSteps:=9^7) only [go_sem,↓reduceIte,reduceCtorEq,Nat.reduceEqDiff,Nat.reduceBEq,Nat.reduceAdd,Nat.reduceSub,Nat.reduceMul,Nat.reduceLT,Nat.reduceLeDiff,Nat.reduceBNe,Int.reduceBEq,Int.reduceBNe,Int.reduceLT,Int.reduceLE,t0,t3,hlt',hn',hgx,hgy,he,hf,hw,List.length_map,Int.toNat_natCast]
    (repeat refine And.intro (by omega) ?_)
    refine ⟨s.length - (i + 1),by omega,i + 1,by omega,rfl,?_,?_,hr⟩
    iterate 2 focus ((simp (maxSteps:=9^7) only [go_sem,↓reduceIte,reduceCtorEq,Nat.reduceEqDiff,Nat.reduceBEq,Nat.reduceAdd,Nat.reduceSub,Nat.reduceMul,Nat.reduceLT,Nat.reduceLeDiff,Nat.reduceBNe,Int.reduceBEq,Int.reduceBNe,Int.reduceLT,Int.reduceLE,t0,hw]) <;> rfl)
 ·have hn':¬ ((i + 1:Nat):Int) < (s.length:Int):=by omega
  have hwant:zxk (x :: s.drop (i + 1)) = -1:=by rw [List.drop_eq_nil_of_le (by omega)]; rfl
  have hf:=fin _ hwant
  generalize decide (x.n.right = zxk (x :: s.drop (i + 1))) = b at *
  cases b
  ·rw [Bool.false_and] at hr
   subst hr
   simp (maxSteps:=9^7) only [go_sem,↓reduceIte,reduceCtorEq,Nat.reduceEqDiff,Nat.reduceBEq,Nat.reduceAdd,Nat.reduceSub,Nat.reduceMul,Nat.reduceLT,Nat.reduceLeDiff,Nat.reduceBNe,Int.reduceBEq,Int.reduceBNe,Int.reduceLT,Int.reduceLE,t0,t3,hlt',hn',hgx,hf,hw,List.length_map,Int.toNat_natCast]
   all_goals omega
  ·rw [Bool.true_and] at hr
   simp (maxSteps:=9^7) only [go_sem,↓reduceIte,reduceCtorEq,Nat.reduceEqDiff,Nat.reduceBEq,Nat.reduceAdd,Nat.reduceSub,Nat.reduceMul,Nat.reduceLT,Nat.reduceLeDiff,Nat.reduceBNe,Int.reduceBEq,Int.reduceBNe,Int.reduceLT,Int.reduceLE,t0,t3,hlt',hn',hgx,hf,hw,List.length_map,Int.toNat_natCast]
   (repeat refine And.intro (by omega) ?_)
   refine ⟨s.length - (i + 1),by omega,i + 1,by omega,rfl,?_,?_,hr⟩
   iterate 2 focus ((simp (maxSteps:=9^7) only [go_sem,↓reduceIte,reduceCtorEq,Nat.reduceEqDiff,Nat.reduceBEq,Nat.reduceAdd,Nat.reduceSub,Nat.reduceMul,Nat.reduceLT,Nat.reduceLeDiff,Nat.reduceBNe,Int.reduceBEq,Int.reduceBNe,Int.reduceLT,Int.reduceLE,t0,hw]) <;> rfl)
def hasN (n:Nd) (k:ByteArray):Bool:=n.top || lt k n.high
theorem ygb (n:Nd) (k:ByteArray) (h1:n.high.size≤9223372036854775807) (h2:k.size≤9223372036854775807):AFn Tryz.prog 80 [n.a,.str k] (.bool (hasN n k)):=by
 refine fn_has21 rfl ?_
 have cl:=z33 k n.high h2 h1
 unfold hasN
 obtain ⟨slot,level,pivots,kids,high,top,right,seen,msgs,rows⟩:=n
 simp only at cl ⊢
 generalize lt k high = b at *
 cases top
 ·(repeat (first | simp (maxSteps:=9^7) only [go_sem,↓reduceIte,reduceCtorEq,Nat.reduceEqDiff,Nat.reduceBEq,Nat.reduceAdd,Nat.reduceSub,Nat.reduceMul,Nat.reduceLT,Nat.reduceLeDiff,Nat.reduceBNe,Int.reduceBEq,Int.reduceBNe,Int.reduceLT,Int.reduceLE] | refine z01 (cl) ?_ | refine z00 (cl) ?_ | refine And.intro (by omega) ?_ | refine And.intro (fun d hd=>by (repeat (rcases hd with rfl | hd; · exact ⟨rfl,rfl⟩)); cases hd) ?_))
  all_goals rfl
 ·(repeat (first | simp (maxSteps:=9^7) only [go_sem,↓reduceIte,reduceCtorEq,Nat.reduceEqDiff,Nat.reduceBEq,Nat.reduceAdd,Nat.reduceSub,Nat.reduceMul,Nat.reduceLT,Nat.reduceLeDiff,Nat.reduceBNe,Int.reduceBEq,Int.reduceBNe,Int.reduceLT,Int.reduceLE] | refine z01 (cl) ?_ | refine z00 (cl) ?_ | refine And.intro (by omega) ?_ | refine And.intro (fun d hd=>by (repeat (rcases hd with rfl | hd; · exact ⟨rfl,rfl⟩)); cases hd) ?_))
  all_goals rfl
def leafB (c:Cfg) (n:Nd):Bool:=decide (n.pivots.length + n.kids.length + n.msgs.length = 0) && decide ((n.rows.length:Int)≤c.leaf) && z77 n.rows && n.rows.all fun p=>hasN n p.key
def lfInv (c:Cfg) (n:Nd) (R:Bool) (k:Nat) (σ:St):Prop :=
 ∃ i:Nat,i≤n.rows.length∧k = n.rows.length - i∧σ.T 3 = .ptr 3 0 0∧σ.H 3 = some ⟨10,32,[n.a],0⟩∧σ.T 5 = .int .i64 i∧(n.rows.drop i).all (fun p=>hasN n p.key) = R
set_option maxHeartbeats 2000000 in
theorem leaf21_ok (c:Cfg) (n:Nd) (hn:n.Lt):AFn Tryz.prog 57 [c.a,n.a] (.bool (leafB c n)):=by
 refine fn_leaf21 rfl ?_
 have h1:=hn.npiv
 have h2:=hn.nkid
 have h3:=hn.nmsg
 have h4:=hn.nrow
 have c9:=rRight9_ok n.rows (by omega) (fun p hp=>by have:=(hn.rows p hp).1; omega)
 have hrow:=hn.rows
 have hhi:=hn.high
 unfold leafB
 have hw1:IntKind.i64.wrap ((n.pivots.length:Int) + (n.kids.length:Int)) = ((n.pivots.length + n.kids.length:Nat):Int):=by rw [IntWalk.i64_in _ (by omega)]; omega
 have hw2:IntKind.i64.wrap (((n.pivots.length + n.kids.length:Nat):Int) + (n.msgs.length:Int)) = ((n.pivots.length + n.kids.length + n.msgs.length:Nat):Int):=by rw [IntWalk.i64_in _ (by omega)]; omega
 obtain ⟨R,hR⟩:∃ R,n.rows.all (fun p=>hasN n p.key) = R:=⟨_,rfl⟩
 rw [hR]
 by_cases hz:n.pivots.length + n.kids.length + n.msgs.length = 0
 case neg =>
  have hz':(0:Int) < ((n.pivots.length + n.kids.length + n.msgs.length:Nat):Int):=by omega
  rw [decide_eq_false hz]
  (repeat (first | simp (maxSteps:=9^7) only [go_sem,↓reduceIte,reduceCtorEq,Nat.reduceEqDiff,Nat.reduceBEq,Nat.reduceAdd,Nat.reduceSub,Nat.reduceMul,Nat.reduceLT,Nat.reduceLeDiff,Nat.reduceBNe,Int.reduceBEq,Int.reduceBNe,Int.reduceLT,Int.reduceLE,List.length_map,hw1,hw2,hz'] | refine z01 (c9) ?_ | refine z00 (c9) ?_ | refine And.intro (by omega) ?_ | refine And.intro (fun d hd=>by (repeat (rcases hd with rfl | hd; · exact ⟨rfl,rfl⟩)); cases hd) ?_))
 have hz':¬ (0:Int) < ((n.pivots.length + n.kids.length + n.msgs.length:Nat):Int):=by omega
 rw [decide_eq_true hz]
 by_cases hl:(n.rows.length:Int)≤c.leaf
 case neg =>
  have hl':c.leaf < (n.rows.length:Int):=by omega
  rw [decide_eq_false hl]
  (repeat (first | simp (maxSteps:=9^7) only [go_sem,↓reduceIte,reduceCtorEq,Nat.reduceEqDiff,Nat.reduceBEq,Nat.reduceAdd,Nat.reduceSub,Nat.reduceMul,Nat.reduceLT,Nat.reduceLeDiff,Nat.reduceBNe,Int.reduceBEq,Int.reduceBNe,Int.reduceLT,Int.reduceLE,List.length_map,hw1,hw2,hz',hl'] | refine z01 (c9) ?_ | refine z00 (c9) ?_ | refine And.intro (by omega) ?_ | refine And.intro (fun d hd=>by (repeat (rcases hd with rfl | hd; · exact ⟨rfl,rfl⟩)); cases hd) ?_))
 have hl':¬ c.leaf < (n.rows.length:Int):=by omega
 rw [decide_eq_true hl]
 generalize z77 n.rows = br at *
 cases br
 ·(repeat (first | simp (maxSteps:=9^7) only [go_sem,↓reduceIte,reduceCtorEq,Nat.reduceEqDiff,Nat.reduceBEq,Nat.reduceAdd,Nat.reduceSub,Nat.reduceMul,Nat.reduceLT,Nat.reduceLeDiff,Nat.reduceBNe,Int.reduceBEq,Int.reduceBNe,Int.reduceLT,Int.reduceLE,List.length_map,hw1,hw2,hz',hl'] | refine z01 (c9) ?_ | refine z00 (c9) ?_ | refine And.intro (by omega) ?_ | refine And.intro (fun d hd=>by (repeat (rcases hd with rfl | hd; · exact ⟨rfl,rfl⟩)); cases hd) ?_))
 (repeat (first | simp (maxSteps:=9^7) only [go_sem,↓reduceIte,reduceCtorEq,Nat.reduceEqDiff,Nat.reduceBEq,Nat.reduceAdd,Nat.reduceSub,Nat.reduceMul,Nat.reduceLT,Nat.reduceLeDiff,Nat.reduceBNe,Int.reduceBEq,Int.reduceBNe,Int.reduceLT,Int.reduceLE,List.length_map,hw1,hw2,hz',hl'] | refine z01 (c9) ?_ | refine z00 (c9) ?_ | refine And.intro (by omega) ?_ | refine And.intro (fun d hd=>by (repeat (rcases hd with rfl | hd; · exact ⟨rfl,rfl⟩)); cases hd) ?_))
 refine z0d (lfInv c n R) (k:=n.rows.length) ⟨0,by omega,rfl,?_,?_,?_,hR⟩ ?_
 iterate 3 focus ((simp (maxSteps:=9^7) only [go_sem,↓reduceIte,reduceCtorEq,Nat.reduceEqDiff,Nat.reduceBEq,Nat.reduceAdd,Nat.reduceSub,Nat.reduceMul,Nat.reduceLT,Nat.reduceLeDiff,Nat.reduceBNe,Int.reduceBEq,Int.reduceBNe,Int.reduceLT,Int.reduceLE]) <;> rfl)
 clear hR c9
 rintro k σ ⟨i,hi,rfl,t3,hh3,t5,hr⟩
 simp only [zn0]
 simp only [Nd.a] at hh3
 by_cases hlt:i < n.rows.length
 case neg =>
  have hlt':¬ (i:Int) < (n.rows.length:Int):=by omega
  rw [List.drop_eq_nil_of_le (by omega),List.all_nil] at hr
  subst hr
  simp (maxSteps:=9^7) only [go_sem,↓reduceIte,reduceCtorEq,Nat.reduceEqDiff,Nat.reduceBEq,Nat.reduceAdd,Nat.reduceSub,Nat.reduceMul,Nat.reduceLT,Nat.reduceLeDiff,Nat.reduceBNe,Int.reduceBEq,Int.reduceBNe,Int.reduceLT,Int.reduceLE,t3,hh3,t5,hlt',List.length_map]
 have hlt':(i:Int) < (n.rows.length:Int):=by omega
 obtain ⟨p,hx⟩:=z0i hlt
 have hgx:=z0o (f:=Par.a) hx
 simp only [Par.a] at hgx
 have hw:=z1j (j:=i) (by omega)
 have ch:=ygb n p.key (by omega) (by have:=(hrow p (List.mem_of_getElem? hx)).1; omega)
 rw [z0h hx,List.all_cons] at hr
 generalize hasN n p.key = b at *
 cases b
 ·rw [Bool.false_and] at hr
  subst hr
  (repeat (first | simp (maxSteps:=9^7) only [go_sem,↓reduceIte,reduceCtorEq,Nat.reduceEqDiff,Nat.reduceBEq,Nat.reduceAdd,Nat.reduceSub,Nat.reduceMul,Nat.reduceLT,Nat.reduceLeDiff,Nat.reduceBNe,Int.reduceBEq,Int.reduceBNe,Int.reduceLT,Int.reduceLE,t3,hh3,t5,hlt',hgx,hw,List.length_map,Int.toNat_natCast] | refine z01 (ch) ?_ | refine z00 (ch) ?_ | refine And.intro (by omega) ?_ | refine And.intro (fun d hd=>by (repeat (rcases hd with rfl | hd; · exact ⟨rfl,rfl⟩)); cases hd) ?_))
  all_goals omega
 ·rw [Bool.true_and] at hr
  (repeat (first | simp (maxSteps:=9^7) only [go_sem,↓reduceIte,reduceCtorEq,Nat.reduceEqDiff,Nat.reduceBEq,Nat.reduceAdd,Nat.reduceSub,Nat.reduceMul,Nat.reduceLT,Nat.reduceLeDiff,Nat.reduceBNe,Int.reduceBEq,Int.reduceBNe,Int.reduceLT,Int.reduceLE,t3,hh3,t5,hlt',hgx,hw,List.length_map,Int.toNat_natCast] | refine z01 (ch) ?_ | refine z00 (ch) ?_ | refine And.intro (by omega) ?_ | refine And.intro (fun d hd=>by (repeat (rcases hd with rfl | hd; · exact ⟨rfl,rfl⟩)); cases hd) ?_))
  refine ⟨n.rows.length - (i + 1),by omega,i + 1,by omega,rfl,?_,?_,?_,hr⟩
  iterate 3 focus ((simp (maxSteps:=9^7) only [go_sem,↓reduceIte,reduceCtorEq,Nat.reduceEqDiff,Nat.reduceBEq,Nat.reduceAdd,Nat.reduceSub,Nat.reduceMul,Nat.reduceLT,Nat.reduceLeDiff,Nat.reduceBNe,Int.reduceBEq,Int.reduceBNe,Int.reduceLT,Int.reduceLE,t3,hh3,hw]) <;> rfl)
/-- may numbers be a tree's? -/
def cfgB (c:Cfg):Bool:=decide (4≤c.fanout∧c.fanout≤64∧2≤c.leaf∧c.leaf≤64∧36≤c.budget∧c.budget≤4096∧1≤c.slots∧c.slots≤4096∧0≤c.restarts∧c.restarts≤100)
theorem right25_ok (c:Cfg):AFn Tryz.prog 9 [c.a] (.bool (cfgB c)):=by
 refine fn_right25 rfl ?_
 unfold cfgB
 obtain ⟨f,l,b,s,r⟩:=c
 simp only
 by_cases h1:4≤f
 case neg=>rw [decide_eq_false (fun h=>h1 h.1)]; simp (maxSteps:=9^7) only [go_sem,↓reduceIte,reduceCtorEq,Nat.reduceEqDiff,Nat.reduceBEq,Nat.reduceAdd,Nat.reduceSub,Nat.reduceMul,Nat.reduceLT,Nat.reduceLeDiff,Nat.reduceBNe,Int.reduceBEq,Int.reduceBNe,Int.reduceLT,Int.reduceLE,h1]
 by_cases h2:f≤64
 case neg=>rw [decide_eq_false (fun h=>h2 h.2.1)]; simp (maxSteps:=9^7) only [go_sem,↓reduceIte,reduceCtorEq,Nat.reduceEqDiff,Nat.reduceBEq,Nat.reduceAdd,Nat.reduceSub,Nat.reduceMul,Nat.reduceLT,Nat.reduceLeDiff,Nat.reduceBNe,Int.reduceBEq,Int.reduceBNe,Int.reduceLT,Int.reduceLE,h1,h2]
 by_cases h3:2≤l
 case neg=>rw [decide_eq_false (fun h=>h3 h.2.2.1)]; simp (maxSteps:=9^7) only [go_sem,↓reduceIte,reduceCtorEq,Nat.reduceEqDiff,Nat.reduceBEq,Nat.reduceAdd,Nat.reduceSub,Nat.reduceMul,Nat.reduceLT,Nat.reduceLeDiff,Nat.reduceBNe,Int.reduceBEq,Int.reduceBNe,Int.reduceLT,Int.reduceLE,h1,h2,h3]
 by_cases h4:l≤64
 case neg=>rw [decide_eq_false (fun h=>h4 h.2.2.2.1)]; simp (maxSteps:=9^7) only [go_sem,↓reduceIte,reduceCtorEq,Nat.reduceEqDiff,Nat.reduceBEq,Nat.reduceAdd,Nat.reduceSub,Nat.reduceMul,Nat.reduceLT,Nat.reduceLeDiff,Nat.reduceBNe,Int.reduceBEq,Int.reduceBNe,Int.reduceLT,Int.reduceLE,h1,h2,h3,h4]
 by_cases h5:36≤b
 case neg=>rw [decide_eq_false (fun h=>h5 h.2.2.2.2.1)]; simp (maxSteps:=9^7) only [go_sem,↓reduceIte,reduceCtorEq,Nat.reduceEqDiff,Nat.reduceBEq,Nat.reduceAdd,Nat.reduceSub,Nat.reduceMul,Nat.reduceLT,Nat.reduceLeDiff,Nat.reduceBNe,Int.reduceBEq,Int.reduceBNe,Int.reduceLT,Int.reduceLE,h1,h2,h3,h4,h5]
 by_cases h6:b≤4096
 case neg=>rw [decide_eq_false (fun h=>h6 h.2.2.2.2.2.1)]; simp (maxSteps:=9^7) only [go_sem,↓reduceIte,reduceCtorEq,Nat.reduceEqDiff,Nat.reduceBEq,Nat.reduceAdd,Nat.reduceSub,Nat.reduceMul,Nat.reduceLT,Nat.reduceLeDiff,Nat.reduceBNe,Int.reduceBEq,Int.reduceBNe,Int.reduceLT,Int.reduceLE,h1,h2,h3,h4,h5,h6]
 by_cases h7:1≤s
 case neg=>rw [decide_eq_false (fun h=>h7 h.2.2.2.2.2.2.1)]; simp (maxSteps:=9^7) only [go_sem,↓reduceIte,reduceCtorEq,Nat.reduceEqDiff,Nat.reduceBEq,Nat.reduceAdd,Nat.reduceSub,Nat.reduceMul,Nat.reduceLT,Nat.reduceLeDiff,Nat.reduceBNe,Int.reduceBEq,Int.reduceBNe,Int.reduceLT,Int.reduceLE,h1,h2,h3,h4,h5,h6,h7]
 by_cases h8:s≤4096
 case neg=>rw [decide_eq_false (fun h=>h8 h.2.2.2.2.2.2.2.1)]; simp (maxSteps:=9^7) only [go_sem,↓reduceIte,reduceCtorEq,Nat.reduceEqDiff,Nat.reduceBEq,Nat.reduceAdd,Nat.reduceSub,Nat.reduceMul,Nat.reduceLT,Nat.reduceLeDiff,Nat.reduceBNe,Int.reduceBEq,Int.reduceBNe,Int.reduceLT,Int.reduceLE,h1,h2,h3,h4,h5,h6,h7,h8]
 by_cases h9:0≤r
 case neg=>rw [decide_eq_false (fun h=>h9 h.2.2.2.2.2.2.2.2.1)]; simp (maxSteps:=9^7) only [go_sem,↓reduceIte,reduceCtorEq,Nat.reduceEqDiff,Nat.reduceBEq,Nat.reduceAdd,Nat.reduceSub,Nat.reduceMul,Nat.reduceLT,Nat.reduceLeDiff,Nat.reduceBNe,Int.reduceBEq,Int.reduceBNe,Int.reduceLT,Int.reduceLE,h1,h2,h3,h4,h5,h6,h7,h8,h9]
 by_cases h10:r≤100
 case neg=>rw [decide_eq_false (fun h=>h10 h.2.2.2.2.2.2.2.2.2)]; simp (maxSteps:=9^7) only [go_sem,↓reduceIte,reduceCtorEq,Nat.reduceEqDiff,Nat.reduceBEq,Nat.reduceAdd,Nat.reduceSub,Nat.reduceMul,Nat.reduceLT,Nat.reduceLeDiff,Nat.reduceBNe,Int.reduceBEq,Int.reduceBNe,Int.reduceLT,Int.reduceLE,h1,h2,h3,h4,h5,h6,h7,h8,h9,h10]
 rw [decide_eq_true ⟨h1,h2,h3,h4,h5,h6,h7,h8,h9,h10⟩]
 simp (maxSteps:=9^7) only [go_sem,↓reduceIte,reduceCtorEq,Nat.reduceEqDiff,Nat.reduceBEq,Nat.reduceAdd,Nat.reduceSub,Nat.reduceMul,Nat.reduceLT,Nat.reduceLeDiff,Nat.reduceBNe,Int.reduceBEq,Int.reduceBNe,Int.reduceLT,Int.reduceLE,h1,h2,h3,h4,h5,h6,h7,h8,h9,h10]
end
section
/-
 Trees of the document: inner nodes; whether a node may be: walked.
-/
open Go.RowKit
set_option linter.unusedVariables false
set_option linter.unusedSimpArgs false
set_option maxRecDepth 100000
attribute [local go_sem ↓] z11 z0l
/-! ### percolate/percolateref21.inner -/
def z8j:List ROp:=[⟨.box 5 23 (.t 0),some 2,none,[3],[]⟩,⟨.box 10 32 (.t 1),some 3,none,[],[]⟩,⟨.mv (.c (.bool false)),some 4,none,[],[]⟩]
def zn9:Reg:=⟨[],z8j,[2,3],[],false⟩
def z8i:List ROp:=[⟨.bin .gtr (.t 44) (.t 46),some 47,(some (41,false)),[],[]⟩,⟨.pick (.t 41) (.c (.bool true)) (.t 47),some 48,none,[],[]⟩]
def z9b:List ROp:=[⟨.faddr 9 (.t 3),some 9,none,[32,38,44],[]⟩,⟨.load 1 false (.t 9),some 10,none,[32,38,44],[]⟩,⟨.len false (.t 10),some 11,none,[32,38,44],[]⟩,⟨.bin .gtr (.t 11) (.c (.int .i64 0)),some 12,none,[32,38,44],[]⟩,⟨.mv (.t 12),some 13,none,[32,38,44],[]⟩,⟨.faddr 3 (.t 3),some 14,(some (13,false)),[32,38,44],[]⟩,⟨.load 1 false (.t 14),some 15,(some (13,false)),[32,38,44],[]⟩,⟨.len false (.t 15),some 16,(some (13,false)),[32,38,44],[]⟩,⟨.bin .lss (.t 16) (.c (.int .i64 2)),some 17,(some (13,false)),[32,38,44],[]⟩,⟨.pick (.t 13) (.c (.bool true)) (.t 17),some 18,none,[32,38,44],[]⟩,⟨.mv (.t 18),some 19,none,[32,38,44],[]⟩,⟨.faddr 3 (.t 3),some 20,(some (19,false)),[32,38,44],[]⟩,⟨.load 1 false (.t 20),some 21,(some (19,false)),[32,38,44],[]⟩,⟨.len false (.t 21),some 22,(some (19,false)),[32,38,44],[]⟩,⟨.faddr 0 (.t 2),some 23,(some (19,false)),[32,38,44],[]⟩,⟨.load 1 false (.t 23),some 24,(some (19,false)),[32,38,44],[]⟩,⟨.bin .gtr (.t 22) (.t 24),some 25,(some (19,false)),[32,38,44],[]⟩,⟨.pick (.t 19) (.c (.bool true)) (.t 25),some 26,none,[32,38,44],[]⟩,⟨.mv (.t 26),some 27,none,[32,38,44],[]⟩,⟨.faddr 2 (.t 3),some 28,(some (27,false)),[32,38,44],[]⟩,⟨.load 1 false (.t 28),some 29,(some (27,false)),[32,38,44],[]⟩,⟨.faddr 3 (.t 3),some 30,(some (27,false)),[32,38,44],[]⟩,⟨.load 1 false (.t 30),some 31,(some (27,false)),[32,38,44],[]⟩,⟨.callv (.c (.clo 52 [] [])) [(.t 29),(.t 31)],some 32,(some (27,false)),[38,44],[]⟩,⟨.un .not (.t 32),some 33,(some (27,false)),[38,44],[]⟩,⟨.pick (.t 27) (.c (.bool true)) (.t 33),some 34,none,[38,44],[]⟩,⟨.mv (.t 34),some 35,none,[38,44],[]⟩,⟨.faddr 8 (.t 3),some 36,(some (35,false)),[38,44],[]⟩,⟨.load 1 false (.t 36),some 37,(some (35,false)),[38,44],[]⟩,⟨.callv (.c (.clo 81 [] [])) [(.t 37)],some 38,(some (35,false)),[44],[]⟩,⟨.un .not (.t 38),some 39,(some (35,false)),[44],[]⟩,⟨.pick (.t 35) (.c (.bool true)) (.t 39),some 40,none,[44],[]⟩,⟨.mv (.t 40),some 41,none,[44],[]⟩,⟨.faddr 8 (.t 3),some 42,(some (41,false)),[44],[]⟩,⟨.load 1 false (.t 42),some 43,(some (41,false)),[44],[]⟩,⟨.callv (.c (.clo 82 [] [])) [(.t 43)],some 44,(some (41,false)),[],[]⟩,⟨.faddr 2 (.t 2),some 45,(some (41,false)),[44],[]⟩,⟨.load 1 false (.t 45),some 46,(some (41,false)),[44],[]⟩]
def zn8:Reg:=⟨z9b,z8i,[32,38,44],[],true⟩
def zn7:Reg:=⟨[],[⟨.mv (.c (.bool false)),some 4,none,[],[]⟩],[],[],false⟩
def zn6:Reg:=⟨[],[⟨.mv (.c (.int .i64 0)),some 5,none,[],[]⟩],[],[],false⟩
def z8h:List ROp:=[⟨.mv (.t 5),some 49,none,[],[]⟩,⟨.faddr 3 (.t 3),some 50,none,[],[]⟩,⟨.load 1 false (.t 50),some 51,none,[],[]⟩,⟨.len false (.t 51),some 52,none,[],[]⟩,⟨.bin .lss (.t 49) (.t 52),some 53,none,[],[]⟩]
def zn5:Reg:=⟨[],z8h,[],[],false⟩
def z8g:List ROp:=[⟨.faddr 3 (.t 3),some 56,none,[],[]⟩,⟨.load 1 false (.t 56),some 57,none,[],[]⟩,⟨.mv (.t 5),some 58,none,[],[]⟩,⟨.iaddr 1 (.t 57) (.t 58),some 59,none,[],[]⟩,⟨.load 1 false (.t 59),some 60,none,[],[]⟩,⟨.bin .lss (.t 60) (.c (.int .i64 0)),some 61,none,[],[]⟩]
def zn4:Reg:=⟨[],z8g,[],[],false⟩
def zn3:Reg:=⟨[],[⟨.mv (.c (.bool false)),some 4,none,[],[]⟩],[],[],false⟩
def z8f:List ROp:=[⟨.mv (.t 5),some 54,none,[],[]⟩,⟨.bin .add (.t 54) (.c (.int .i64 1)),some 55,none,[],[]⟩,⟨.mv (.t 55),some 5,none,[],[]⟩]
def zn2:Reg:=⟨[],z8f,[],[],false⟩
def z62:IR:=(.seq (.seq (.reg zn5)
 (.cond (.t 53) .skip
 (.exit 0)))
 (.seq (.block 1 (.seq (.reg zn4)
 (.cond (.t 61) (.seq (.reg zn3)
 .ret)
 .skip)))
 (.reg zn2)))
def zn1:Reg:=⟨[],[⟨.mv (.c (.int .i64 0)),some 6,none,[],[]⟩],[],[],false⟩
def z5x:List ROp:=[⟨.mv (.t 6),some 62,none,[],[]⟩,⟨.faddr 2 (.t 3),some 63,none,[],[]⟩,⟨.load 1 false (.t 63),some 64,none,[],[]⟩,⟨.len false (.t 64),some 65,none,[],[]⟩,⟨.bin .lss (.t 62) (.t 65),some 66,none,[],[]⟩]
def zg7:Reg:=⟨[],z5x,[],[],false⟩
def z5w:List ROp:=[⟨.callv (.c (.clo 80 [] [])) [(.t 85),(.t 90)],some 91,(some (84,false)),[],[]⟩,⟨.un .not (.t 91),some 92,(some (84,false)),[],[]⟩,⟨.pick (.t 84) (.c (.bool true)) (.t 92),some 93,none,[],[]⟩]
def z6c:List ROp:=[⟨.faddr 2 (.t 3),some 69,none,[91],[]⟩,⟨.load 1 false (.t 69),some 70,none,[91],[]⟩,⟨.mv (.t 6),some 71,none,[91],[]⟩,⟨.iaddr 1 (.t 70) (.t 71),some 72,none,[91],[]⟩,⟨.load 1 false (.t 72),some 73,none,[91],[]⟩,⟨.bin .eql (.t 73) (.c (.str ⟨#[]⟩)),some 74,none,[91],[]⟩,⟨.mv (.t 74),some 75,none,[91],[]⟩,⟨.faddr 2 (.t 3),some 76,(some (75,false)),[91],[]⟩,⟨.load 1 false (.t 76),some 77,(some (75,false)),[91],[]⟩,⟨.mv (.t 6),some 78,(some (75,false)),[91],[]⟩,⟨.iaddr 1 (.t 77) (.t 78),some 79,(some (75,false)),[91],[]⟩,⟨.load 1 false (.t 79),some 80,(some (75,false)),[91],[]⟩,⟨.len true (.t 80),some 81,(some (75,false)),[91],[]⟩,⟨.bin .gtr (.t 81) (.c (.int .i64 16)),some 82,(some (75,false)),[91],[]⟩,⟨.pick (.t 75) (.c (.bool true)) (.t 82),some 83,none,[91],[]⟩,⟨.mv (.t 83),some 84,none,[91],[]⟩,⟨.load 10 true (.t 3),some 85,(some (84,false)),[91],[]⟩,⟨.faddr 2 (.t 3),some 86,(some (84,false)),[91],[]⟩,⟨.load 1 false (.t 86),some 87,(some (84,false)),[91],[]⟩,⟨.mv (.t 6),some 88,(some (84,false)),[91],[]⟩,⟨.iaddr 1 (.t 87) (.t 88),some 89,(some (84,false)),[91],[]⟩,⟨.load 1 false (.t 89),some 90,(some (84,false)),[91],[]⟩]
def zg6:Reg:=⟨z6c,z5w,[91],[],true⟩
def zg5:Reg:=⟨[],[⟨.mv (.c (.bool false)),some 4,none,[],[]⟩],[],[],false⟩
def z5v:List ROp:=[⟨.mv (.t 6),some 67,none,[],[]⟩,⟨.bin .add (.t 67) (.c (.int .i64 1)),some 68,none,[],[]⟩,⟨.mv (.t 68),some 6,none,[],[]⟩]
def zg4:Reg:=⟨[],z5v,[],[],false⟩
def z58:IR:=(.seq (.seq (.reg zg7)
 (.cond (.t 66) .skip
 (.exit 2)))
 (.seq (.block 3 (.seq (.reg zg6)
 (.cond (.t 93) (.seq (.reg zg5)
 .ret)
 .skip)))
 (.reg zg4)))
def zg3:Reg:=⟨[],[⟨.mv (.c (.int .i64 0)),some 7,none,[],[]⟩],[],[],false⟩
def z5u:List ROp:=[⟨.mv (.t 7),some 94,none,[],[]⟩,⟨.faddr 8 (.t 3),some 95,none,[],[]⟩,⟨.load 1 false (.t 95),some 96,none,[],[]⟩,⟨.len false (.t 96),some 97,none,[],[]⟩,⟨.bin .lss (.t 94) (.t 97),some 98,none,[],[]⟩]
def zg2:Reg:=⟨[],z5u,[],[],false⟩
def z5t:List ROp:=[⟨.faddr 8 (.t 3),some 101,none,[106,8],[]⟩,⟨.load 1 false (.t 101),some 102,none,[106,8],[]⟩,⟨.mv (.t 7),some 103,none,[106,8],[]⟩,⟨.iaddr 6 (.t 102) (.t 103),some 104,none,[106,8],[]⟩,⟨.load 6 true (.t 104),some 105,none,[106,8],[]⟩,⟨.callv (.c (.clo 60 [] [])) [(.t 105)],some 106,none,[8],[]⟩,⟨.alloc 3 67 (.agg [(.str ⟨#[]⟩),(.str ⟨#[]⟩),(.bool false)]),some 8,none,[],[]⟩,⟨.store 3 (.t 8) (.t 106),none,none,[],[]⟩]
def zg1:Reg:=⟨[],z5t,[106,8],[],false⟩
def z5s:List ROp:=[⟨.callv (.c (.clo 77 [] [])) [(.t 125),(.t 127)],some 128,(some (123,false)),[],[]⟩,⟨.pick (.t 123) (.c (.bool true)) (.t 128),some 129,(some (120,true)),[],[]⟩,⟨.pick (.t 120) (.t 129) (.c (.bool false)),some 130,(some (116,false)),[],[]⟩,⟨.pick (.t 116) (.c (.bool true)) (.t 130),some 131,none,[],[]⟩]
def z6b:List ROp:=[⟨.faddr 8 (.t 3),some 107,none,[128],[]⟩,⟨.load 1 false (.t 107),some 108,none,[128],[]⟩,⟨.mv (.t 7),some 109,none,[128],[]⟩,⟨.iaddr 6 (.t 108) (.t 109),some 110,none,[128],[]⟩,⟨.faddr 0 (.t 110),some 111,none,[128],[]⟩,⟨.load 1 false (.t 111),some 112,none,[128],[]⟩,⟨.faddr 7 (.t 3),some 113,none,[128],[]⟩,⟨.load 1 false (.t 113),some 114,none,[128],[]⟩,⟨.bin .gtr (.t 112) (.t 114),some 115,none,[128],[]⟩,⟨.mv (.t 115),some 116,none,[128],[]⟩,⟨.faddr 5 (.t 3),some 117,(some (116,false)),[128],[]⟩,⟨.load 1 false (.t 117),some 118,(some (116,false)),[128],[]⟩,⟨.un .not (.t 118),some 119,(some (116,false)),[128],[]⟩,⟨.mv (.t 119),some 120,(some (116,false)),[128],[]⟩,⟨.faddr 2 (.t 8),some 121,(some (120,true)),[128],[]⟩,⟨.load 1 false (.t 121),some 122,(some (120,true)),[128],[]⟩,⟨.mv (.t 122),some 123,(some (120,true)),[128],[]⟩,⟨.faddr 4 (.t 3),some 124,(some (123,false)),[128],[]⟩,⟨.load 1 false (.t 124),some 125,(some (123,false)),[128],[]⟩,⟨.faddr 1 (.t 8),some 126,(some (123,false)),[128],[]⟩,⟨.load 1 false (.t 126),some 127,(some (123,false)),[128],[]⟩]
def zg0:Reg:=⟨z6b,z5s,[128],[],true⟩
def zfz:Reg:=⟨[],[⟨.mv (.c (.bool false)),some 4,none,[],[]⟩],[],[],false⟩
def z5r:List ROp:=[⟨.mv (.t 7),some 99,none,[],[]⟩,⟨.bin .add (.t 99) (.c (.int .i64 1)),some 100,none,[],[]⟩,⟨.mv (.t 100),some 7,none,[],[]⟩]
def zfy:Reg:=⟨[],z5r,[],[],false⟩
def z57:IR:=(.seq (.seq (.reg zg2)
 (.cond (.t 98) .skip
 (.exit 4)))
 (.seq (.block 5 (.seq (.reg zg1)
 (.seq (.reg zg0)
 (.cond (.t 131) (.seq (.reg zfz)
 .ret)
 .skip))))
 (.reg zfy)))
def zfx:Reg:=⟨[],[⟨.mv (.c (.bool true)),some 4,none,[],[]⟩],[],[],false⟩
def zx8:IR:=(.seq (.reg zn9)
 (.seq (.seq (.reg zn8)
 (.cond (.t 48) (.seq (.reg zn7)
 .ret)
 .skip))
 (.seq (.seq (.reg zn6)
 (.block 0 (.loop z62)))
 (.seq (.seq (.reg zn1)
 (.block 2 (.loop z58)))
 (.seq (.seq (.reg zg3)
 (.block 4 (.loop z57)))
 (.seq (.reg zfx)
 .ret))))))
def zk9:List RDesc:=[(.tmp 4)]
theorem yc3:EqR zn9 z8j [2,3]:=fun _ _ _=>rfl
theorem yc2 (C:FuncId->List AV->AV->Prop) (σ:St) (K:St->Prop):z0k C zn8 σ K = z08 C [] z8i z9b (σ.kills [32,38,44]) K:=rfl
theorem yc1:EqR zn7 [⟨.mv (.c (.bool false)),some 4,none,[],[]⟩] []:=fun _ _ _=>rfl
theorem yc0:EqR zn6 [⟨.mv (.c (.int .i64 0)),some 5,none,[],[]⟩] []:=fun _ _ _=>rfl
theorem ybz:EqR zn5 z8h []:=fun _ _ _=>rfl
theorem yby:EqR zn4 z8g []:=fun _ _ _=>rfl
theorem ybx:EqR zn3 [⟨.mv (.c (.bool false)),some 4,none,[],[]⟩] []:=fun _ _ _=>rfl
theorem ybw:EqR zn2 z8f []:=fun _ _ _=>rfl
theorem ybv:EqR zn1 [⟨.mv (.c (.int .i64 0)),some 6,none,[],[]⟩] []:=fun _ _ _=>rfl
theorem y85:EqR zg7 z5x []:=fun _ _ _=>rfl
theorem y84 (C:FuncId->List AV->AV->Prop) (σ:St) (K:St->Prop):z0k C zg6 σ K = z08 C [] z5w z6c (σ.kills [91]) K:=rfl
theorem y83:EqR zg5 [⟨.mv (.c (.bool false)),some 4,none,[],[]⟩] []:=fun _ _ _=>rfl
theorem y82:EqR zg4 z5v []:=fun _ _ _=>rfl
theorem y81:EqR zg3 [⟨.mv (.c (.int .i64 0)),some 7,none,[],[]⟩] []:=fun _ _ _=>rfl
theorem y80:EqR zg2 z5u []:=fun _ _ _=>rfl
theorem y7z:EqR zg1 z5t [106,8]:=fun _ _ _=>rfl
theorem y7y (C:FuncId->List AV->AV->Prop) (σ:St) (K:St->Prop):z0k C zg0 σ K = z08 C [] z5s z6b (σ.kills [128]) K:=rfl
theorem y7x:EqR zfz [⟨.mv (.c (.bool false)),some 4,none,[],[]⟩] []:=fun _ _ _=>rfl
theorem y7w:EqR zfy z5r []:=fun _ _ _=>rfl
theorem y7v:EqR zfx [⟨.mv (.c (.bool true)),some 4,none,[],[]⟩] []:=fun _ _ _=>rfl
theorem fn_inner21 {args:List AV} {r:AV} (ha:args.length.ble Tryz.f58.ntmps = true) (h:run (AFn Tryz.prog) zx8 (endQ zk9 r) (z0b args)):AFn Tryz.prog 58 args r :=
 AFn.of_code (pv:=false) (hint:=fun _=>[]) (c:=Tryz.f58.body.getD .skip) (by kernel_rfl) (by kernel_rfl) Tryz.func58 (by kernel_rfl) (by kernel_rfl) (by kernel_rfl) (of_decide_eq_true (by kernel_rfl)) (Nat.le_of_ble_eq_true ha) (Nat.le_of_ble_eq_true (by kernel_rfl)) (z0c h)
/-! ### percolate/percolateref21.Right -/
def z4q:List ROp:=[⟨.box 5 23 (.t 0),some 2,none,[3],[]⟩,⟨.box 10 32 (.t 1),some 3,none,[],[]⟩,⟨.mv (.c (.bool false)),some 4,none,[],[]⟩]
def zky:Reg:=⟨[],z4q,[2,3],[],false⟩
def z4p:List ROp:=[⟨.faddr 0 (.t 3),some 5,none,[],[]⟩,⟨.load 1 false (.t 5),some 6,none,[],[]⟩,⟨.bin .lss (.t 6) (.c (.int .i64 0)),some 7,none,[],[]⟩,⟨.mv (.t 7),some 8,none,[],[]⟩,⟨.faddr 1 (.t 3),some 9,(some (8,false)),[],[]⟩,⟨.load 1 false (.t 9),some 10,(some (8,false)),[],[]⟩,⟨.bin .lss (.t 10) (.c (.int .i64 0)),some 11,(some (8,false)),[],[]⟩,⟨.pick (.t 8) (.c (.bool true)) (.t 11),some 12,none,[],[]⟩,⟨.mv (.t 12),some 13,none,[],[]⟩,⟨.faddr 7 (.t 3),some 14,(some (13,false)),[],[]⟩,⟨.load 1 false (.t 14),some 15,(some (13,false)),[],[]⟩,⟨.bin .lss (.t 15) (.c (.int .i64 0)),some 16,(some (13,false)),[],[]⟩,⟨.pick (.t 13) (.c (.bool true)) (.t 16),some 17,none,[],[]⟩,⟨.mv (.t 17),some 18,none,[],[]⟩,⟨.faddr 5 (.t 3),some 19,(some (18,false)),[],[]⟩,⟨.load 1 false (.t 19),some 20,(some (18,false)),[],[]⟩,⟨.mv (.t 20),some 21,(some (18,false)),[],[]⟩,⟨.faddr 4 (.t 3),some 22,(some (21,true)),[],[]⟩,⟨.load 1 false (.t 22),some 23,(some (21,true)),[],[]⟩,⟨.bin .neq (.t 23) (.c (.str ⟨#[]⟩)),some 24,(some (21,true)),[],[]⟩,⟨.mv (.t 24),some 25,(some (21,true)),[],[]⟩,⟨.faddr 6 (.t 3),some 26,(some (25,false)),[],[]⟩,⟨.load 1 false (.t 26),some 27,(some (25,false)),[],[]⟩,⟨.bin .neq (.t 27) (.c (.int .i64 (-1))),some 28,(some (25,false)),[],[]⟩,⟨.pick (.t 25) (.c (.bool true)) (.t 28),some 29,(some (21,true)),[],[]⟩,⟨.pick (.t 21) (.t 29) (.c (.bool false)),some 30,(some (18,false)),[],[]⟩,⟨.pick (.t 18) (.c (.bool true)) (.t 30),some 31,none,[],[]⟩]
def zkx:Reg:=⟨[],z4p,[],[],false⟩
def zkw:Reg:=⟨[],[⟨.mv (.c (.bool false)),some 4,none,[],[]⟩],[],[],false⟩
def z4o:List ROp:=[⟨.faddr 5 (.t 3),some 32,none,[],[]⟩,⟨.load 1 false (.t 32),some 33,none,[],[]⟩,⟨.un .not (.t 33),some 34,none,[],[]⟩,⟨.mv (.t 34),some 35,none,[],[]⟩,⟨.faddr 4 (.t 3),some 36,(some (35,true)),[],[]⟩,⟨.load 1 false (.t 36),some 37,(some (35,true)),[],[]⟩,⟨.bin .eql (.t 37) (.c (.str ⟨#[]⟩)),some 38,(some (35,true)),[],[]⟩,⟨.mv (.t 38),some 39,(some (35,true)),[],[]⟩,⟨.faddr 4 (.t 3),some 40,(some (39,false)),[],[]⟩,⟨.load 1 false (.t 40),some 41,(some (39,false)),[],[]⟩,⟨.len true (.t 41),some 42,(some (39,false)),[],[]⟩,⟨.bin .gtr (.t 42) (.c (.int .i64 16)),some 43,(some (39,false)),[],[]⟩,⟨.pick (.t 39) (.c (.bool true)) (.t 43),some 44,(some (35,true)),[],[]⟩,⟨.mv (.t 44),some 45,(some (35,true)),[],[]⟩,⟨.faddr 6 (.t 3),some 46,(some (45,false)),[],[]⟩,⟨.load 1 false (.t 46),some 47,(some (45,false)),[],[]⟩,⟨.bin .lss (.t 47) (.c (.int .i64 0)),some 48,(some (45,false)),[],[]⟩,⟨.pick (.t 45) (.c (.bool true)) (.t 48),some 49,(some (35,true)),[],[]⟩,⟨.pick (.t 35) (.t 49) (.c (.bool false)),some 50,none,[],[]⟩]
def zkv:Reg:=⟨[],z4o,[],[],false⟩
def zku:Reg:=⟨[],[⟨.mv (.c (.bool false)),some 4,none,[],[]⟩],[],[],false⟩
def z4n:List ROp:=[⟨.faddr 1 (.t 3),some 51,none,[],[]⟩,⟨.load 1 false (.t 51),some 52,none,[],[]⟩,⟨.bin .eql (.t 52) (.c (.int .i64 0)),some 53,none,[],[]⟩]
def zkt:Reg:=⟨[],z4n,[],[],false⟩
def z4m:List ROp:=[⟨.load 5 true (.t 2),some 54,none,[56],[]⟩,⟨.load 10 true (.t 3),some 55,none,[56],[]⟩,⟨.callv (.c (.clo 57 [] [])) [(.t 54),(.t 55)],some 56,none,[],[]⟩,⟨.mv (.t 56),some 4,none,[],[]⟩]
def zks:Reg:=⟨[],z4m,[56],[],false⟩
def z4l:List ROp:=[⟨.load 5 true (.t 2),some 57,none,[59],[]⟩,⟨.load 10 true (.t 3),some 58,none,[59],[]⟩,⟨.callv (.c (.clo 58 [] [])) [(.t 57),(.t 58)],some 59,none,[],[]⟩,⟨.mv (.t 59),some 4,none,[],[]⟩]
def zkr:Reg:=⟨[],z4l,[59],[],false⟩
def zeh:IR:=(.seq (.reg zky)
 (.seq (.seq (.reg zkx)
 (.cond (.t 31) (.seq (.reg zkw)
 .ret)
 .skip))
 (.seq (.seq (.reg zkv)
 (.cond (.t 50) (.seq (.reg zku)
 .ret)
 .skip))
 (.seq (.seq (.reg zkt)
 (.cond (.t 53) (.seq (.reg zks)
 .ret)
 .skip))
 (.seq (.reg zkr)
 .ret)))))
def z8p:List RDesc:=[(.tmp 4)]
theorem zoo:EqR zky z4q [2,3]:=fun _ _ _=>rfl
theorem zon:EqR zkx z4p []:=fun _ _ _=>rfl
theorem zom:EqR zkw [⟨.mv (.c (.bool false)),some 4,none,[],[]⟩] []:=fun _ _ _=>rfl
theorem zol:EqR zkv z4o []:=fun _ _ _=>rfl
theorem zok:EqR zku [⟨.mv (.c (.bool false)),some 4,none,[],[]⟩] []:=fun _ _ _=>rfl
theorem zoj:EqR zkt z4n []:=fun _ _ _=>rfl
theorem zoi:EqR zks z4m [56]:=fun _ _ _=>rfl
theorem zoh:EqR zkr z4l [59]:=fun _ _ _=>rfl
theorem fn_right21 {args:List AV} {r:AV} (ha:args.length.ble Tryz.f30.ntmps = true) (h:run (AFn Tryz.prog) zeh (endQ z8p r) (z0b args)):AFn Tryz.prog 30 args r :=
 AFn.of_code (pv:=false) (hint:=fun _=>[]) (c:=Tryz.f30.body.getD .skip) (by kernel_rfl) (by kernel_rfl) Tryz.func30 (by kernel_rfl) (by kernel_rfl) (by kernel_rfl) (of_decide_eq_true (by kernel_rfl)) (Nat.le_of_ble_eq_true ha) (Nat.le_of_ble_eq_true (by kernel_rfl)) (z0c h)
attribute [local go_sem ↓] zx8
attribute [local go_sem] zk9 yc3 z8j yc2 z8i z9b yc1 yc0 ybz z8h yby z8g ybx ybw z8f ybv y85 z5x y84 z5w z6c y83 y82 z5v y81 y80 z5u y7z z5t y7y z5s z6b y7x y7w z5r y7v
attribute [local go_sem ↓] zeh
attribute [local go_sem] z8p zoo z4q zon z4p zom zol z4o zok zoj z4n zoi z4m zoh z4l
def pvB (n:Nd) (p:ByteArray):Bool:=!(p.toList == (⟨#[]⟩:ByteArray).toList) && decide ((p.size:Int)≤16) && hasN n p
def msB (n:Nd) (m:Msg):Bool:=decide (m.stamp≤n.seen) && !(!n.top && (m.span.op || lt n.high m.span.hi))
def yg6 (c:Cfg) (n:Nd):Bool:=decide (n.rows.length = 0) && decide (2≤n.kids.length) && decide ((n.kids.length:Int)≤c.fanout) && zk0 n.pivots n.kids && z28 n.msgs && decide ((z32 n.msgs:Int)≤c.budget) && (n.kids.all (fun k=>decide (0≤k)) && n.pivots.all (pvB n) && n.msgs.all (msB n))
def z5a (n:Nd) (t:Nat) (len:Nat) (A:Nat->Bool) (R:Bool) (k:Nat) (σ:St):Prop :=
 ∃ i:Nat,i≤len∧k = len - i∧σ.T 3 = .ptr 3 0 0∧σ.H 3 = some ⟨10,32,[n.a],0⟩∧σ.T t = .int .i64 i∧A i = R
theorem kids_loop (n:Nd) (hn:n.kids.length≤2000) (R:Bool) (Q:XK->St->Prop) (hEnd:∀ σ,R = true->σ.T 3 = .ptr 3 0 0->σ.H 3 = some ⟨10,32,[n.a],0⟩->Q (.exit 0) σ)
  (hRet:∀ σ,R = false->σ.T 4 = .bool false->Q .ret σ) (k:Nat) (σ:St) (hI:z5a n 5 n.kids.length (fun i=>(n.kids.drop i).all fun k=>decide (0≤k)) R k σ) :
  run (AFn Tryz.prog) z62 (z30 (fun σ'=>∃ m,m < k∧z5a n 5 n.kids.length (fun i=>(n.kids.drop i).all fun k=>decide (0≤k)) R m σ') Q) σ:=by
 obtain ⟨i,hi,rfl,t3,h3,t5,hr⟩:=hI
 simp only [z62]
 have h3':=h3
 simp only [Nd.a] at h3'
 by_cases hlt:i < n.kids.length
 case neg =>
  have hlt':¬ (i:Int) < (n.kids.length:Int):=by omega
  simp only at hr
  rw [List.drop_eq_nil_of_le (by omega),List.all_nil] at hr
  subst hr
  simp (maxSteps:=9^7) only [go_sem,↓reduceIte,reduceCtorEq,Nat.reduceEqDiff,Nat.reduceBEq,Nat.reduceAdd,Nat.reduceSub,Nat.reduceMul,Nat.reduceLT,Nat.reduceLeDiff,Nat.reduceBNe,Int.reduceBEq,Int.reduceBNe,Int.reduceLT,Int.reduceLE,t3,h3',t5,hlt',List.length_map]
  refine hEnd _ rfl ?_ ?_
  iterate 2 focus ((simp (maxSteps:=9^7) only [go_sem,↓reduceIte,reduceCtorEq,Nat.reduceEqDiff,Nat.reduceBEq,Nat.reduceAdd,Nat.reduceSub,Nat.reduceMul,Nat.reduceLT,Nat.reduceLeDiff,Nat.reduceBNe,Int.reduceBEq,Int.reduceBNe,Int.reduceLT,Int.reduceLE,t3,h3]) <;> rfl)
 have hlt':(i:Int) < (n.kids.length:Int):=by omega
 obtain ⟨x,hx⟩:=z0i hlt
 have hgx:=z0o (f:=AV.int .i64) hx
 have hw:=z1j (j:=i) (by omega)
 simp only at hr
 rw [z0h hx,List.all_cons] at hr
 by_cases hneg:x < 0
 ·rw [decide_eq_false (by omega),Bool.false_and] at hr
  subst hr
  simp (maxSteps:=9^7) only [go_sem,↓reduceIte,reduceCtorEq,Nat.reduceEqDiff,Nat.reduceBEq,Nat.reduceAdd,Nat.reduceSub,Nat.reduceMul,Nat.reduceLT,Nat.reduceLeDiff,Nat.reduceBNe,Int.reduceBEq,Int.reduceBNe,Int.reduceLT,Int.reduceLE,t3,h3',t5,hlt',hgx,hneg,List.length_map,Int.toNat_natCast]
  (repeat refine And.intro (by omega) ?_)
  refine hRet _ rfl ?_
  simp (maxSteps:=9^7) only [go_sem,↓reduceIte,reduceCtorEq,Nat.reduceEqDiff,Nat.reduceBEq,Nat.reduceAdd,Nat.reduceSub,Nat.reduceMul,Nat.reduceLT,Nat.reduceLeDiff,Nat.reduceBNe,Int.reduceBEq,Int.reduceBNe,Int.reduceLT,Int.reduceLE]
 ·rw [decide_eq_true (by omega),Bool.true_and] at hr
  simp (maxSteps:=9^7) only [go_sem,↓reduceIte,reduceCtorEq,Nat.reduceEqDiff,Nat.reduceBEq,Nat.reduceAdd,Nat.reduceSub,Nat.reduceMul,Nat.reduceLT,Nat.reduceLeDiff,Nat.reduceBNe,Int.reduceBEq,Int.reduceBNe,Int.reduceLT,Int.reduceLE,t3,h3',t5,hlt',hgx,hneg,hw,List.length_map,Int.toNat_natCast]
  (repeat refine And.intro (by omega) ?_)
  refine ⟨n.kids.length - (i + 1),by omega,i + 1,by omega,rfl,?_,?_,?_,hr⟩
  iterate 3 focus ((simp (maxSteps:=9^7) only [go_sem,↓reduceIte,reduceCtorEq,Nat.reduceEqDiff,Nat.reduceBEq,Nat.reduceAdd,Nat.reduceSub,Nat.reduceMul,Nat.reduceLT,Nat.reduceLeDiff,Nat.reduceBNe,Int.reduceBEq,Int.reduceBNe,Int.reduceLT,Int.reduceLE,t3,h3,hw]) <;> rfl)
set_option maxHeartbeats 2000000 in
theorem y93 (n:Nd) (hn:n.Lt) (R:Bool) (Q:XK->St->Prop) (hEnd:∀ σ,R = true->σ.T 3 = .ptr 3 0 0->σ.H 3 = some ⟨10,32,[n.a],0⟩->Q (.exit 2) σ)
  (hRet:∀ σ,R = false->σ.T 4 = .bool false->Q .ret σ) (k:Nat) (σ:St) (hI:z5a n 6 n.pivots.length (fun i=>(n.pivots.drop i).all (pvB n)) R k σ) :
  run (AFn Tryz.prog) z58 (z30 (fun σ'=>∃ m,m < k∧z5a n 6 n.pivots.length (fun i=>(n.pivots.drop i).all (pvB n)) R m σ') Q) σ:=by
 obtain ⟨i,hi,rfl,t3,h3,t6,hr⟩:=hI
 simp only [z58]
 have h3':=h3
 simp only [Nd.a] at h3'
 have hnp:=hn.npiv
 by_cases hlt:i < n.pivots.length
 case neg =>
  have hlt':¬ (i:Int) < (n.pivots.length:Int):=by omega
  simp only at hr
  rw [List.drop_eq_nil_of_le (by omega),List.all_nil] at hr
  subst hr
  simp (maxSteps:=9^7) only [go_sem,↓reduceIte,reduceCtorEq,Nat.reduceEqDiff,Nat.reduceBEq,Nat.reduceAdd,Nat.reduceSub,Nat.reduceMul,Nat.reduceLT,Nat.reduceLeDiff,Nat.reduceBNe,Int.reduceBEq,Int.reduceBNe,Int.reduceLT,Int.reduceLE,t3,h3',t6,hlt',List.length_map]
  refine hEnd _ rfl ?_ ?_
  iterate 2 focus ((simp (maxSteps:=9^7) only [go_sem,↓reduceIte,reduceCtorEq,Nat.reduceEqDiff,Nat.reduceBEq,Nat.reduceAdd,Nat.reduceSub,Nat.reduceMul,Nat.reduceLT,Nat.reduceLeDiff,Nat.reduceBNe,Int.reduceBEq,Int.reduceBNe,Int.reduceLT,Int.reduceLE,t3,h3]) <;> rfl)
 have hlt':(i:Int) < (n.pivots.length:Int):=by omega
 obtain ⟨x,hx⟩:=z0i hlt
 have hgx:=z0o (f:=AV.str) hx
 have hw:=z1j (j:=i) (by omega)
 have ch:=ygb n x (by have:=hn.high; omega) (by have:=hn.piv x (List.mem_of_getElem? hx); omega)
 simp only at hr
 rw [z0h hx,List.all_cons] at hr
 unfold pvB at hr
 generalize hasN n x = b3 at *
 cases b1:(x.toList == (⟨#[]⟩:ByteArray).toList)
 case true =>
  rw [b1] at hr
  simp only [Bool.not_true,Bool.false_and] at hr
  subst hr
  (repeat (first | simp (maxSteps:=9^7) only [go_sem,↓reduceIte,reduceCtorEq,Nat.reduceEqDiff,Nat.reduceBEq,Nat.reduceAdd,Nat.reduceSub,Nat.reduceMul,Nat.reduceLT,Nat.reduceLeDiff,Nat.reduceBNe,Int.reduceBEq,Int.reduceBNe,Int.reduceLT,Int.reduceLE,t3,h3',t6,hlt',hgx,b1,List.length_map,Int.toNat_natCast] | refine z01 (ch) ?_ | refine z00 (ch) ?_ | refine And.intro (by omega) ?_ | refine And.intro (fun d hd=>by (repeat (rcases hd with rfl | hd; · exact ⟨rfl,rfl⟩)); cases hd) ?_))
  all_goals (repeat refine And.intro (by omega) ?_)
  refine hRet _ rfl ?_
  simp (maxSteps:=9^7) only [go_sem,↓reduceIte,reduceCtorEq,Nat.reduceEqDiff,Nat.reduceBEq,Nat.reduceAdd,Nat.reduceSub,Nat.reduceMul,Nat.reduceLT,Nat.reduceLeDiff,Nat.reduceBNe,Int.reduceBEq,Int.reduceBNe,Int.reduceLT,Int.reduceLE]
 rw [b1] at hr
 by_cases h16:(16:Int) < (x.size:Int)
 ·rw [decide_eq_false (by omega)] at hr
  simp only [Bool.and_false,Bool.false_and] at hr
  subst hr
  (repeat (first | simp (maxSteps:=9^7) only [go_sem,↓reduceIte,reduceCtorEq,Nat.reduceEqDiff,Nat.reduceBEq,Nat.reduceAdd,Nat.reduceSub,Nat.reduceMul,Nat.reduceLT,Nat.reduceLeDiff,Nat.reduceBNe,Int.reduceBEq,Int.reduceBNe,Int.reduceLT,Int.reduceLE,t3,h3',t6,hlt',hgx,b1,h16,List.length_map,Int.toNat_natCast] | refine z01 (ch) ?_ | refine z00 (ch) ?_ | refine And.intro (by omega) ?_ | refine And.intro (fun d hd=>by (repeat (rcases hd with rfl | hd; · exact ⟨rfl,rfl⟩)); cases hd) ?_))
  all_goals (repeat refine And.intro (by omega) ?_)
  refine hRet _ rfl ?_
  simp (maxSteps:=9^7) only [go_sem,↓reduceIte,reduceCtorEq,Nat.reduceEqDiff,Nat.reduceBEq,Nat.reduceAdd,Nat.reduceSub,Nat.reduceMul,Nat.reduceLT,Nat.reduceLeDiff,Nat.reduceBNe,Int.reduceBEq,Int.reduceBNe,Int.reduceLT,Int.reduceLE]
 rw [decide_eq_true (by omega)] at hr
 cases b3
 ·simp only [Bool.and_false,Bool.false_and] at hr
  subst hr
  (repeat (first | simp (maxSteps:=9^7) only [go_sem,↓reduceIte,reduceCtorEq,Nat.reduceEqDiff,Nat.reduceBEq,Nat.reduceAdd,Nat.reduceSub,Nat.reduceMul,Nat.reduceLT,Nat.reduceLeDiff,Nat.reduceBNe,Int.reduceBEq,Int.reduceBNe,Int.reduceLT,Int.reduceLE,t3,h3',t6,hlt',hgx,b1,h16,List.length_map,Int.toNat_natCast] | refine z01 (ch) ?_ | refine z00 (ch) ?_ | refine And.intro (by omega) ?_ | refine And.intro (fun d hd=>by (repeat (rcases hd with rfl | hd; · exact ⟨rfl,rfl⟩)); cases hd) ?_))
  refine hRet _ rfl ?_
  simp (maxSteps:=9^7) only [go_sem,↓reduceIte,reduceCtorEq,Nat.reduceEqDiff,Nat.reduceBEq,Nat.reduceAdd,Nat.reduceSub,Nat.reduceMul,Nat.reduceLT,Nat.reduceLeDiff,Nat.reduceBNe,Int.reduceBEq,Int.reduceBNe,Int.reduceLT,Int.reduceLE]
 ·simp only [Bool.not_false,Bool.and_true,Bool.true_and] at hr
  (repeat (first | simp (maxSteps:=9^7) only [go_sem,↓reduceIte,reduceCtorEq,Nat.reduceEqDiff,Nat.reduceBEq,Nat.reduceAdd,Nat.reduceSub,Nat.reduceMul,Nat.reduceLT,Nat.reduceLeDiff,Nat.reduceBNe,Int.reduceBEq,Int.reduceBNe,Int.reduceLT,Int.reduceLE,t3,h3',t6,hlt',hgx,b1,h16,hw,List.length_map,Int.toNat_natCast] | refine z01 (ch) ?_ | refine z00 (ch) ?_ | refine And.intro (by omega) ?_ | refine And.intro (fun d hd=>by (repeat (rcases hd with rfl | hd; · exact ⟨rfl,rfl⟩)); cases hd) ?_))
  refine ⟨n.pivots.length - (i + 1),by omega,i + 1,by omega,rfl,?_,?_,?_,hr⟩
  iterate 3 focus ((simp (maxSteps:=9^7) only [go_sem,↓reduceIte,reduceCtorEq,Nat.reduceEqDiff,Nat.reduceBEq,Nat.reduceAdd,Nat.reduceSub,Nat.reduceMul,Nat.reduceLT,Nat.reduceLeDiff,Nat.reduceBNe,Int.reduceBEq,Int.reduceBNe,Int.reduceLT,Int.reduceLE,t3,h3,hw]) <;> rfl)
set_option maxHeartbeats 2000000 in
theorem msgs_loop (n:Nd) (hn:n.Lt) (R:Bool) (Q:XK->St->Prop) (hEnd:∀ σ,R = true->Q (.exit 4) σ)
  (hRet:∀ σ,R = false->σ.T 4 = .bool false->Q .ret σ) (k:Nat) (σ:St) (hI:z5a n 7 n.msgs.length (fun i=>(n.msgs.drop i).all (msB n)) R k σ) :
  run (AFn Tryz.prog) z57 (z30 (fun σ'=>∃ m,m < k∧z5a n 7 n.msgs.length (fun i=>(n.msgs.drop i).all (msB n)) R m σ') Q) σ:=by
 obtain ⟨i,hi,rfl,t3,h3,t7,hr⟩:=hI
 simp only [z57]
 have h3':=h3
 simp only [Nd.a] at h3'
 have hnp:=hn.nmsg
 by_cases hlt:i < n.msgs.length
 case neg =>
  have hlt':¬ (i:Int) < (n.msgs.length:Int):=by omega
  simp only at hr
  rw [List.drop_eq_nil_of_le (by omega),List.all_nil] at hr
  subst hr
  simp (maxSteps:=9^7) only [go_sem,↓reduceIte,reduceCtorEq,Nat.reduceEqDiff,Nat.reduceBEq,Nat.reduceAdd,Nat.reduceSub,Nat.reduceMul,Nat.reduceLT,Nat.reduceLeDiff,Nat.reduceBNe,Int.reduceBEq,Int.reduceBNe,Int.reduceLT,Int.reduceLE,t3,h3',t7,hlt',List.length_map]
  exact hEnd _ rfl
 have hlt':(i:Int) < (n.msgs.length:Int):=by omega
 obtain ⟨x,hx⟩:=z0i hlt
 have hgx:=z0o (f:=Msg.a) hx
 have hw:=z1j (j:=i) (by omega)
 have hxm:=hn.msgs x (List.mem_of_getElem? hx)
 have cs:=zkb x (by have:=hxm.1; omega)
 have hsl:=zea hxm
 have cl:=z33 n.high x.span.hi (by have:=hn.high; omega) (by have:=hsl.2; omega)
 simp only at hr
 rw [z0h hx,List.all_cons] at hr
 have hb:msB n x = (decide (x.stamp≤n.seen) && !(!n.top && (x.span.op || lt n.high x.span.hi))):=rfl
 rw [hb] at hr
 clear hb
 generalize x.span = sp at *
 obtain ⟨lo,hi2,op⟩:=sp
 simp only [Msg.a] at hgx
 simp only at cl hr
 generalize lt n.high hi2 = b3 at *
 by_cases hs:n.seen < x.stamp
 ·rw [decide_eq_false (by omega)] at hr
  simp only [Bool.false_and] at hr
  subst hr
  (repeat (first | simp (maxSteps:=9^7) only [go_sem,↓reduceIte,reduceCtorEq,Nat.reduceEqDiff,Nat.reduceBEq,Nat.reduceAdd,Nat.reduceSub,Nat.reduceMul,Nat.reduceLT,Nat.reduceLeDiff,Nat.reduceBNe,Int.reduceBEq,Int.reduceBNe,Int.reduceLT,Int.reduceLE,t3,h3',t7,hlt',hgx,hs,List.length_map,Int.toNat_natCast] | refine z01 (cs) ?_ | refine z00 (cs) ?_ | refine z01 (cl) ?_ | refine z00 (cl) ?_ | refine And.intro (by omega) ?_ | refine And.intro (fun d hd=>by (repeat (rcases hd with rfl | hd; · exact ⟨rfl,rfl⟩)); cases hd) ?_))
  all_goals (repeat refine And.intro (by omega) ?_)
  refine hRet _ rfl ?_
  simp (maxSteps:=9^7) only [go_sem,↓reduceIte,reduceCtorEq,Nat.reduceEqDiff,Nat.reduceBEq,Nat.reduceAdd,Nat.reduceSub,Nat.reduceMul,Nat.reduceLT,Nat.reduceLeDiff,Nat.reduceBNe,Int.reduceBEq,Int.reduceBNe,Int.reduceLT,Int.reduceLE]
 rw [decide_eq_true (by omega)] at hr
 cases htop:n.top
 ·rw [htop] at hr h3'
  cases op
  ·cases b3
   ·simp only [Bool.not_false,Bool.true_and,Bool.or_false,Bool.or_self,Bool.and_false] at hr
    (repeat (first | simp (maxSteps:=9^7) only [go_sem,↓reduceIte,reduceCtorEq,Nat.reduceEqDiff,Nat.reduceBEq,Nat.reduceAdd,Nat.reduceSub,Nat.reduceMul,Nat.reduceLT,Nat.reduceLeDiff,Nat.reduceBNe,Int.reduceBEq,Int.reduceBNe,Int.reduceLT,Int.reduceLE,t3,h3',t7,hlt',hgx,hs,hw,List.length_map,Int.toNat_natCast] | refine z01 (cs) ?_ | refine z00 (cs) ?_ | refine z01 (cl) ?_ | refine z00 (cl) ?_ | refine And.intro (by omega) ?_ | refine And.intro (fun d hd=>by (repeat (rcases hd with rfl | hd; · exact ⟨rfl,rfl⟩)); cases hd) ?_))
    refine ⟨n.msgs.length - (i + 1),by omega,i + 1,by omega,rfl,?_,?_,?_,hr⟩
    iterate 3 focus ((simp (maxSteps:=9^7) only [go_sem,↓reduceIte,reduceCtorEq,Nat.reduceEqDiff,Nat.reduceBEq,Nat.reduceAdd,Nat.reduceSub,Nat.reduceMul,Nat.reduceLT,Nat.reduceLeDiff,Nat.reduceBNe,Int.reduceBEq,Int.reduceBNe,Int.reduceLT,Int.reduceLE,t3,h3,hw]) <;> rfl)
   ·simp only [Bool.not_false,Bool.true_and,Bool.or_true,Bool.and_true,Bool.not_true,Bool.and_false,Bool.false_and] at hr
    subst hr
    (repeat (first | simp (maxSteps:=9^7) only [go_sem,↓reduceIte,reduceCtorEq,Nat.reduceEqDiff,Nat.reduceBEq,Nat.reduceAdd,Nat.reduceSub,Nat.reduceMul,Nat.reduceLT,Nat.reduceLeDiff,Nat.reduceBNe,Int.reduceBEq,Int.reduceBNe,Int.reduceLT,Int.reduceLE,t3,h3',t7,hlt',hgx,hs,hw,List.length_map,Int.toNat_natCast] | refine z01 (cs) ?_ | refine z00 (cs) ?_ | refine z01 (cl) ?_ | refine z00 (cl) ?_ | refine And.intro (by omega) ?_ | refine And.intro (fun d hd=>by (repeat (rcases hd with rfl | hd; · exact ⟨rfl,rfl⟩)); cases hd) ?_))
    refine hRet _ rfl ?_
    simp (maxSteps:=9^7) only [go_sem,↓reduceIte,reduceCtorEq,Nat.reduceEqDiff,Nat.reduceBEq,Nat.reduceAdd,Nat.reduceSub,Nat.reduceMul,Nat.reduceLT,Nat.reduceLeDiff,Nat.reduceBNe,Int.reduceBEq,Int.reduceBNe,Int.reduceLT,Int.reduceLE]
  ·simp only [Bool.not_false,Bool.true_and,Bool.true_or,Bool.and_true,Bool.not_true,Bool.and_false,Bool.false_and] at hr
   subst hr
   (repeat (first | simp (maxSteps:=9^7) only [go_sem,↓reduceIte,reduceCtorEq,Nat.reduceEqDiff,Nat.reduceBEq,Nat.reduceAdd,Nat.reduceSub,Nat.reduceMul,Nat.reduceLT,Nat.reduceLeDiff,Nat.reduceBNe,Int.reduceBEq,Int.reduceBNe,Int.reduceLT,Int.reduceLE,t3,h3',t7,hlt',hgx,hs,hw,List.length_map,Int.toNat_natCast] | refine z01 (cs) ?_ | refine z00 (cs) ?_ | refine z01 (cl) ?_ | refine z00 (cl) ?_ | refine And.intro (by omega) ?_ | refine And.intro (fun d hd=>by (repeat (rcases hd with rfl | hd; · exact ⟨rfl,rfl⟩)); cases hd) ?_))
   refine hRet _ rfl ?_
   simp (maxSteps:=9^7) only [go_sem,↓reduceIte,reduceCtorEq,Nat.reduceEqDiff,Nat.reduceBEq,Nat.reduceAdd,Nat.reduceSub,Nat.reduceMul,Nat.reduceLT,Nat.reduceLeDiff,Nat.reduceBNe,Int.reduceBEq,Int.reduceBNe,Int.reduceLT,Int.reduceLE]
 ·rw [htop] at hr h3'
  simp only [Bool.not_true,Bool.false_and,Bool.not_false,Bool.and_true,Bool.true_and] at hr
  (repeat (first | simp (maxSteps:=9^7) only [go_sem,↓reduceIte,reduceCtorEq,Nat.reduceEqDiff,Nat.reduceBEq,Nat.reduceAdd,Nat.reduceSub,Nat.reduceMul,Nat.reduceLT,Nat.reduceLeDiff,Nat.reduceBNe,Int.reduceBEq,Int.reduceBNe,Int.reduceLT,Int.reduceLE,t3,h3',t7,hlt',hgx,hs,hw,List.length_map,Int.toNat_natCast] | refine z01 (cs) ?_ | refine z00 (cs) ?_ | refine z01 (cl) ?_ | refine z00 (cl) ?_ | refine And.intro (by omega) ?_ | refine And.intro (fun d hd=>by (repeat (rcases hd with rfl | hd; · exact ⟨rfl,rfl⟩)); cases hd) ?_))
  refine ⟨n.msgs.length - (i + 1),by omega,i + 1,by omega,rfl,?_,?_,?_,hr⟩
  iterate 3 focus ((simp (maxSteps:=9^7) only [go_sem,↓reduceIte,reduceCtorEq,Nat.reduceEqDiff,Nat.reduceBEq,Nat.reduceAdd,Nat.reduceSub,Nat.reduceMul,Nat.reduceLT,Nat.reduceLeDiff,Nat.reduceBNe,Int.reduceBEq,Int.reduceBNe,Int.reduceLT,Int.reduceLE,t3,h3,hw]) <;> rfl)
set_option maxHeartbeats 2000000 in
theorem inner21_ok (c:Cfg) (n:Nd) (hn:n.Lt):AFn Tryz.prog 58 [c.a,n.a] (.bool (yg6 c n)):=by
 refine fn_inner21 rfl ?_
 have h1:=hn.npiv
 have h2:=hn.nkid
 have h3:=hn.nmsg
 have h4:=hn.nrow
 have cR:=zpv n.pivots n.kids (by omega) (fun x hx=>by have:=hn.piv x hx; omega)
 have cA:=refAll n.msgs (by omega) (fun m hm=>by obtain ⟨a,b,_⟩:=hn.msgs m hm; omega)
 have cZ:=ref18Size n.msgs ⟨by omega,fun m hm=>by obtain ⟨a,b,d⟩:=hn.msgs m hm; omega⟩
 unfold yg6
 obtain ⟨RK,hK⟩:∃ R,n.kids.all (fun k=>decide (0≤k)) = R:=⟨_,rfl⟩
 obtain ⟨RP,hP⟩:∃ R,n.pivots.all (pvB n) = R:=⟨_,rfl⟩
 obtain ⟨RM,hM⟩:∃ R,n.msgs.all (msB n) = R:=⟨_,rfl⟩
 rw [hK,hP,hM]
 by_cases q1:n.rows.length = 0
 case neg =>
  have q1':(0:Int) < (n.rows.length:Int):=by omega
  rw [decide_eq_false q1]
  (repeat (first | simp (maxSteps:=9^7) only [go_sem,↓reduceIte,reduceCtorEq,Nat.reduceEqDiff,Nat.reduceBEq,Nat.reduceAdd,Nat.reduceSub,Nat.reduceMul,Nat.reduceLT,Nat.reduceLeDiff,Nat.reduceBNe,Int.reduceBEq,Int.reduceBNe,Int.reduceLT,Int.reduceLE,List.length_map,q1'] | refine z01 (cR) ?_ | refine z00 (cR) ?_ | refine z01 (cA) ?_ | refine z00 (cA) ?_ | refine z01 (cZ) ?_ | refine z00 (cZ) ?_ | refine And.intro (by omega) ?_ | refine And.intro (fun d hd=>by (repeat (rcases hd with rfl | hd; · exact ⟨rfl,rfl⟩)); cases hd) ?_))
 have q1':¬ (0:Int) < (n.rows.length:Int):=by omega
 rw [decide_eq_true q1]
 by_cases q2:2≤n.kids.length
 case neg =>
  have q2':(n.kids.length:Int) < 2:=by omega
  rw [decide_eq_false q2]
  (repeat (first | simp (maxSteps:=9^7) only [go_sem,↓reduceIte,reduceCtorEq,Nat.reduceEqDiff,Nat.reduceBEq,Nat.reduceAdd,Nat.reduceSub,Nat.reduceMul,Nat.reduceLT,Nat.reduceLeDiff,Nat.reduceBNe,Int.reduceBEq,Int.reduceBNe,Int.reduceLT,Int.reduceLE,List.length_map,q1',q2'] | refine z01 (cR) ?_ | refine z00 (cR) ?_ | refine z01 (cA) ?_ | refine z00 (cA) ?_ | refine z01 (cZ) ?_ | refine z00 (cZ) ?_ | refine And.intro (by omega) ?_ | refine And.intro (fun d hd=>by (repeat (rcases hd with rfl | hd; · exact ⟨rfl,rfl⟩)); cases hd) ?_))
 have q2':¬ (n.kids.length:Int) < 2:=by omega
 rw [decide_eq_true q2]
 by_cases q3:(n.kids.length:Int)≤c.fanout
 case neg =>
  have q3':c.fanout < (n.kids.length:Int):=by omega
  rw [decide_eq_false q3]
  (repeat (first | simp (maxSteps:=9^7) only [go_sem,↓reduceIte,reduceCtorEq,Nat.reduceEqDiff,Nat.reduceBEq,Nat.reduceAdd,Nat.reduceSub,Nat.reduceMul,Nat.reduceLT,Nat.reduceLeDiff,Nat.reduceBNe,Int.reduceBEq,Int.reduceBNe,Int.reduceLT,Int.reduceLE,List.length_map,q1',q2',q3'] | refine z01 (cR) ?_ | refine z00 (cR) ?_ | refine z01 (cA) ?_ | refine z00 (cA) ?_ | refine z01 (cZ) ?_ | refine z00 (cZ) ?_ | refine And.intro (by omega) ?_ | refine And.intro (fun d hd=>by (repeat (rcases hd with rfl | hd; · exact ⟨rfl,rfl⟩)); cases hd) ?_))
 have q3':¬ c.fanout < (n.kids.length:Int):=by omega
 rw [decide_eq_true q3]
 generalize zk0 n.pivots n.kids = b1 at *
 cases b1
 ·(repeat (first | simp (maxSteps:=9^7) only [go_sem,↓reduceIte,reduceCtorEq,Nat.reduceEqDiff,Nat.reduceBEq,Nat.reduceAdd,Nat.reduceSub,Nat.reduceMul,Nat.reduceLT,Nat.reduceLeDiff,Nat.reduceBNe,Int.reduceBEq,Int.reduceBNe,Int.reduceLT,Int.reduceLE,List.length_map,q1',q2',q3'] | refine z01 (cR) ?_ | refine z00 (cR) ?_ | refine z01 (cA) ?_ | refine z00 (cA) ?_ | refine z01 (cZ) ?_ | refine z00 (cZ) ?_ | refine And.intro (by omega) ?_ | refine And.intro (fun d hd=>by (repeat (rcases hd with rfl | hd; · exact ⟨rfl,rfl⟩)); cases hd) ?_))
 generalize z28 n.msgs = b2 at *
 cases b2
 ·(repeat (first | simp (maxSteps:=9^7) only [go_sem,↓reduceIte,reduceCtorEq,Nat.reduceEqDiff,Nat.reduceBEq,Nat.reduceAdd,Nat.reduceSub,Nat.reduceMul,Nat.reduceLT,Nat.reduceLeDiff,Nat.reduceBNe,Int.reduceBEq,Int.reduceBNe,Int.reduceLT,Int.reduceLE,List.length_map,q1',q2',q3'] | refine z01 (cR) ?_ | refine z00 (cR) ?_ | refine z01 (cA) ?_ | refine z00 (cA) ?_ | refine z01 (cZ) ?_ | refine z00 (cZ) ?_ | refine And.intro (by omega) ?_ | refine And.intro (fun d hd=>by (repeat (rcases hd with rfl | hd; · exact ⟨rfl,rfl⟩)); cases hd) ?_))
 by_cases q4:(z32 n.msgs:Int)≤c.budget
 case neg =>
  have q4':c.budget < (z32 n.msgs:Int):=by omega
  rw [decide_eq_false q4]
  (repeat (first | simp (maxSteps:=9^7) only [go_sem,↓reduceIte,reduceCtorEq,Nat.reduceEqDiff,Nat.reduceBEq,Nat.reduceAdd,Nat.reduceSub,Nat.reduceMul,Nat.reduceLT,Nat.reduceLeDiff,Nat.reduceBNe,Int.reduceBEq,Int.reduceBNe,Int.reduceLT,Int.reduceLE,List.length_map,q1',q2',q3',q4'] | refine z01 (cR) ?_ | refine z00 (cR) ?_ | refine z01 (cA) ?_ | refine z00 (cA) ?_ | refine z01 (cZ) ?_ | refine z00 (cZ) ?_ | refine And.intro (by omega) ?_ | refine And.intro (fun d hd=>by (repeat (rcases hd with rfl | hd; · exact ⟨rfl,rfl⟩)); cases hd) ?_))
 have q4':¬ c.budget < (z32 n.msgs:Int):=by omega
 rw [decide_eq_true q4]
 (repeat (first | simp (maxSteps:=9^7) only [go_sem,↓reduceIte,reduceCtorEq,Nat.reduceEqDiff,Nat.reduceBEq,Nat.reduceAdd,Nat.reduceSub,Nat.reduceMul,Nat.reduceLT,Nat.reduceLeDiff,Nat.reduceBNe,Int.reduceBEq,Int.reduceBNe,Int.reduceLT,Int.reduceLE,List.length_map,q1',q2',q3',q4'] | refine z01 (cR) ?_ | refine z00 (cR) ?_ | refine z01 (cA) ?_ | refine z00 (cA) ?_ | refine z01 (cZ) ?_ | refine z00 (cZ) ?_ | refine And.intro (by omega) ?_ | refine And.intro (fun d hd=>by (repeat (rcases hd with rfl | hd; · exact ⟨rfl,rfl⟩)); cases hd) ?_))
 clear cR cA cZ q1' q2' q3' q4' q4 q3 q2 q1
 refine z0d (z5a n 5 n.kids.length (fun i=>(n.kids.drop i).all fun k=>decide (0≤k)) RK) (k:=n.kids.length) ⟨0,by omega,rfl,?_,?_,?_,hK⟩ (kids_loop n h2 RK _ ?_ ?_)
 iterate 3 focus ((simp (maxSteps:=9^7) only [go_sem,↓reduceIte,reduceCtorEq,Nat.reduceEqDiff,Nat.reduceBEq,Nat.reduceAdd,Nat.reduceSub,Nat.reduceMul,Nat.reduceLT,Nat.reduceLeDiff,Nat.reduceBNe,Int.reduceBEq,Int.reduceBNe,Int.reduceLT,Int.reduceLE]) <;> rfl)
 ·intro σ hk t3 h3
  subst hk
  simp (maxSteps:=9^7) only [go_sem,↓reduceIte,reduceCtorEq,Nat.reduceEqDiff,Nat.reduceBEq,Nat.reduceAdd,Nat.reduceSub,Nat.reduceMul,Nat.reduceLT,Nat.reduceLeDiff,Nat.reduceBNe,Int.reduceBEq,Int.reduceBNe,Int.reduceLT,Int.reduceLE,t3,h3]
  refine z0d (z5a n 6 n.pivots.length (fun i=>(n.pivots.drop i).all (pvB n)) RP) (k:=n.pivots.length) ⟨0,by omega,rfl,?_,?_,?_,hP⟩ (y93 n hn RP _ ?_ ?_)
  iterate 3 focus ((simp (maxSteps:=9^7) only [go_sem,↓reduceIte,reduceCtorEq,Nat.reduceEqDiff,Nat.reduceBEq,Nat.reduceAdd,Nat.reduceSub,Nat.reduceMul,Nat.reduceLT,Nat.reduceLeDiff,Nat.reduceBNe,Int.reduceBEq,Int.reduceBNe,Int.reduceLT,Int.reduceLE,t3,h3]) <;> rfl)
  ·intro σ hk t3 h3
   subst hk
   simp (maxSteps:=9^7) only [go_sem,↓reduceIte,reduceCtorEq,Nat.reduceEqDiff,Nat.reduceBEq,Nat.reduceAdd,Nat.reduceSub,Nat.reduceMul,Nat.reduceLT,Nat.reduceLeDiff,Nat.reduceBNe,Int.reduceBEq,Int.reduceBNe,Int.reduceLT,Int.reduceLE,t3,h3]
   refine z0d (z5a n 7 n.msgs.length (fun i=>(n.msgs.drop i).all (msB n)) RM) (k:=n.msgs.length) ⟨0,by omega,rfl,?_,?_,?_,hM⟩ (msgs_loop n hn RM _ ?_ ?_)
   iterate 3 focus ((simp (maxSteps:=9^7) only [go_sem,↓reduceIte,reduceCtorEq,Nat.reduceEqDiff,Nat.reduceBEq,Nat.reduceAdd,Nat.reduceSub,Nat.reduceMul,Nat.reduceLT,Nat.reduceLeDiff,Nat.reduceBNe,Int.reduceBEq,Int.reduceBNe,Int.reduceLT,Int.reduceLE,t3,h3]) <;> rfl)
   ·intro σ hk
    subst hk
    simp (maxSteps:=9^7) only [go_sem,↓reduceIte,reduceCtorEq,Nat.reduceEqDiff,Nat.reduceBEq,Nat.reduceAdd,Nat.reduceSub,Nat.reduceMul,Nat.reduceLT,Nat.reduceLeDiff,Nat.reduceBNe,Int.reduceBEq,Int.reduceBNe,Int.reduceLT,Int.reduceLE]
   ·intro σ hk t4
    subst hk
    simp (maxSteps:=9^7) only [go_sem,↓reduceIte,reduceCtorEq,Nat.reduceEqDiff,Nat.reduceBEq,Nat.reduceAdd,Nat.reduceSub,Nat.reduceMul,Nat.reduceLT,Nat.reduceLeDiff,Nat.reduceBNe,Int.reduceBEq,Int.reduceBNe,Int.reduceLT,Int.reduceLE,t4]
  ·intro σ hk t4
   subst hk
   simp (maxSteps:=9^7) only [go_sem,↓reduceIte,reduceCtorEq,Nat.reduceEqDiff,Nat.reduceBEq,Nat.reduceAdd,Nat.reduceSub,Nat.reduceMul,Nat.reduceLT,Nat.reduceLeDiff,Nat.reduceBNe,Int.reduceBEq,Int.reduceBNe,Int.reduceLT,Int.reduceLE,t4]
 ·intro σ hk t4
  subst hk
  simp (maxSteps:=9^7) only [go_sem,↓reduceIte,reduceCtorEq,Nat.reduceEqDiff,Nat.reduceBEq,Nat.reduceAdd,Nat.reduceSub,Nat.reduceMul,Nat.reduceLT,Nat.reduceLeDiff,Nat.reduceBNe,Int.reduceBEq,Int.reduceBNe,Int.reduceLT,Int.reduceLE,t4]
end
end Go.Proofs.YthpbokjnfloeoaaGreatDoor
