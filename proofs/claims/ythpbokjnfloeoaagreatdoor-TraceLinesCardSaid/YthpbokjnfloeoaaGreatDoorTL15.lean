/-
  Part 15 of a proof: TeA, TeB.
-/
import Derived.Test.YthpbokjnfloeoaaGreatDoorTL14
namespace Go.Proofs.YthpbokjnfloeoaaGreatDoor
attribute [local go_sem] Spn.a Msg.a Par.a Nd.a
set_option linter.unusedVariables false
section
/-
 Trees of the document: nodes found by their slots; keys that rise; ranges; messages cut and laid one behind the other: walked.
-/
open Go.RowKit
set_option linter.unusedVariables false
set_option linter.unusedSimpArgs false
set_option maxRecDepth 100000
attribute [local go_sem ↓] z11 z0l
def nul0:ByteArray:=⟨#[]⟩
def Nd.zero:Nd:=⟨0,0,[],[],nul0,false,0,0,[],[]⟩
def Msg.zero:Msg:=⟨0,0,nul0,nul0,false,nul0⟩
def z5k (slot:Int):Nd->Nat->List Nd->Nd × Nat
 | o,n,[]=>(o,n)
 | o,n,x :: l=>if x.slot = slot then z5k slot x (n + 1) l else z5k slot o n l
def zf4 (l:List Nd) (slot:Int):Nd × Bool:=((z5k slot Nd.zero 0 l).1,decide ((z5k slot Nd.zero 0 l).2 = 1))
/-! ### percolate/percolateref17.Find -/
def zyv:List ROp:=[⟨.alloc 10 32 (.agg [(.int .i64 0),(.int .i64 0),(.sl []),(.sl []),(.str ⟨#[]⟩),(.bool false),(.int .i64 0),(.int .i64 0),(.sl []),(.sl [])]),some 4,none,[],[]⟩,⟨.mv (.c (.bool false)),some 5,none,[],[]⟩]
def yf0:Reg:=⟨[],zyv,[4],[],false⟩
def zyu:List ROp:=[⟨.bld [(.int .i64 0),(.int .i64 0),(.sl []),(.sl []),(.str ⟨#[]⟩),(.bool false),(.int .i64 0),(.int .i64 0),(.sl []),(.sl [])] [],some 9,none,[6],[]⟩,⟨.alloc 10 32 (.agg [(.int .i64 0),(.int .i64 0),(.sl []),(.sl []),(.str ⟨#[]⟩),(.bool false),(.int .i64 0),(.int .i64 0),(.sl []),(.sl [])]),some 6,none,[],[]⟩,⟨.store 10 (.t 6) (.t 9),none,none,[],[]⟩]
def yez:Reg:=⟨[],zyu,[6],[],false⟩
def yey:Reg:=⟨[],[⟨.mv (.c (.int .i64 0)),some 7,none,[],[]⟩],[],[],false⟩
def yex:Reg:=⟨[],[⟨.mv (.c (.int .i64 0)),some 8,none,[],[]⟩],[],[],false⟩
def zyt:List ROp:=[⟨.mv (.t 8),some 10,none,[],[]⟩,⟨.mv (.t 0),some 11,none,[],[]⟩,⟨.len false (.t 11),some 12,none,[],[]⟩,⟨.bin .lss (.t 10) (.t 12),some 13,none,[],[]⟩]
def yew:Reg:=⟨[],zyt,[],[],false⟩
def zys:List ROp:=[⟨.mv (.t 0),some 16,none,[],[]⟩,⟨.mv (.t 8),some 17,none,[],[]⟩,⟨.iaddr 10 (.t 16) (.t 17),some 18,none,[],[]⟩,⟨.faddr 0 (.t 18),some 19,none,[],[]⟩,⟨.load 1 false (.t 19),some 20,none,[],[]⟩,⟨.mv (.t 1),some 21,none,[],[]⟩,⟨.bin .eql (.t 20) (.t 21),some 22,none,[],[]⟩]
def yev:Reg:=⟨[],zys,[],[],false⟩
def zyr:List ROp:=[⟨.mv (.t 0),some 23,none,[],[]⟩,⟨.mv (.t 8),some 24,none,[],[]⟩,⟨.iaddr 10 (.t 23) (.t 24),some 25,none,[],[]⟩,⟨.load 10 true (.t 25),some 26,none,[],[]⟩,⟨.store 10 (.t 6) (.t 26),none,none,[],[]⟩]
def yeu:Reg:=⟨[],zyr,[],[],false⟩
def zyq:List ROp:=[⟨.mv (.t 7),some 27,none,[],[]⟩,⟨.bin .add (.t 27) (.c (.int .i64 1)),some 28,none,[],[]⟩,⟨.mv (.t 28),some 7,none,[],[]⟩]
def yer:Reg:=⟨[],zyq,[],[],false⟩
def zyp:List ROp:=[⟨.mv (.t 8),some 14,none,[],[]⟩,⟨.bin .add (.t 14) (.c (.int .i64 1)),some 15,none,[],[]⟩,⟨.mv (.t 15),some 8,none,[],[]⟩]
def yeq:Reg:=⟨[],zyp,[],[],false⟩
def y5e:IR:=(.seq (.seq (.reg yew)
 (.cond (.t 13) .skip
 (.exit 0)))
 (.seq (.block 1 (.seq (.reg yev)
 (.cond (.t 22) (.seq (.reg yeu)
 (.reg yer))
 .skip)))
 (.reg yeq)))
def zj7:List ROp:=[⟨.load 10 true (.t 6),some 29,none,[],[]⟩,⟨.mv (.t 7),some 30,none,[],[]⟩,⟨.bin .eql (.t 30) (.c (.int .i64 1)),some 31,none,[],[]⟩,⟨.store 10 (.t 4) (.t 29),none,none,[],[]⟩,⟨.mv (.t 31),some 5,none,[],[]⟩]
def y5f:Reg:=⟨[],zj7,[],[],false⟩
def ir_find:IR:=(.seq (.reg yf0)
 (.seq (.reg yez)
 (.seq (.reg yey)
 (.seq (.seq (.reg yex)
 (.block 0 (.loop y5e)))
 (.seq (.reg y5f)
 .ret)))))
def yd0:List RDesc:=[(.cell 4 10 true),(.tmp 5)]
theorem e_find_0:EqR yf0 zyv [4]:=fun _ _ _=>rfl
theorem e_find_1:EqR yez zyu [6]:=fun _ _ _=>rfl
theorem e_find_2:EqR yey [⟨.mv (.c (.int .i64 0)),some 7,none,[],[]⟩] []:=fun _ _ _=>rfl
theorem e_find_3:EqR yex [⟨.mv (.c (.int .i64 0)),some 8,none,[],[]⟩] []:=fun _ _ _=>rfl
theorem e_find_4:EqR yew zyt []:=fun _ _ _=>rfl
theorem e_find_5:EqR yev zys []:=fun _ _ _=>rfl
theorem e_find_6:EqR yeu zyr []:=fun _ _ _=>rfl
theorem e_find_7:EqR yer zyq []:=fun _ _ _=>rfl
theorem e_find_8:EqR yeq zyp []:=fun _ _ _=>rfl
theorem e_find_10:EqR y5f zj7 []:=fun _ _ _=>rfl
theorem fn_find {args:List AV} {r:AV} (ha:args.length.ble Tryz.f51.ntmps = true) (h:run (AFn Tryz.prog) ir_find (endQ yd0 r) (z0b args)):AFn Tryz.prog 51 args r :=
 AFn.of_code (pv:=false) (hint:=fun _=>[]) (c:=Tryz.f51.body.getD .skip) (by kernel_rfl) (by kernel_rfl) Tryz.func51 (by kernel_rfl) (by kernel_rfl) (by kernel_rfl) (of_decide_eq_true (by kernel_rfl)) (Nat.le_of_ble_eq_true ha) (Nat.le_of_ble_eq_true (by kernel_rfl)) (z0c h)
/-! ### percolate/percolateref01.Rising -/
def zsu:Reg:=⟨[],[⟨.mv (.c (.bool false)),some 2,none,[],[]⟩],[],[],false⟩
def zst:Reg:=⟨[],[⟨.mv (.c (.int .i64 1)),some 3,none,[],[]⟩],[],[],false⟩
def zby:List ROp:=[⟨.mv (.t 3),some 4,none,[],[]⟩,⟨.mv (.t 0),some 5,none,[],[]⟩,⟨.len false (.t 5),some 6,none,[],[]⟩,⟨.bin .lss (.t 4) (.t 6),some 7,none,[],[]⟩]
def zss:Reg:=⟨[],zby,[],[],false⟩
def zbx:List ROp:=[⟨.callv (.c (.clo 77 [] [])) [(.t 14),(.t 18)],some 19,none,[],[]⟩,⟨.un .not (.t 19),some 20,none,[],[]⟩]
def zeo:List ROp:=[⟨.mv (.t 0),some 10,none,[19],[]⟩,⟨.mv (.t 3),some 11,none,[19],[]⟩,⟨.bin .sub (.t 11) (.c (.int .i64 1)),some 12,none,[19],[]⟩,⟨.iaddr 1 (.t 10) (.t 12),some 13,none,[19],[]⟩,⟨.load 1 false (.t 13),some 14,none,[19],[]⟩,⟨.mv (.t 0),some 15,none,[19],[]⟩,⟨.mv (.t 3),some 16,none,[19],[]⟩,⟨.iaddr 1 (.t 15) (.t 16),some 17,none,[19],[]⟩,⟨.load 1 false (.t 17),some 18,none,[19],[]⟩]
def zsr:Reg:=⟨zeo,zbx,[19],[],true⟩
def zsq:Reg:=⟨[],[⟨.mv (.c (.bool false)),some 2,none,[],[]⟩],[],[],false⟩
def zbw:List ROp:=[⟨.mv (.t 3),some 8,none,[],[]⟩,⟨.bin .add (.t 8) (.c (.int .i64 1)),some 9,none,[],[]⟩,⟨.mv (.t 9),some 3,none,[],[]⟩]
def zsp:Reg:=⟨[],zbw,[],[],false⟩
def z8w:IR:=(.seq (.seq (.reg zss)
 (.cond (.t 7) .skip
 (.exit 0)))
 (.seq (.block 1 (.seq (.reg zsr)
 (.cond (.t 20) (.seq (.reg zsq)
 .ret)
 .skip)))
 (.reg zsp)))
def zso:Reg:=⟨[],[⟨.mv (.c (.bool true)),some 2,none,[],[]⟩],[],[],false⟩
def y6t:IR:=(.seq (.reg zsu)
 (.seq (.seq (.reg zst)
 (.block 0 (.loop z8w)))
 (.seq (.reg zso)
 .ret)))
def zq6:List RDesc:=[(.tmp 2)]
theorem e_rising_0:EqR zsu [⟨.mv (.c (.bool false)),some 2,none,[],[]⟩] []:=fun _ _ _=>rfl
theorem e_rising_1:EqR zst [⟨.mv (.c (.int .i64 1)),some 3,none,[],[]⟩] []:=fun _ _ _=>rfl
theorem e_rising_2:EqR zss zby []:=fun _ _ _=>rfl
theorem e_rising_3 (C:FuncId->List AV->AV->Prop) (σ:St) (K:St->Prop):z0k C zsr σ K = z08 C [] zbx zeo (σ.kills [19]) K:=rfl
theorem e_rising_4:EqR zsq [⟨.mv (.c (.bool false)),some 2,none,[],[]⟩] []:=fun _ _ _=>rfl
theorem e_rising_5:EqR zsp zbw []:=fun _ _ _=>rfl
theorem e_rising_7:EqR zso [⟨.mv (.c (.bool true)),some 2,none,[],[]⟩] []:=fun _ _ _=>rfl
theorem fn_rising {args:List AV} {r:AV} (ha:args.length.ble Tryz.f76.ntmps = true) (h:run (AFn Tryz.prog) y6t (endQ zq6 r) (z0b args)):AFn Tryz.prog 76 args r :=
 AFn.of_code (pv:=false) (hint:=fun _=>[]) (c:=Tryz.f76.body.getD .skip) (by kernel_rfl) (by kernel_rfl) Tryz.func76 (by kernel_rfl) (by kernel_rfl) (by kernel_rfl) (of_decide_eq_true (by kernel_rfl)) (Nat.le_of_ble_eq_true ha) (Nat.le_of_ble_eq_true (by kernel_rfl)) (z0c h)
/-! ### percolate/percolateref15.Right -/
def zl0:Reg:=⟨[],[⟨.mv (.c (.bool false)),some 4,none,[],[]⟩],[],[],false⟩
def z7m:List ROp:=[⟨.mv (.t 0),some 5,none,[6],[]⟩,⟨.callv (.c (.clo 76 [] [])) [(.t 5)],some 6,none,[],[]⟩,⟨.mv (.t 6),some 7,none,[],[]⟩,⟨.mv (.t 1),some 8,(some (7,true)),[],[]⟩,⟨.len false (.t 8),some 9,(some (7,true)),[],[]⟩,⟨.mv (.t 0),some 10,(some (7,true)),[],[]⟩,⟨.len false (.t 10),some 11,(some (7,true)),[],[]⟩,⟨.bin .add (.t 11) (.c (.int .i64 1)),some 12,(some (7,true)),[],[]⟩,⟨.bin .eql (.t 9) (.t 12),some 13,(some (7,true)),[],[]⟩,⟨.pick (.t 7) (.t 13) (.c (.bool false)),some 14,none,[],[]⟩,⟨.mv (.t 14),some 4,none,[],[]⟩]
def zkz:Reg:=⟨[],z7m,[6],[],false⟩
def zx4:IR:=(.seq (.reg zl0)
 (.seq (.reg zkz)
 .ret))
def zk5:List RDesc:=[(.tmp 4)]
theorem yad:EqR zl0 [⟨.mv (.c (.bool false)),some 4,none,[],[]⟩] []:=fun _ _ _=>rfl
theorem yac:EqR zkz z7m [6]:=fun _ _ _=>rfl
theorem fn_right15 {args:List AV} {r:AV} (ha:args.length.ble Tryz.f52.ntmps = true) (h:run (AFn Tryz.prog) zx4 (endQ zk5 r) (z0b args)):AFn Tryz.prog 52 args r :=
 AFn.of_code (pv:=false) (hint:=fun _=>[]) (c:=Tryz.f52.body.getD .skip) (by kernel_rfl) (by kernel_rfl) Tryz.func52 (by kernel_rfl) (by kernel_rfl) (by kernel_rfl) (of_decide_eq_true (by kernel_rfl)) (Nat.le_of_ble_eq_true ha) (Nat.le_of_ble_eq_true (by kernel_rfl)) (z0c h)
/-! ### percolate/percolateref15.Range -/
def zla:Reg:=⟨[],[⟨.alloc 3 67 (.agg [(.str ⟨#[]⟩),(.str ⟨#[]⟩),(.bool false)]),some 4,none,[],[]⟩],[4],[],false⟩
def z7t:List ROp:=[⟨.bld [(.str ⟨#[]⟩),(.str ⟨#[]⟩),(.bool false)] [⟨2,1,(.c (.bool true))⟩],some 6,none,[5],[]⟩,⟨.alloc 3 67 (.agg [(.str ⟨#[]⟩),(.str ⟨#[]⟩),(.bool false)]),some 5,none,[],[]⟩,⟨.store 3 (.t 5) (.t 6),none,none,[],[]⟩]
def zl9:Reg:=⟨[],z7t,[5],[],false⟩
def z7s:List ROp:=[⟨.mv (.t 1),some 7,none,[],[]⟩,⟨.bin .lss (.t 7) (.c (.int .i64 0)),some 8,none,[],[]⟩,⟨.mv (.t 8),some 9,none,[],[]⟩,⟨.mv (.t 1),some 10,(some (9,false)),[],[]⟩,⟨.mv (.t 0),some 11,(some (9,false)),[],[]⟩,⟨.len false (.t 11),some 12,(some (9,false)),[],[]⟩,⟨.bin .gtr (.t 10) (.t 12),some 13,(some (9,false)),[],[]⟩,⟨.pick (.t 9) (.c (.bool true)) (.t 13),some 14,none,[],[]⟩]
def zl8:Reg:=⟨[],z7s,[],[],false⟩
def z7r:List ROp:=[⟨.bld [(.str ⟨#[]⟩),(.str ⟨#[]⟩),(.bool false)] [],some 15,none,[],[]⟩,⟨.store 3 (.t 4) (.t 15),none,none,[],[]⟩]
def zl7:Reg:=⟨[],z7r,[],[],false⟩
def zl6:Reg:=⟨[],[⟨.mv (.t 1),some 16,none,[],[]⟩,⟨.bin .gtr (.t 16) (.c (.int .i64 0)),some 17,none,[],[]⟩],[],[],false⟩
def z7q:List ROp:=[⟨.mv (.t 0),some 18,none,[],[]⟩,⟨.mv (.t 1),some 19,none,[],[]⟩,⟨.bin .sub (.t 19) (.c (.int .i64 1)),some 20,none,[],[]⟩,⟨.iaddr 1 (.t 18) (.t 20),some 21,none,[],[]⟩,⟨.load 1 false (.t 21),some 22,none,[],[]⟩,⟨.faddr 0 (.t 5),some 23,none,[],[]⟩,⟨.store 1 (.t 23) (.t 22),none,none,[],[]⟩]
def zl5:Reg:=⟨[],z7q,[],[],false⟩
def z7p:List ROp:=[⟨.mv (.t 1),some 24,none,[],[]⟩,⟨.mv (.t 0),some 25,none,[],[]⟩,⟨.len false (.t 25),some 26,none,[],[]⟩,⟨.bin .lss (.t 24) (.t 26),some 27,none,[],[]⟩]
def zl4:Reg:=⟨[],z7p,[],[],false⟩
def zl3:Reg:=⟨[],[⟨.faddr 2 (.t 5),some 28,none,[],[]⟩,⟨.store 1 (.t 28) (.c (.bool false)),none,none,[],[]⟩],[],[],false⟩
def z7o:List ROp:=[⟨.mv (.t 0),some 29,none,[],[]⟩,⟨.mv (.t 1),some 30,none,[],[]⟩,⟨.iaddr 1 (.t 29) (.t 30),some 31,none,[],[]⟩,⟨.load 1 false (.t 31),some 32,none,[],[]⟩,⟨.faddr 1 (.t 5),some 33,none,[],[]⟩,⟨.store 1 (.t 33) (.t 32),none,none,[],[]⟩]
def zl2:Reg:=⟨[],z7o,[],[],false⟩
def z7n:List ROp:=[⟨.load 3 true (.t 5),some 34,none,[35],[]⟩,⟨.callv (.c (.clo 61 [] [])) [(.t 34)],some 35,none,[],[]⟩,⟨.store 3 (.t 4) (.t 35),none,none,[],[]⟩]
def zl1:Reg:=⟨[],z7n,[35],[],false⟩
def zx5:IR:=(.seq (.reg zla)
 (.seq (.reg zl9)
 (.seq (.seq (.reg zl8)
 (.cond (.t 14) (.seq (.reg zl7)
 .ret)
 .skip))
 (.seq (.seq (.reg zl6)
 (.cond (.t 17) (.reg zl5)
 .skip))
 (.seq (.seq (.reg zl4)
 (.cond (.t 27) (.seq (.reg zl3)
 (.reg zl2))
 .skip))
 (.seq (.reg zl1)
 .ret))))))
def zk6:List RDesc:=[(.cell 4 3 true)]
theorem yan:EqR zla [⟨.alloc 3 67 (.agg [(.str ⟨#[]⟩),(.str ⟨#[]⟩),(.bool false)]),some 4,none,[],[]⟩] [4]:=fun _ _ _=>rfl
theorem yam:EqR zl9 z7t [5]:=fun _ _ _=>rfl
theorem yal:EqR zl8 z7s []:=fun _ _ _=>rfl
theorem yak:EqR zl7 z7r []:=fun _ _ _=>rfl
theorem yaj:EqR zl6 [⟨.mv (.t 1),some 16,none,[],[]⟩,⟨.bin .gtr (.t 16) (.c (.int .i64 0)),some 17,none,[],[]⟩] []:=fun _ _ _=>rfl
theorem yai:EqR zl5 z7q []:=fun _ _ _=>rfl
theorem yah:EqR zl4 z7p []:=fun _ _ _=>rfl
theorem yag:EqR zl3 [⟨.faddr 2 (.t 5),some 28,none,[],[]⟩,⟨.store 1 (.t 28) (.c (.bool false)),none,none,[],[]⟩] []:=fun _ _ _=>rfl
theorem yaf:EqR zl2 z7o []:=fun _ _ _=>rfl
theorem yae:EqR zl1 z7n [35]:=fun _ _ _=>rfl
theorem fn_range15 {args:List AV} {r:AV} (ha:args.length.ble Tryz.f54.ntmps = true) (h:run (AFn Tryz.prog) zx5 (endQ zk6 r) (z0b args)):AFn Tryz.prog 54 args r :=
 AFn.of_code (pv:=false) (hint:=fun _=>[]) (c:=Tryz.f54.body.getD .skip) (by kernel_rfl) (by kernel_rfl) Tryz.func54 (by kernel_rfl) (by kernel_rfl) (by kernel_rfl) (of_decide_eq_true (by kernel_rfl)) (Nat.le_of_ble_eq_true ha) (Nat.le_of_ble_eq_true (by kernel_rfl)) (z0c h)
attribute [local go_sem ↓] ir_find
attribute [local go_sem] yd0 e_find_0 zyv e_find_1 zyu e_find_2 e_find_3 e_find_4 zyt e_find_5 zys e_find_6 zyr e_find_7 zyq e_find_8 zyp e_find_10 zj7
attribute [local go_sem ↓] y6t
attribute [local go_sem] zq6 e_rising_0 e_rising_1 e_rising_2 zby e_rising_3 zbx zeo e_rising_4 e_rising_5 zbw e_rising_7
attribute [local go_sem ↓] zx4
attribute [local go_sem] zk5 yad yac z7m
attribute [local go_sem ↓] zx5
attribute [local go_sem] zk6 yan yam z7t yal z7s yak z7r yaj yai z7q yah z7p yag yaf z7o yae z7n
def findInv (l:List Nd) (slot:Int) (R:Nd × Nat) (k:Nat) (σ:St):Prop :=
 ∃ (j n:Nat) (o:Nd),j≤l.length∧k = l.length - j∧n≤j∧σ.T 0 = .sl (l.map Nd.a)∧σ.T 1 = .int .i64 slot∧σ.T 4 = .ptr 4 0 0∧σ.H 4 = some ⟨10,32,[Nd.zero.a],0⟩ ∧
  σ.T 6 = .ptr 6 0 0∧σ.H 6 = some ⟨10,32,[o.a],0⟩∧σ.T 7 = .int .i64 n∧σ.T 8 = .int .i64 j∧z5k slot o n (l.drop j) = R
set_option maxHeartbeats 1000000 in
theorem find_ok (l:List Nd) (slot:Int) (hl:l.length≤1000000000):AFn Tryz.prog 51 [.sl (l.map Nd.a),.int .i64 slot] (.tup [(zf4 l slot).1.a,.bool (zf4 l slot).2]):=by
 refine fn_find rfl ?_
 unfold zf4
 obtain ⟨R,hR⟩:∃ R,z5k slot Nd.zero 0 l = R:=⟨_,rfl⟩
 rw [hR]
 simp (maxSteps:=9^7) only [go_sem,↓reduceIte,reduceCtorEq,Nat.reduceEqDiff,Nat.reduceBEq,Nat.reduceAdd,Nat.reduceSub,Nat.reduceMul,Nat.reduceLT,Nat.reduceLeDiff,Nat.reduceBNe,Int.reduceBEq,Int.reduceBNe,Int.reduceLT,Int.reduceLE]
 refine z0d (findInv l slot R) (k:=l.length) ⟨0,0,Nd.zero,by omega,rfl,by omega,rfl,rfl,?_,?_,?_,?_,rfl,rfl,hR⟩ ?_
 ·simp (maxSteps:=9^7) only [go_sem,↓reduceIte,reduceCtorEq,Nat.reduceEqDiff,Nat.reduceBEq,Nat.reduceAdd,Nat.reduceSub,Nat.reduceMul,Nat.reduceLT,Nat.reduceLeDiff,Nat.reduceBNe,Int.reduceBEq,Int.reduceBNe,Int.reduceLT,Int.reduceLE]
 ·simp (maxSteps:=9^7) only [go_sem,↓reduceIte,reduceCtorEq,Nat.reduceEqDiff,Nat.reduceBEq,Nat.reduceAdd,Nat.reduceSub,Nat.reduceMul,Nat.reduceLT,Nat.reduceLeDiff,Nat.reduceBNe,Int.reduceBEq,Int.reduceBNe,Int.reduceLT,Int.reduceLE]; rfl
 ·simp (maxSteps:=9^7) only [go_sem,↓reduceIte,reduceCtorEq,Nat.reduceEqDiff,Nat.reduceBEq,Nat.reduceAdd,Nat.reduceSub,Nat.reduceMul,Nat.reduceLT,Nat.reduceLeDiff,Nat.reduceBNe,Int.reduceBEq,Int.reduceBNe,Int.reduceLT,Int.reduceLE]
 ·simp (maxSteps:=9^7) only [go_sem,↓reduceIte,reduceCtorEq,Nat.reduceEqDiff,Nat.reduceBEq,Nat.reduceAdd,Nat.reduceSub,Nat.reduceMul,Nat.reduceLT,Nat.reduceLeDiff,Nat.reduceBNe,Int.reduceBEq,Int.reduceBNe,Int.reduceLT,Int.reduceLE]; rfl
 clear hR
 rintro k σ ⟨j,n,o,hj,rfl,hn,t0,t1,t4,h4,t6,h6,t7,t8,hr⟩
 simp only [y5e]
 by_cases hlt:j < l.length
 ·have hlt':(j:Int) < (l.length:Int):=by omega
  obtain ⟨x,hx⟩:=z0i hlt
  have hgj:=z0o (f:=Nd.a) hx
  simp only [Nd.a] at hgj h6 h4
  have hw:=z1j (j:=j) (by omega)
  have hw':=z1j (j:=n) (by omega)
  rw [z0h hx,z5k] at hr
  by_cases hs:x.slot = slot
  ·have hs':(x.slot == slot) = true:=by simp [hs]
   rw [if_pos hs] at hr
   simp (maxSteps:=9^7) only [go_sem,↓reduceIte,reduceCtorEq,Nat.reduceEqDiff,Nat.reduceBEq,Nat.reduceAdd,Nat.reduceSub,Nat.reduceMul,Nat.reduceLT,Nat.reduceLeDiff,Nat.reduceBNe,Int.reduceBEq,Int.reduceBNe,Int.reduceLT,Int.reduceLE,t0,t1,t4,h4,t6,h6,t7,t8,hlt',hgj,hs',List.length_map,Int.toNat_natCast,hw,hw']
   (repeat refine And.intro (by omega) ?_)
   refine ⟨l.length - (j + 1),by omega,j + 1,n + 1,x,by omega,rfl,by omega,?_,?_,?_,?_,?_,?_,?_,?_,hr⟩
   iterate 8 focus ((simp (maxSteps:=9^7) only [go_sem,↓reduceIte,reduceCtorEq,Nat.reduceEqDiff,Nat.reduceBEq,Nat.reduceAdd,Nat.reduceSub,Nat.reduceMul,Nat.reduceLT,Nat.reduceLeDiff,Nat.reduceBNe,Int.reduceBEq,Int.reduceBNe,Int.reduceLT,Int.reduceLE,t0,t1,t4,h4,t6,hw',hw]) <;> rfl)
  ·have hs':(x.slot == slot) = false:=by simp [hs]
   rw [if_neg hs] at hr
   simp (maxSteps:=9^7) only [go_sem,↓reduceIte,reduceCtorEq,Nat.reduceEqDiff,Nat.reduceBEq,Nat.reduceAdd,Nat.reduceSub,Nat.reduceMul,Nat.reduceLT,Nat.reduceLeDiff,Nat.reduceBNe,Int.reduceBEq,Int.reduceBNe,Int.reduceLT,Int.reduceLE,t0,t1,t4,h4,t6,h6,t7,t8,hlt',hgj,hs',List.length_map,Int.toNat_natCast,hw]
   (repeat refine And.intro (by omega) ?_)
   refine ⟨l.length - (j + 1),by omega,j + 1,n,o,by omega,rfl,by omega,?_,?_,?_,?_,?_,?_,?_,?_,hr⟩
   iterate 8 focus ((simp (maxSteps:=9^7) only [go_sem,↓reduceIte,reduceCtorEq,Nat.reduceEqDiff,Nat.reduceBEq,Nat.reduceAdd,Nat.reduceSub,Nat.reduceMul,Nat.reduceLT,Nat.reduceLeDiff,Nat.reduceBNe,Int.reduceBEq,Int.reduceBNe,Int.reduceLT,Int.reduceLE,t0,t1,t4,h4,t6,h6,t7,hw]) <;> rfl)
 ·have hlt':¬ (j:Int) < (l.length:Int):=by omega
  rw [List.drop_eq_nil_of_le (by omega)] at hr
  subst hr
  simp only [Nd.a] at h4 h6
  have hd:((n:Int) == 1) = decide (n = 1):=by
   by_cases h:n = 1
   ·simp [h]
   ·rw [decide_eq_false h]; simp; omega
  simp (maxSteps:=9^7) only [go_sem,↓reduceIte,reduceCtorEq,Nat.reduceEqDiff,Nat.reduceBEq,Nat.reduceAdd,Nat.reduceSub,Nat.reduceMul,Nat.reduceLT,Nat.reduceLeDiff,Nat.reduceBNe,Int.reduceBEq,Int.reduceBNe,Int.reduceLT,Int.reduceLE,t0,t1,t4,h4,t6,h6,t7,t8,hlt',List.length_map,z5k,hd]
  exact decide_eq_decide.2 Iff.rfl
/-- do texts rise? -/
def z8n:List ByteArray->Bool
 | x :: y :: l=>lt x y && z8n (y :: l)
 | _=>true
def risInv (l:List ByteArray) (R:Bool) (k:Nat) (σ:St):Prop :=
 ∃ j:Nat,1≤j∧j≤l.length∧k = l.length - j∧σ.T 0 = .sl (l.map .str)∧σ.T 3 = .int .i64 j∧z8n (l.drop (j - 1)) = R
theorem y07 (l:List ByteArray) (hl:l.length≤1000000000) (hs:∀ x,x ∈ l->x.size≤9223372036854775807):AFn Tryz.prog 76 [.sl (l.map .str)] (.bool (z8n l)):=by
 refine fn_rising rfl ?_
 obtain ⟨R,hR⟩:∃ R,z8n l = R:=⟨_,rfl⟩
 rw [hR]
 simp (maxSteps:=9^7) only [go_sem,↓reduceIte,reduceCtorEq,Nat.reduceEqDiff,Nat.reduceBEq,Nat.reduceAdd,Nat.reduceSub,Nat.reduceMul,Nat.reduceLT,Nat.reduceLeDiff,Nat.reduceBNe,Int.reduceBEq,Int.reduceBNe,Int.reduceLT,Int.reduceLE]
 by_cases h0:l.length = 0
 ·obtain rfl:l = []:=List.length_eq_zero_iff.1 h0
  subst hR
  refine z0d (fun k σ=>σ.T 0 = .sl []∧σ.T 3 = .int .i64 1) (k:=0) ⟨rfl,rfl⟩ ?_
  rintro k σ ⟨t0,t3⟩
  simp only [z8w]
  have z:¬ (1:Int) < ((0:Nat):Int):=by omega
  simp (maxSteps:=9^7) only [go_sem,↓reduceIte,reduceCtorEq,Nat.reduceEqDiff,Nat.reduceBEq,Nat.reduceAdd,Nat.reduceSub,Nat.reduceMul,Nat.reduceLT,Nat.reduceLeDiff,Nat.reduceBNe,Int.reduceBEq,Int.reduceBNe,Int.reduceLT,Int.reduceLE,t0,t3,z,List.length_map,Int.ofNat_zero]
  rfl
 refine z0d (risInv l R) (k:=l.length - 1) ⟨1,by omega,by omega,rfl,rfl,rfl,hR⟩ ?_
 clear hR
 rintro k σ ⟨j,h1,hj,rfl,t0,t3,hr⟩
 simp only [z8w]
 by_cases hlt:j < l.length
 ·have hlt':(j:Int) < (l.length:Int):=by omega
  obtain ⟨y,hy⟩:=z0i hlt
  obtain ⟨x,hx⟩:=z0i (l:=l) (j:=j - 1) (by omega)
  have hgy:=z0o (f:=AV.str) hy
  have hgx:=z0o (f:=AV.str) hx
  have hw:=z1j (j:=j) (by omega)
  have hm:IntKind.i64.wrap ((j:Int) - 1) = ((j - 1:Nat):Int):=by rw [IntWalk.i64_in _ (by omega)]; omega
  have hj':((j - 1:Nat):Int) < (l.length:Int):=by omega
  have cl:=z33 x y (hs x (List.mem_of_getElem? hx)) (hs y (List.mem_of_getElem? hy))
  rw [z0h hx,show j - 1 + 1 = j by omega,z0h hy,z8n] at hr
  generalize lt x y = b at *
  cases b
  ·simp only [Bool.false_and] at hr
   subst hr
   (repeat (first | simp (maxSteps:=9^7) only [go_sem,↓reduceIte,reduceCtorEq,Nat.reduceEqDiff,Nat.reduceBEq,Nat.reduceAdd,Nat.reduceSub,Nat.reduceMul,Nat.reduceLT,Nat.reduceLeDiff,Nat.reduceBNe,Int.reduceBEq,Int.reduceBNe,Int.reduceLT,Int.reduceLE,t0,t3,hlt',hgx,hgy,hm,hj',List.length_map,Int.toNat_natCast,hw] | refine z01 (cl) ?_ | refine z00 (cl) ?_ | refine And.intro (by omega) ?_ | refine And.intro (fun d hd=>by (repeat (rcases hd with rfl | hd; · exact ⟨rfl,rfl⟩)); cases hd) ?_))
  ·simp only [Bool.true_and] at hr
   (repeat (first | simp (maxSteps:=9^7) only [go_sem,↓reduceIte,reduceCtorEq,Nat.reduceEqDiff,Nat.reduceBEq,Nat.reduceAdd,Nat.reduceSub,Nat.reduceMul,Nat.reduceLT,Nat.reduceLeDiff,Nat.reduceBNe,Int.reduceBEq,Int.reduceBNe,Int.reduceLT,Int.reduceLE,t0,t3,hlt',hgx,hgy,hm,hj',List.length_map,Int.toNat_natCast,hw] | refine z01 (cl) ?_ | refine z00 (cl) ?_ | refine And.intro (by omega) ?_ | refine And.intro (fun d hd=>by (repeat (rcases hd with rfl | hd; · exact ⟨rfl,rfl⟩)); cases hd) ?_))
   refine ⟨l.length - (j + 1),by omega,j + 1,by omega,by omega,rfl,?_,?_,by rw [Nat.add_sub_cancel,z0h hy]; exact hr⟩
   iterate 2 focus ((simp (maxSteps:=9^7) only [go_sem,↓reduceIte,reduceCtorEq,Nat.reduceEqDiff,Nat.reduceBEq,Nat.reduceAdd,Nat.reduceSub,Nat.reduceMul,Nat.reduceLT,Nat.reduceLeDiff,Nat.reduceBNe,Int.reduceBEq,Int.reduceBNe,Int.reduceLT,Int.reduceLE,t0,hw]) <;> rfl)
 ·have hlt':¬ (j:Int) < (l.length:Int):=by omega
  obtain rfl:j = l.length:=by omega
  obtain ⟨x,hx⟩:=z0i (l:=l) (j:=l.length - 1) (by omega)
  rw [z0h hx,show l.length - 1 + 1 = l.length by omega,List.drop_eq_nil_of_le (Nat.le_refl _)] at hr
  subst hr
  simp (maxSteps:=9^7) only [go_sem,↓reduceIte,reduceCtorEq,Nat.reduceEqDiff,Nat.reduceBEq,Nat.reduceAdd,Nat.reduceSub,Nat.reduceMul,Nat.reduceLT,Nat.reduceLeDiff,Nat.reduceBNe,Int.reduceBEq,Int.reduceBNe,Int.reduceLT,Int.reduceLE,t0,t3,hlt',List.length_map]
  rfl
def zk0 (p:List ByteArray) (k:List Int):Bool:=z8n p && decide (k.length = p.length + 1)
theorem zpv (p:List ByteArray) (k:List Int) (hp:p.length≤1000000000) (hs:∀ x,x ∈ p->x.size≤9223372036854775807):AFn Tryz.prog 52 [.sl (p.map .str),.sl (k.map (.int .i64))] (.bool (zk0 p k)):=by
 refine fn_right15 rfl ?_
 have c1:=y07 p hp hs
 have hw:=z1j (j:=p.length) (by omega)
 unfold zk0
 have hd:((k.length:Int) == ((p.length + 1:Nat):Int)) = decide (k.length = p.length + 1):=by
  by_cases h:k.length = p.length + 1
  ·simp [h]
  ·rw [decide_eq_false h]; simp; omega
 generalize z8n p = b at *
 cases b
 ·(repeat (first | simp (maxSteps:=9^7) only [go_sem,↓reduceIte,reduceCtorEq,Nat.reduceEqDiff,Nat.reduceBEq,Nat.reduceAdd,Nat.reduceSub,Nat.reduceMul,Nat.reduceLT,Nat.reduceLeDiff,Nat.reduceBNe,Int.reduceBEq,Int.reduceBNe,Int.reduceLT,Int.reduceLE,List.length_map] | refine z01 (c1) ?_ | refine z00 (c1) ?_ | refine And.intro (by omega) ?_ | refine And.intro (fun d hd=>by (repeat (rcases hd with rfl | hd; · exact ⟨rfl,rfl⟩)); cases hd) ?_))
 ·(repeat (first | simp (maxSteps:=9^7) only [go_sem,↓reduceIte,reduceCtorEq,Nat.reduceEqDiff,Nat.reduceBEq,Nat.reduceAdd,Nat.reduceSub,Nat.reduceMul,Nat.reduceLT,Nat.reduceLeDiff,Nat.reduceBNe,Int.reduceBEq,Int.reduceBNe,Int.reduceLT,Int.reduceLE,List.length_map,hw,hd] | refine z01 (c1) ?_ | refine z00 (c1) ?_ | refine And.intro (by omega) ?_ | refine And.intro (fun d hd=>by (repeat (rcases hd with rfl | hd; · exact ⟨rfl,rfl⟩)); cases hd) ?_))
/-- the texts of a kid -/
def z2b (p:List ByteArray) (j:Nat):Spn:=(⟨if j = 0 then nul0 else p.getD (j - 1) nul0,if j < p.length then p.getD j nul0 else nul0,!decide (j < p.length)⟩:Spn).norm
theorem zzn {l:List ByteArray} {j:Nat} {d:ByteArray} (h:j < l.length):l.getD j d ∈ l:=by
 rw [List.getD_eq_getElem?_getD,List.getElem?_eq_getElem h]; exact List.getElem_mem h
theorem range15_ok (p:List ByteArray) (j:Nat) (hp:p.length≤1000000000) (hj:j≤p.length) (hs:∀ x,x ∈ p->x.size≤9223372036854775807):AFn Tryz.prog 54 [.sl (p.map .str),.int .i64 j] (z2b p j).a:=by
 refine fn_range15 rfl ?_
 have hget:∀ i,i < p.length->(p.map AV.str).getD i .und = .str (p.getD i nul0):=by
  intro i hi
  rw [List.getD_eq_getElem?_getD,List.getElem?_map,List.getD_eq_getElem?_getD,List.getElem?_eq_getElem hi]; rfl
 have n0:¬ (j:Int) < 0:=by omega
 have n1:¬ (p.length:Int) < (j:Int):=by omega
 have hm:j ≠ 0->IntKind.i64.wrap ((j:Int) - 1) = ((j - 1:Nat):Int):=fun h=>by rw [IntWalk.i64_in _ (by omega)]; omega
 have ok:∀ i,i < p.length->(p.getD i nul0).size≤9223372036854775807:=fun i hi=>hs _ (zzn hi)
 have z:nul0.size≤9223372036854775807:=by decide
 unfold z2b
 by_cases h0:j = 0
 ·have p0:¬ (0:Int) < (j:Int):=by omega
  rw [if_pos h0]
  by_cases h1:j < p.length
  ·have q1:(j:Int) < (p.length:Int):=by omega
   have g1:=hget j h1
   rw [if_pos h1,decide_eq_true h1]
   have cN:=z54 ⟨nul0,p.getD j nul0,false⟩ ⟨z,ok j h1⟩
   generalize p.getD j nul0 = a at *
   (repeat (first | simp (maxSteps:=9^7) only [go_sem,↓reduceIte,reduceCtorEq,Nat.reduceEqDiff,Nat.reduceBEq,Nat.reduceAdd,Nat.reduceSub,Nat.reduceMul,Nat.reduceLT,Nat.reduceLeDiff,Nat.reduceBNe,Int.reduceBEq,Int.reduceBNe,Int.reduceLT,Int.reduceLE,List.length_map,n0,n1,p0,q1,g1,Int.toNat_natCast] | refine z01 (cN) ?_ | refine z00 (cN) ?_ | refine And.intro (by omega) ?_ | refine And.intro (fun d hd=>by (repeat (rcases hd with rfl | hd; · exact ⟨rfl,rfl⟩)); cases hd) ?_))
   all_goals rfl
  ·have q1:¬ (j:Int) < (p.length:Int):=by omega
   rw [if_neg h1,decide_eq_false h1]
   have cN:=z54 ⟨nul0,nul0,true⟩ ⟨z,z⟩
   (repeat (first | simp (maxSteps:=9^7) only [go_sem,↓reduceIte,reduceCtorEq,Nat.reduceEqDiff,Nat.reduceBEq,Nat.reduceAdd,Nat.reduceSub,Nat.reduceMul,Nat.reduceLT,Nat.reduceLeDiff,Nat.reduceBNe,Int.reduceBEq,Int.reduceBNe,Int.reduceLT,Int.reduceLE,List.length_map,n0,n1,p0,q1,Int.toNat_natCast] | refine z01 (cN) ?_ | refine z00 (cN) ?_ | refine And.intro (by omega) ?_ | refine And.intro (fun d hd=>by (repeat (rcases hd with rfl | hd; · exact ⟨rfl,rfl⟩)); cases hd) ?_))
   all_goals rfl
 ·have p0:(0:Int) < (j:Int):=by omega
  have hm:=hm h0
  have g0:=hget (j - 1) (by omega)
  have q0:((j - 1:Nat):Int) < (p.length:Int):=by omega
  have o0:=ok (j - 1) (by omega)
  rw [if_neg h0]
  by_cases h1:j < p.length
  ·have q1:(j:Int) < (p.length:Int):=by omega
   have g1:=hget j h1
   rw [if_pos h1,decide_eq_true h1]
   have cN:=z54 ⟨p.getD (j - 1) nul0,p.getD j nul0,false⟩ ⟨o0,ok j h1⟩
   generalize p.getD j nul0 = a at *
   generalize p.getD (j - 1) nul0 = b at *
   (repeat (first | simp (maxSteps:=9^7) only [go_sem,↓reduceIte,reduceCtorEq,Nat.reduceEqDiff,Nat.reduceBEq,Nat.reduceAdd,Nat.reduceSub,Nat.reduceMul,Nat.reduceLT,Nat.reduceLeDiff,Nat.reduceBNe,Int.reduceBEq,Int.reduceBNe,Int.reduceLT,Int.reduceLE,List.length_map,n0,n1,p0,q0,q1,g0,g1,hm,Int.toNat_natCast] | refine z01 (cN) ?_ | refine z00 (cN) ?_ | refine And.intro (by omega) ?_ | refine And.intro (fun d hd=>by (repeat (rcases hd with rfl | hd; · exact ⟨rfl,rfl⟩)); cases hd) ?_))
   all_goals rfl
  ·have q1:¬ (j:Int) < (p.length:Int):=by omega
   rw [if_neg h1,decide_eq_false h1]
   have cN:=z54 ⟨p.getD (j - 1) nul0,nul0,true⟩ ⟨o0,z⟩
   generalize p.getD (j - 1) nul0 = b at *
   (repeat (first | simp (maxSteps:=9^7) only [go_sem,↓reduceIte,reduceCtorEq,Nat.reduceEqDiff,Nat.reduceBEq,Nat.reduceAdd,Nat.reduceSub,Nat.reduceMul,Nat.reduceLT,Nat.reduceLeDiff,Nat.reduceBNe,Int.reduceBEq,Int.reduceBNe,Int.reduceLT,Int.reduceLE,List.length_map,n0,n1,p0,q0,q1,g0,hm,Int.toNat_natCast] | refine z01 (cN) ?_ | refine z00 (cN) ?_ | refine And.intro (by omega) ?_ | refine And.intro (fun d hd=>by (repeat (rcases hd with rfl | hd; · exact ⟨rfl,rfl⟩)); cases hd) ?_))
   all_goals rfl
end
section
/-
 Trees of the document: messages cut,and lists of them laid one behind the other: walked.
-/
open Go.RowKit
set_option linter.unusedVariables false
set_option linter.unusedSimpArgs false
set_option maxRecDepth 100000
attribute [local go_sem ↓] z11 z0l
/-! ### percolate/percolateref05.Clip -/
def zjg:List ROp:=[⟨.box 6 55 (.t 0),some 2,none,[3,4],[]⟩,⟨.box 3 67 (.t 1),some 3,none,[4],[]⟩,⟨.alloc 6 55 (.agg [(.int .i64 0),(.int .i64 0),(.str ⟨#[]⟩),(.str ⟨#[]⟩),(.bool false),(.str ⟨#[]⟩)]),some 4,none,[],[]⟩,⟨.mv (.c (.bool false)),some 5,none,[],[]⟩]
def y5q:Reg:=⟨[],zjg,[2,3,4],[],false⟩
def zo8:List ROp:=[⟨.load 6 true (.t 2),some 7,none,[8,10,6],[]⟩,⟨.callv (.c (.clo 60 [] [])) [(.t 7)],some 8,none,[10,6],[]⟩,⟨.load 3 true (.t 3),some 9,none,[8,10,6],[]⟩,⟨.callv (.c (.clo 53 [] [])) [(.t 8),(.t 9)],some 10,none,[6],[]⟩,⟨.alloc 3 67 (.agg [(.str ⟨#[]⟩),(.str ⟨#[]⟩),(.bool false)]),some 6,none,[8,10],[]⟩]
def y5p:Reg:=⟨zo8,[⟨.store 3 (.t 6) (.t 10),none,none,[],[6]⟩],[8,10,6],[],true⟩
def zjf:List ROp:=[⟨.load 3 true (.t 6),some 11,none,[12],[]⟩,⟨.callv (.c (.clo 83 [] [])) [(.t 11)],some 12,none,[],[]⟩]
def y5o:Reg:=⟨[],zjf,[12],[],false⟩
def zje:List ROp:=[⟨.bld [(.int .i64 0),(.int .i64 0),(.str ⟨#[]⟩),(.str ⟨#[]⟩),(.bool false),(.str ⟨#[]⟩)] [],some 13,none,[],[]⟩,⟨.store 6 (.t 4) (.t 13),none,none,[],[]⟩,⟨.mv (.c (.bool false)),some 5,none,[],[]⟩]
def y5n:Reg:=⟨[],zje,[],[],false⟩
def zjd:List ROp:=[⟨.faddr 1 (.t 2),some 14,none,[],[]⟩,⟨.load 1 false (.t 14),some 15,none,[],[]⟩,⟨.bin .eql (.t 15) (.c (.int .i64 4)),some 16,none,[],[]⟩]
def y5m:Reg:=⟨[],zjd,[],[],false⟩
def zjc:List ROp:=[⟨.faddr 0 (.t 6),some 17,none,[],[]⟩,⟨.load 1 false (.t 17),some 18,none,[],[]⟩,⟨.faddr 2 (.t 2),some 19,none,[],[]⟩,⟨.store 1 (.t 19) (.t 18),none,none,[],[]⟩]
def y5l:Reg:=⟨[],zjc,[],[],false⟩
def zjb:List ROp:=[⟨.faddr 1 (.t 6),some 20,none,[],[]⟩,⟨.load 1 false (.t 20),some 21,none,[],[]⟩,⟨.faddr 3 (.t 2),some 22,none,[],[]⟩,⟨.store 1 (.t 22) (.t 21),none,none,[],[]⟩]
def y5k:Reg:=⟨[],zjb,[],[],false⟩
def zja:List ROp:=[⟨.faddr 2 (.t 6),some 23,none,[],[]⟩,⟨.load 1 false (.t 23),some 24,none,[],[]⟩,⟨.faddr 4 (.t 2),some 25,none,[],[]⟩,⟨.store 1 (.t 25) (.t 24),none,none,[],[]⟩]
def y5j:Reg:=⟨[],zja,[],[],false⟩
def zj9:List ROp:=[⟨.load 6 true (.t 2),some 26,none,[],[]⟩,⟨.store 6 (.t 4) (.t 26),none,none,[],[]⟩,⟨.mv (.c (.bool true)),some 5,none,[],[]⟩]
def y5i:Reg:=⟨[],zj9,[],[],false⟩
def yg3:IR:=(.seq (.reg y5q)
 (.seq (.reg y5p)
 (.seq (.seq (.reg y5o)
 (.cond (.t 12) (.seq (.reg y5n)
 .ret)
 .skip))
 (.seq (.seq (.reg y5m)
 (.cond (.t 16) (.seq (.reg y5l)
 (.seq (.reg y5k)
 (.reg y5j)))
 .skip))
 (.seq (.reg y5i)
 .ret)))))
def y0u:List RDesc:=[(.cell 4 6 true),(.tmp 5)]
theorem e_clip5_0:EqR y5q zjg [2,3,4]:=fun _ _ _=>rfl
theorem e_clip5_1 (C:FuncId->List AV->AV->Prop) (σ:St) (K:St->Prop):z0k C y5p σ K = z08 C [] [⟨.store 3 (.t 6) (.t 10),none,none,[],[6]⟩] zo8 (σ.kills [8,10,6]) K:=rfl
theorem e_clip5_2:EqR y5o zjf [12]:=fun _ _ _=>rfl
theorem e_clip5_3:EqR y5n zje []:=fun _ _ _=>rfl
theorem e_clip5_4:EqR y5m zjd []:=fun _ _ _=>rfl
theorem e_clip5_5:EqR y5l zjc []:=fun _ _ _=>rfl
theorem e_clip5_6:EqR y5k zjb []:=fun _ _ _=>rfl
theorem e_clip5_7:EqR y5j zja []:=fun _ _ _=>rfl
theorem e_clip5_8:EqR y5i zj9 []:=fun _ _ _=>rfl
theorem fn_clip5 {args:List AV} {r:AV} (ha:args.length.ble Tryz.f78.ntmps = true) (h:run (AFn Tryz.prog) yg3 (endQ y0u r) (z0b args)):AFn Tryz.prog 78 args r :=
 AFn.of_code (pv:=false) (hint:=fun _=>[]) (c:=Tryz.f78.body.getD .skip) (by kernel_rfl) (by kernel_rfl) Tryz.func78 (by kernel_rfl) (by kernel_rfl) (by kernel_rfl) (of_decide_eq_true (by kernel_rfl)) (Nat.le_of_ble_eq_true ha) (Nat.le_of_ble_eq_true (by kernel_rfl)) (z0c h)
/-! ### percolate/percolateref18.Clip -/
def zwl:Reg:=⟨[],[⟨.box 3 67 (.t 1),some 3,none,[4],[]⟩,⟨.mknil 6 55,some 4,none,[],[]⟩],[3,4],[],false⟩
def zwk:Reg:=⟨[],[⟨.mknil 6 55,some 5,none,[],[]⟩],[5],[],false⟩
def zwj:Reg:=⟨[],[⟨.mv (.c (.int .i64 0)),some 6,none,[],[]⟩],[],[],false⟩
def zds:List ROp:=[⟨.mv (.t 6),some 9,none,[],[]⟩,⟨.mv (.t 0),some 10,none,[],[]⟩,⟨.len false (.t 10),some 11,none,[],[]⟩,⟨.bin .lss (.t 9) (.t 11),some 12,none,[],[]⟩]
def zwi:Reg:=⟨[],zds,[],[],false⟩
def zez:List ROp:=[⟨.mv (.t 0),some 16,none,[21,7],[]⟩,⟨.mv (.t 6),some 17,none,[21,7],[]⟩,⟨.iaddr 6 (.t 16) (.t 17),some 18,none,[21,7],[]⟩,⟨.load 6 true (.t 18),some 19,none,[21,7],[]⟩,⟨.load 3 true (.t 3),some 20,none,[21,7],[]⟩,⟨.callv (.c (.clo 78 [] [])) [(.t 19),(.t 20)],some 21,none,[7],[]⟩,⟨.mv (.t 21),some 15,none,[7],[]⟩,⟨.ext 0 (.t 15),some 22,none,[7],[]⟩,⟨.ext 1 (.t 15),some 23,none,[7,7],[]⟩,⟨.alloc 6 55 (.agg [(.int .i64 0),(.int .i64 0),(.str ⟨#[]⟩),(.str ⟨#[]⟩),(.bool false),(.str ⟨#[]⟩)]),some 7,none,[21],[]⟩,⟨.store 6 (.t 7) (.t 22),none,none,[],[7]⟩]
def zwh:Reg:=⟨zez,[⟨.mv (.t 23),some 8,none,[],[]⟩],[21,7],[],true⟩
def zwg:Reg:=⟨[],[⟨.mv (.t 8),some 24,none,[],[]⟩],[],[],false⟩
def zdr:List ROp:=[⟨.mv (.t 5),some 25,none,[27],[]⟩,⟨.load 6 true (.t 7),some 26,none,[27],[]⟩,⟨.bsl 6 55 [(.t 26)],some 27,none,[],[]⟩,⟨.append 6 55 72 (.t 25) (.t 27),some 28,none,[],[]⟩,⟨.mv (.t 28),some 5,none,[],[]⟩]
def zwf:Reg:=⟨[],zdr,[27],[],false⟩
def zdq:List ROp:=[⟨.mv (.t 6),some 13,none,[],[]⟩,⟨.bin .add (.t 13) (.c (.int .i64 1)),some 14,none,[],[]⟩,⟨.mv (.t 14),some 6,none,[],[]⟩]
def zwe:Reg:=⟨[],zdq,[],[],false⟩
def zna:IR:=(.seq (.seq (.reg zwi)
 (.cond (.t 12) .skip
 (.exit 0)))
 (.seq (.block 1 (.seq (.reg zwh)
 (.seq (.reg zwg)
 (.cond (.t 24) (.reg zwf)
 .skip))))
 (.reg zwe)))
def zwd:Reg:=⟨[],[⟨.mv (.t 5),some 29,none,[],[]⟩,⟨.mv (.t 29),some 4,none,[],[]⟩],[],[],false⟩
def y77:IR:=(.seq (.reg zwl)
 (.seq (.reg zwk)
 (.seq (.seq (.reg zwj)
 (.block 0 (.loop zna)))
 (.seq (.reg zwd)
 .ret))))
def zqk:List RDesc:=[(.tmp 4)]
theorem e_clip18_0:EqR zwl [⟨.box 3 67 (.t 1),some 3,none,[4],[]⟩,⟨.mknil 6 55,some 4,none,[],[]⟩] [3,4]:=fun _ _ _=>rfl
theorem e_clip18_1:EqR zwk [⟨.mknil 6 55,some 5,none,[],[]⟩] [5]:=fun _ _ _=>rfl
theorem e_clip18_2:EqR zwj [⟨.mv (.c (.int .i64 0)),some 6,none,[],[]⟩] []:=fun _ _ _=>rfl
theorem e_clip18_3:EqR zwi zds []:=fun _ _ _=>rfl
theorem e_clip18_4 (C:FuncId->List AV->AV->Prop) (σ:St) (K:St->Prop):z0k C zwh σ K = z08 C [] [⟨.mv (.t 23),some 8,none,[],[]⟩] zez (σ.kills [21,7]) K:=rfl
theorem e_clip18_5:EqR zwg [⟨.mv (.t 8),some 24,none,[],[]⟩] []:=fun _ _ _=>rfl
theorem e_clip18_6:EqR zwf zdr [27]:=fun _ _ _=>rfl
theorem e_clip18_7:EqR zwe zdq []:=fun _ _ _=>rfl
theorem e_clip18_9:EqR zwd [⟨.mv (.t 5),some 29,none,[],[]⟩,⟨.mv (.t 29),some 4,none,[],[]⟩] []:=fun _ _ _=>rfl
theorem fn_clip18 {args:List AV} {r:AV} (ha:args.length.ble Tryz.f56.ntmps = true) (h:run (AFn Tryz.prog) y77 (endQ zqk r) (z0b args)):AFn Tryz.prog 56 args r :=
 AFn.of_code (pv:=false) (hint:=fun _=>[]) (c:=Tryz.f56.body.getD .skip) (by kernel_rfl) (by kernel_rfl) Tryz.func56 (by kernel_rfl) (by kernel_rfl) (by kernel_rfl) (of_decide_eq_true (by kernel_rfl)) (Nat.le_of_ble_eq_true ha) (Nat.le_of_ble_eq_true (by kernel_rfl)) (z0c h)
/-! ### percolate/percolateref24.Lists -/
def y4r:Reg:=⟨[],[⟨.mknil 6 55,some 2,none,[],[]⟩],[2],[],false⟩
def ziy:List ROp:=[⟨.mv (.t 0),some 7,none,[9],[]⟩,⟨.len false (.t 7),some 8,none,[9],[]⟩,⟨.call 2 [(.c (.int .i64 8)),(.c (.int .i64 1)),(.c (.int .i64 3)),(.c (.int .i64 0)),(.t 8)],some 9,none,[],[]⟩,⟨.mv (.t 9),some 3,none,[],[]⟩]
def y4q:Reg:=⟨[],ziy,[9],[],false⟩
def y4p:Reg:=⟨[],[⟨.mknil 6 55,some 4,none,[],[]⟩],[4],[],false⟩
def y4o:Reg:=⟨[],[⟨.mv (.c (.int .i64 (-1))),some 5,none,[],[]⟩],[],[],false⟩
def y4n:Reg:=⟨[],[⟨.mv (.c (.int .i64 0)),some 6,none,[],[]⟩],[],[],false⟩
def zix:List ROp:=[⟨.mv (.t 6),some 10,none,[],[]⟩,⟨.mv (.t 0),some 11,none,[],[]⟩,⟨.len false (.t 11),some 12,none,[],[]⟩,⟨.bin .lss (.t 10) (.t 12),some 13,none,[],[]⟩]
def y4m:Reg:=⟨[],zix,[],[],false⟩
def ziw:List ROp:=[⟨.bin .lss (.t 40) (.t 51),some 52,(some (29,false)),[],[]⟩,⟨.pick (.t 29) (.c (.bool true)) (.t 52),some 53,(some (26,true)),[],[]⟩,⟨.pick (.t 26) (.t 53) (.c (.bool false)),some 54,none,[],[]⟩]
def zo7:List ROp:=[⟨.mv (.t 3),some 16,none,[],[]⟩,⟨.mv (.t 6),some 17,none,[],[]⟩,⟨.iaddr 1 (.t 16) (.t 17),some 18,none,[],[]⟩,⟨.load 1 false (.t 18),some 19,none,[],[]⟩,⟨.mv (.t 0),some 20,none,[],[]⟩,⟨.mv (.t 6),some 21,none,[],[]⟩,⟨.iaddr 1 (.t 20) (.t 21),some 22,none,[],[]⟩,⟨.load 1 false (.t 22),some 23,none,[],[]⟩,⟨.len false (.t 23),some 24,none,[],[]⟩,⟨.bin .lss (.t 19) (.t 24),some 25,none,[],[]⟩,⟨.mv (.t 25),some 26,none,[],[]⟩,⟨.mv (.t 5),some 27,(some (26,true)),[],[]⟩,⟨.bin .lss (.t 27) (.c (.int .i64 0)),some 28,(some (26,true)),[],[]⟩,⟨.mv (.t 28),some 29,(some (26,true)),[],[]⟩,⟨.mv (.t 0),some 30,(some (29,false)),[],[]⟩,⟨.mv (.t 6),some 31,(some (29,false)),[],[]⟩,⟨.iaddr 1 (.t 30) (.t 31),some 32,(some (29,false)),[],[]⟩,⟨.load 1 false (.t 32),some 33,(some (29,false)),[],[]⟩,⟨.mv (.t 3),some 34,(some (29,false)),[],[]⟩,⟨.mv (.t 6),some 35,(some (29,false)),[],[]⟩,⟨.iaddr 1 (.t 34) (.t 35),some 36,(some (29,false)),[],[]⟩,⟨.load 1 false (.t 36),some 37,(some (29,false)),[],[]⟩,⟨.iaddr 6 (.t 33) (.t 37),some 38,(some (29,false)),[],[]⟩,⟨.faddr 0 (.t 38),some 39,(some (29,false)),[],[]⟩,⟨.load 1 false (.t 39),some 40,(some (29,false)),[],[]⟩,⟨.mv (.t 0),some 41,(some (29,false)),[],[]⟩,⟨.mv (.t 5),some 42,(some (29,false)),[],[]⟩,⟨.iaddr 1 (.t 41) (.t 42),some 43,(some (29,false)),[],[]⟩,⟨.load 1 false (.t 43),some 44,(some (29,false)),[],[]⟩,⟨.mv (.t 3),some 45,(some (29,false)),[],[]⟩,⟨.mv (.t 5),some 46,(some (29,false)),[],[]⟩,⟨.iaddr 1 (.t 45) (.t 46),some 47,(some (29,false)),[],[]⟩,⟨.load 1 false (.t 47),some 48,(some (29,false)),[],[]⟩,⟨.iaddr 6 (.t 44) (.t 48),some 49,(some (29,false)),[],[]⟩,⟨.faddr 0 (.t 49),some 50,(some (29,false)),[],[]⟩,⟨.load 1 false (.t 50),some 51,(some (29,false)),[],[]⟩]
def y4l:Reg:=⟨zo7,ziw,[],[],true⟩
def y4k:Reg:=⟨[],[⟨.mv (.t 6),some 55,none,[],[]⟩,⟨.mv (.t 55),some 5,none,[],[]⟩],[],[],false⟩
def ziv:List ROp:=[⟨.mv (.t 6),some 14,none,[],[]⟩,⟨.bin .add (.t 14) (.c (.int .i64 1)),some 15,none,[],[]⟩,⟨.mv (.t 15),some 6,none,[],[]⟩]
def y4j:Reg:=⟨[],ziv,[],[],false⟩
def ze4:IR:=(.seq (.seq (.reg y4m)
 (.cond (.t 13) .skip
 (.exit 2)))
 (.seq (.block 3 (.seq (.reg y4l)
 (.cond (.t 54) (.reg y4k)
 .skip)))
 (.reg y4j)))
def zvi:Reg:=⟨[],[⟨.mv (.t 5),some 56,none,[],[]⟩,⟨.bin .lss (.t 56) (.c (.int .i64 0)),some 57,none,[],[]⟩],[],[],false⟩
def zvh:Reg:=⟨[],[⟨.mv (.t 4),some 58,none,[],[]⟩,⟨.mv (.t 58),some 2,none,[],[]⟩],[],[],false⟩
def zew:List ROp:=[⟨.mv (.t 4),some 59,none,[70],[]⟩,⟨.mv (.t 0),some 60,none,[70],[]⟩,⟨.mv (.t 5),some 61,none,[70],[]⟩,⟨.iaddr 1 (.t 60) (.t 61),some 62,none,[70],[]⟩,⟨.load 1 false (.t 62),some 63,none,[70],[]⟩,⟨.mv (.t 3),some 64,none,[70],[]⟩,⟨.mv (.t 5),some 65,none,[70],[]⟩,⟨.iaddr 1 (.t 64) (.t 65),some 66,none,[70],[]⟩,⟨.load 1 false (.t 66),some 67,none,[70],[]⟩,⟨.iaddr 6 (.t 63) (.t 67),some 68,none,[70],[]⟩,⟨.load 6 true (.t 68),some 69,none,[70],[]⟩,⟨.bsl 6 55 [(.t 69)],some 70,none,[],[]⟩]
def zvg:Reg:=⟨zew,[⟨.append 6 55 72 (.t 59) (.t 70),some 71,none,[],[]⟩,⟨.mv (.t 71),some 4,none,[],[]⟩],[70],[],true⟩
def zda:List ROp:=[⟨.mv (.t 3),some 72,none,[],[]⟩,⟨.mv (.t 5),some 73,none,[],[]⟩,⟨.iaddr 1 (.t 72) (.t 73),some 74,none,[],[]⟩,⟨.load 1 false (.t 74),some 75,none,[],[]⟩,⟨.bin .add (.t 75) (.c (.int .i64 1)),some 76,none,[],[]⟩,⟨.iaddr 1 (.t 72) (.t 73),some 77,none,[],[]⟩,⟨.store 1 (.t 77) (.t 76),none,none,[],[]⟩]
def zvf:Reg:=⟨[],zda,[],[],false⟩
def zmu:IR:=(.block 1 (.seq (.reg y4o)
 (.seq (.seq (.reg y4n)
 (.block 2 (.loop ze4)))
 (.seq (.seq (.reg zvi)
 (.cond (.t 57) (.seq (.reg zvh)
 .ret)
 .skip))
 (.seq (.reg zvg)
 (.reg zvf))))))
def yfx:IR:=(.seq (.reg y4r)
 (.seq (.reg y4q)
 (.seq (.reg y4p)
 (.block 0 (.loop zmu)))))
def y0o:List RDesc:=[(.tmp 2)]
theorem e_lists_0:EqR y4r [⟨.mknil 6 55,some 2,none,[],[]⟩] [2]:=fun _ _ _=>rfl
theorem e_lists_1:EqR y4q ziy [9]:=fun _ _ _=>rfl
theorem e_lists_2:EqR y4p [⟨.mknil 6 55,some 4,none,[],[]⟩] [4]:=fun _ _ _=>rfl
theorem e_lists_3:EqR y4o [⟨.mv (.c (.int .i64 (-1))),some 5,none,[],[]⟩] []:=fun _ _ _=>rfl
theorem e_lists_4:EqR y4n [⟨.mv (.c (.int .i64 0)),some 6,none,[],[]⟩] []:=fun _ _ _=>rfl
theorem e_lists_5:EqR y4m zix []:=fun _ _ _=>rfl
theorem e_lists_6 (C:FuncId->List AV->AV->Prop) (σ:St) (K:St->Prop):z0k C y4l σ K = z08 C [] ziw zo7 (σ.kills []) K:=rfl
theorem e_lists_7:EqR y4k [⟨.mv (.t 6),some 55,none,[],[]⟩,⟨.mv (.t 55),some 5,none,[],[]⟩] []:=fun _ _ _=>rfl
theorem e_lists_8:EqR y4j ziv []:=fun _ _ _=>rfl
theorem e_lists_10:EqR zvi [⟨.mv (.t 5),some 56,none,[],[]⟩,⟨.bin .lss (.t 56) (.c (.int .i64 0)),some 57,none,[],[]⟩] []:=fun _ _ _=>rfl
theorem e_lists_11:EqR zvh [⟨.mv (.t 4),some 58,none,[],[]⟩,⟨.mv (.t 58),some 2,none,[],[]⟩] []:=fun _ _ _=>rfl
theorem e_lists_12 (C:FuncId->List AV->AV->Prop) (σ:St) (K:St->Prop):z0k C zvg σ K = z08 C [] [⟨.append 6 55 72 (.t 59) (.t 70),some 71,none,[],[]⟩,⟨.mv (.t 71),some 4,none,[],[]⟩] zew (σ.kills [70]) K:=rfl
theorem e_lists_13:EqR zvf zda []:=fun _ _ _=>rfl
theorem fn_lists {args:List AV} {r:AV} (ha:args.length.ble Tryz.f55.ntmps = true) (h:run (AFn Tryz.prog) yfx (endQ y0o r) (z0b args)):AFn Tryz.prog 55 args r :=
 AFn.of_code (pv:=false) (hint:=fun _=>[]) (c:=Tryz.f55.body.getD .skip) (by kernel_rfl) (by kernel_rfl) Tryz.func55 (by kernel_rfl) (by kernel_rfl) (by kernel_rfl) (of_decide_eq_true (by kernel_rfl)) (Nat.le_of_ble_eq_true ha) (Nat.le_of_ble_eq_true (by kernel_rfl)) (z0c h)
attribute [local go_sem ↓] yg3
attribute [local go_sem] y0u e_clip5_0 zjg e_clip5_1 zo8 e_clip5_2 zjf e_clip5_3 zje e_clip5_4 zjd e_clip5_5 zjc e_clip5_6 zjb e_clip5_7 zja e_clip5_8 zj9
attribute [local go_sem ↓] y77
attribute [local go_sem] zqk e_clip18_0 e_clip18_1 e_clip18_2 e_clip18_3 zds e_clip18_4 zez e_clip18_5 e_clip18_6 zdr e_clip18_7 zdq e_clip18_9
attribute [local go_sem ↓] yfx
attribute [local go_sem] y0o e_lists_0 e_lists_1 ziy e_lists_2 e_lists_3 e_lists_4 e_lists_5 zix e_lists_6 ziw zo7 e_lists_7 e_lists_8 ziv e_lists_10 e_lists_11 e_lists_12 zew e_lists_13 zda
def zp9 (m:Msg) (s:Spn):Msg × Bool :=
 if (m.span.meet s).empty then (Msg.zero,false) else (if m.kind = 4 then ⟨m.stamp,m.kind,(m.span.meet s).lo,(m.span.meet s).hi,(m.span.meet s).op,m.val⟩ else m,true)
/-- texts of at most so many bytes -/
def Spn.le (s:Spn) (n:Nat):Prop:=s.lo.size≤n∧s.hi.size≤n
theorem maxS_le {a b:ByteArray} {n:Nat} (ha:a.size≤n) (hb:b.size≤n):(maxS a b).size≤n:=by unfold maxS; split <;> assumption
theorem minS_le {a b:ByteArray} {n:Nat} (ha:a.size≤n) (hb:b.size≤n):(minS a b).size≤n:=by unfold minS; split <;> assumption
theorem norm_le {s:Spn} {n:Nat} (h:s.le n):s.norm.le n:=by
 unfold Spn.norm
 split
 ·exact ⟨Nat.zero_le _,Nat.zero_le _⟩
 ·split
  ·exact ⟨h.1,Nat.zero_le _⟩
  ·exact h
theorem zzc {a b:Spn} {n:Nat} (ha:a.le n) (hb:b.le n):(a.meet b).le n:=by
 unfold Spn.meet
 refine norm_le ⟨maxS_le ha.1 hb.1,?_⟩
 show (if a.op then b.hi else if b.op then a.hi else minS a.hi b.hi).size≤n
 split
 ·exact hb.2
 ·split
  ·exact ha.2
  ·exact minS_le ha.2 hb.2
theorem znq {s:Spn} {n:Nat} (h:s.le n) (hn:n≤9223372036854775807):SOk s:=⟨Nat.le_trans h.1 hn,Nat.le_trans h.2 hn⟩
/-- a message whose texts are not too long -/
def Msg.le (m:Msg) (n:Nat):Prop:=m.key.size≤n∧m.hi.size≤n∧m.val.size≤n
theorem zea {m:Msg} {n:Nat} (h:m.le n):m.span.le (n + 1):=by
 unfold Msg.span
 split
 ·exact ⟨Nat.le_succ_of_le h.1,Nat.le_succ_of_le h.2.1⟩
 ·refine ⟨Nat.le_succ_of_le h.1,?_⟩
  show (m.key ++ (⟨#[0]⟩:ByteArray)).size≤_
  rw [ByteArray.size_append]
  exact Nat.add_le_add_right h.1 1
theorem clip5_ok (m:Msg) (s:Spn) (n:Nat) (hn:n≤1000000000) (hm:m.le n) (hs:s.le n):AFn Tryz.prog 78 [m.a,s.a] (.tup [(zp9 m s).1.a,.bool (zp9 m s).2]):=by
 refine fn_clip5 rfl ?_
 have c1:=zkb m (by have:=hm.1; omega)
 have l1:=zea hm
 have l2:s.le (n + 1):=⟨Nat.le_succ_of_le hs.1,Nat.le_succ_of_le hs.2⟩
 have c2:=y8z m.span s (znq l1 (by omega)) (znq l2 (by omega))
 have c3:=z3s (m.span.meet s) (znq (zzc l1 l2) (by omega))
 unfold zp9
 generalize m.span.meet s = x at *
 generalize m.span = sp at *
 generalize hb:x.empty = b at *
 obtain ⟨lo,hi,op⟩:=x
 obtain ⟨stamp,kind,key,mhi,mop,val⟩:=m
 cases b
 ·by_cases h4:kind = 4
  ·have h4':(kind == 4) = true:=by simp [h4]
   subst h4
   simp only [Bool.false_eq_true,if_false,if_true]
   (repeat (first | simp (maxSteps:=9^7) only [go_sem,↓reduceIte,reduceCtorEq,Nat.reduceEqDiff,Nat.reduceBEq,Nat.reduceAdd,Nat.reduceSub,Nat.reduceMul,Nat.reduceLT,Nat.reduceLeDiff,Nat.reduceBNe,Int.reduceBEq,Int.reduceBNe,Int.reduceLT,Int.reduceLE,h4'] | refine z01 (c1) ?_ | refine z00 (c1) ?_ | refine z01 (c2) ?_ | refine z00 (c2) ?_ | refine z01 (c3) ?_ | refine z00 (c3) ?_ | refine And.intro (by omega) ?_ | refine And.intro (fun d hd=>by (repeat (rcases hd with rfl | hd; · exact ⟨rfl,rfl⟩)); cases hd) ?_))
  ·have h4':(kind == 4) = false:=by simp [h4]
   simp only [Bool.false_eq_true,if_false,if_neg h4]
   (repeat (first | simp (maxSteps:=9^7) only [go_sem,↓reduceIte,reduceCtorEq,Nat.reduceEqDiff,Nat.reduceBEq,Nat.reduceAdd,Nat.reduceSub,Nat.reduceMul,Nat.reduceLT,Nat.reduceLeDiff,Nat.reduceBNe,Int.reduceBEq,Int.reduceBNe,Int.reduceLT,Int.reduceLE,h4'] | refine z01 (c1) ?_ | refine z00 (c1) ?_ | refine z01 (c2) ?_ | refine z00 (c2) ?_ | refine z01 (c3) ?_ | refine z00 (c3) ?_ | refine And.intro (by omega) ?_ | refine And.intro (fun d hd=>by (repeat (rcases hd with rfl | hd; · exact ⟨rfl,rfl⟩)); cases hd) ?_))
 ·simp only [if_true]
  (repeat (first | simp (maxSteps:=9^7) only [go_sem,↓reduceIte,reduceCtorEq,Nat.reduceEqDiff,Nat.reduceBEq,Nat.reduceAdd,Nat.reduceSub,Nat.reduceMul,Nat.reduceLT,Nat.reduceLeDiff,Nat.reduceBNe,Int.reduceBEq,Int.reduceBNe,Int.reduceLT,Int.reduceLE] | refine z01 (c1) ?_ | refine z00 (c1) ?_ | refine z01 (c2) ?_ | refine z00 (c2) ?_ | refine z01 (c3) ?_ | refine z00 (c3) ?_ | refine And.intro (by omega) ?_ | refine And.intro (fun d hd=>by (repeat (rcases hd with rfl | hd; · exact ⟨rfl,rfl⟩)); cases hd) ?_))
  all_goals first | rfl | exact ⟨rfl,rfl,rfl,rfl,rfl,rfl⟩
def z6z (l:List Msg) (s:Spn):List Msg:=l.filterMap fun m=>if (zp9 m s).2 then some (zp9 m s).1 else none
def clipInv (l:List Msg) (s:Spn) (k:Nat) (σ:St):Prop :=
 ∃ (j:Nat) (out:List Msg),j≤l.length∧k = l.length - j∧out.length≤j∧σ.T 0 = .sl (l.map Msg.a)∧σ.T 3 = .ptr 3 0 0∧σ.H 3 = some ⟨3,67,[s.a],0⟩∧σ.T 5 = .rs 5 0 out.length∧σ.H 5 = some ⟨6,55,out.map Msg.a,0⟩∧σ.T 6 = .int .i64 j ∧
  out ++ z6z (l.drop j) s = z6z l s
theorem clipL_cons (m:Msg) (l:List Msg) (s:Spn):z6z (m :: l) s = (if (zp9 m s).2 then [(zp9 m s).1] else []) ++ z6z l s:=by
 unfold z6z
 rw [List.filterMap_cons]
 cases (zp9 m s).2 <;> rfl
theorem zab:∀ (l:List Msg) (s:Spn),(z6z l s).length≤l.length:=fun l s=>List.length_filterMap_le _ l
set_option maxHeartbeats 1000000 in
theorem y89 (l:List Msg) (s:Spn) (n:Nat) (hn:n≤1000000000) (hl:l.length≤1000000) (hm:∀ m,m ∈ l->m.le n) (hs:s.le n):AFn Tryz.prog 56 [.sl (l.map Msg.a),s.a] (.own 6 55 ((z6z l s).map Msg.a)):=by
 refine fn_clip18 rfl ?_
 obtain ⟨lo,hi,op⟩:=s
 simp (maxSteps:=9^7) only [go_sem,↓reduceIte,reduceCtorEq,Nat.reduceEqDiff,Nat.reduceBEq,Nat.reduceAdd,Nat.reduceSub,Nat.reduceMul,Nat.reduceLT,Nat.reduceLeDiff,Nat.reduceBNe,Int.reduceBEq,Int.reduceBNe,Int.reduceLT,Int.reduceLE]
 refine z0d (clipInv l ⟨lo,hi,op⟩) (k:=l.length) ⟨0,[],by omega,rfl,by simp,rfl,?_,?_,?_,?_,rfl,rfl⟩ ?_
 iterate 4 focus ((simp (maxSteps:=9^7) only [go_sem,↓reduceIte,reduceCtorEq,Nat.reduceEqDiff,Nat.reduceBEq,Nat.reduceAdd,Nat.reduceSub,Nat.reduceMul,Nat.reduceLT,Nat.reduceLeDiff,Nat.reduceBNe,Int.reduceBEq,Int.reduceBNe,Int.reduceLT,Int.reduceLE]) <;> rfl)
 rintro k σ ⟨j,out,hj,rfl,ho,t0,t3,h3,t5,h5,t6,hr⟩
 simp only [zna]
 by_cases hlt:j < l.length
 ·have hlt':(j:Int) < (l.length:Int):=by omega
  obtain ⟨x,hx⟩:=z0i hlt
  have hgj:=z0o (f:=Msg.a) hx
  have hw:=z1j (j:=j) (by omega)
  have cc:=clip5_ok x ⟨lo,hi,op⟩ n hn (hm x (List.mem_of_getElem? hx)) hs
  rw [z0h hx,clipL_cons] at hr
  have ht:List.take out.length (out.map Msg.a) = out.map Msg.a:=List.take_of_length_le (by rw [List.length_map]; exact Nat.le_refl _)
  obtain ⟨y,b,hyb⟩:∃ y b,zp9 x ⟨lo,hi,op⟩ = (y,b):=⟨_,_,rfl⟩
  rw [hyb] at cc hr
  simp only at cc hr
  simp only [Msg.a,Spn.a] at hgj h3
  cases b
  ·simp only [Bool.false_eq_true,if_false,List.nil_append] at hr
   (repeat (first | simp (maxSteps:=9^7) only [go_sem,↓reduceIte,reduceCtorEq,Nat.reduceEqDiff,Nat.reduceBEq,Nat.reduceAdd,Nat.reduceSub,Nat.reduceMul,Nat.reduceLT,Nat.reduceLeDiff,Nat.reduceBNe,Int.reduceBEq,Int.reduceBNe,Int.reduceLT,Int.reduceLE,t0,t3,h3,t5,h5,t6,hlt',hgj,List.length_map,Int.toNat_natCast,hw] | refine z01 (cc) ?_ | refine z00 (cc) ?_ | refine And.intro (by omega) ?_ | refine And.intro (fun d hd=>by (repeat (rcases hd with rfl | hd; · exact ⟨rfl,rfl⟩)); cases hd) ?_))
   refine ⟨l.length - (j + 1),by omega,j + 1,out,by omega,rfl,by omega,?_,?_,?_,?_,?_,?_,hr⟩
   iterate 6 focus ((simp (maxSteps:=9^7) only [go_sem,↓reduceIte,reduceCtorEq,Nat.reduceEqDiff,Nat.reduceBEq,Nat.reduceAdd,Nat.reduceSub,Nat.reduceMul,Nat.reduceLT,Nat.reduceLeDiff,Nat.reduceBNe,Int.reduceBEq,Int.reduceBNe,Int.reduceLT,Int.reduceLE,t0,t3,h3,t5,h5,hw]) <;> rfl)
  ·simp only [if_true] at hr
   (repeat (first | simp (maxSteps:=9^7) only [go_sem,↓reduceIte,reduceCtorEq,Nat.reduceEqDiff,Nat.reduceBEq,Nat.reduceAdd,Nat.reduceSub,Nat.reduceMul,Nat.reduceLT,Nat.reduceLeDiff,Nat.reduceBNe,Int.reduceBEq,Int.reduceBNe,Int.reduceLT,Int.reduceLE,t0,t3,h3,t5,h5,t6,hlt',hgj,List.length_map,Int.toNat_natCast,hw,ht] | refine z01 (cc) ?_ | refine z00 (cc) ?_ | refine And.intro (by omega) ?_ | refine And.intro (fun d hd=>by (repeat (rcases hd with rfl | hd; · exact ⟨rfl,rfl⟩)); cases hd) ?_ | refine And.intro (And.intro (by omega) (fun d hd=>by (repeat (rcases hd with rfl | hd; · exact ⟨rfl,rfl⟩)); cases hd)) ?_))
   refine ⟨l.length - (j + 1),by omega,j + 1,out ++ [y],by omega,rfl,by simp; omega,?_,?_,?_,?_,?_,?_,by rw [List.append_assoc]; exact hr⟩
   iterate 6 focus ((simp (maxSteps:=9^7) only [go_sem,↓reduceIte,reduceCtorEq,Nat.reduceEqDiff,Nat.reduceBEq,Nat.reduceAdd,Nat.reduceSub,Nat.reduceMul,Nat.reduceLT,Nat.reduceLeDiff,Nat.reduceBNe,Int.reduceBEq,Int.reduceBNe,Int.reduceLT,Int.reduceLE,t0,t3,h3,List.length_append,List.map_append,ht,hw]) <;> rfl)
 ·have hlt':¬ (j:Int) < (l.length:Int):=by omega
  rw [List.drop_eq_nil_of_le (by omega)] at hr
  have hr':out = z6z l ⟨lo,hi,op⟩:=by rw [← hr]; exact (List.append_nil _).symm
  rw [← hr']
  simp (maxSteps:=9^7) only [go_sem,↓reduceIte,reduceCtorEq,Nat.reduceEqDiff,Nat.reduceBEq,Nat.reduceAdd,Nat.reduceSub,Nat.reduceMul,Nat.reduceLT,Nat.reduceLeDiff,Nat.reduceBNe,Int.reduceBEq,Int.reduceBNe,Int.reduceLT,Int.reduceLE,t0,t3,h3,t5,h5,t6,hlt',List.length_map]
/-- two lists by rising stamps: of equals the first one's is ahead -/
def z1n:List Msg->List Msg->List Msg
 | [],l=>l
 | l,[]=>l
 | x :: l,y :: m=>if y.stamp < x.stamp then y :: z1n (x :: l) m else x :: z1n l (y :: m)
termination_by a b=>a.length + b.length
theorem z4c (l:List Msg):z1n [] l = l:=by rw [z1n]
theorem z5b (l:List Msg):z1n l [] = l:=by
 cases l with
 | nil=>rw [z1n]
 | cons x l=>rw [z1n]; simp
theorem z92 (x y:Msg) (l m:List Msg):z1n (x :: l) (y :: m) = if y.stamp < x.stamp then y :: z1n (x :: l) m else x :: z1n l (y :: m):=by rw [z1n]
theorem zec:∀ (n:Nat) (a b:List Msg),a.length + b.length≤n->(z1n a b).length = a.length + b.length
 | _,[],b,_=>by rw [z4c]; simp
 | _,x :: a,[],_=>by rw [z5b]; simp
 | 0,x :: a,y :: b,h=>by simp at h
 | n + 1,x :: a,y :: b,h=>by
  rw [z92]
  simp only [List.length_cons] at h
  split
  ·rw [List.length_cons,zec n (x :: a) b (by simp only [List.length_cons]; omega)]; simp only [List.length_cons]; omega
  ·rw [List.length_cons,zec n a (y :: b) (by simp only [List.length_cons]; omega)]; simp only [List.length_cons]; omega
theorem zeb:∀ (n:Nat) (a b:List Msg),a.length + b.length≤n->∀ m,m ∈ z1n a b->m ∈ a∨m ∈ b
 | _,[],b,_,m,h=>by rw [z4c] at h; exact .inr h
 | _,x :: a,[],_,m,h=>by rw [z5b] at h; exact .inl h
 | 0,x :: a,y :: b,h,_,_=>by simp at h
 | n + 1,x :: a,y :: b,h,m,hm=>by
  rw [z92] at hm
  simp only [List.length_cons] at h
  split at hm
  ·rcases List.mem_cons.1 hm with rfl | hm
   ·exact .inr (List.mem_cons_self ..)
   ·rcases zeb n (x :: a) b (by simp only [List.length_cons]; omega) m hm with q | q
    ·exact .inl q
    ·exact .inr (List.mem_cons_of_mem _ q)
  ·rcases List.mem_cons.1 hm with rfl | hm
   ·exact .inl (List.mem_cons_self ..)
   ·rcases zeb n a (y :: b) (by simp only [List.length_cons]; omega) m hm with q | q
    ·exact .inl (List.mem_cons_of_mem _ q)
    ·exact .inr q
/-- which of two lists is next,when so many have been looked at -/
def zf6 (a b:List Msg):Nat->Int
 | 0=>-1
 | 1=>if a = [] then -1 else 0
 | _=>match a,b with
  | [],[]=>-1
  | [],_ :: _=>1
  | _ :: _,[]=>0
  | x :: _,y :: _=>if y.stamp < x.stamp then 1 else 0
def yfd (a b:List Msg) (p q:Nat) (out:List Msg) (k:Nat) (σ:St):Prop :=
 ∃ i:Nat,i≤2∧k = 2 - i∧σ.T 0 = .sl [.sl (a.map Msg.a),.sl (b.map Msg.a)]∧σ.T 3 = .rs 9 0 2∧σ.H 9 = some ⟨1,3,[.int .i64 p,.int .i64 q],0⟩∧σ.T 4 = .rs 4 0 out.length∧σ.H 4 = some ⟨6,55,out.map Msg.a,0⟩ ∧
  σ.T 5 = .int .i64 (zf6 (a.drop p) (b.drop q) i)∧σ.T 6 = .int .i64 i
def liInv (a b R:List Msg) (k:Nat) (σ:St):Prop :=
 ∃ (p q:Nat) (out:List Msg),p≤a.length∧q≤b.length∧k = (a.length - p) + (b.length - q)∧out.length = p + q∧σ.T 0 = .sl [.sl (a.map Msg.a),.sl (b.map Msg.a)]∧σ.T 3 = .rs 9 0 2∧σ.H 9 = some ⟨1,3,[.int .i64 p,.int .i64 q],0⟩∧σ.T 4 = .rs 4 0 out.length∧σ.H 4 = some ⟨6,55,out.map Msg.a,0⟩ ∧
  out ++ z1n (a.drop p) (b.drop q) = R
set_option maxHeartbeats 2000000 in
theorem best_step (C:FuncId->List AV->AV->Prop) (Q:XK->St->Prop) (a b:List Msg) (ha:a.length≤1000000) (hb:b.length≤1000000) (p q:Nat) (out:List Msg)
  (hQ:∀ σ,yfd a b p q out 0 σ->Q (.exit 2) σ) (k:Nat) (σ:St) (hI:yfd a b p q out k σ):run C ze4 (z30 (fun σ'=>∃ m,m < k∧yfd a b p q out m σ') Q) σ:=by
 obtain ⟨i,hi,rfl,t0,t3,h9,t4,h4,t5,t6⟩:=hI
 simp only [ze4]
 have z0:Int.toNat 0 = 0:=rfl
 have z1:Int.toNat 1 = 1:=rfl
 have c2:((2:Nat):Int) = 2:=rfl
 have w0:IntKind.i64.wrap (0 + 1) = ((1:Nat):Int):=by decide
 have w1:IntKind.i64.wrap (1 + 1) = ((2:Nat):Int):=by decide
 match i,hi with
 | 0,_ =>
  have t6:σ.T 6 = .int .i64 0:=t6
  have t5:σ.T 5 = .int .i64 (-1):=t5
  by_cases hp:p < a.length
  ·have hp':(p:Int) < (a.length:Int):=by omega
   obtain ⟨x,hx⟩:=z0i hp
   have hne:¬ a.drop p = []:=by rw [z0h hx]; simp
   simp (maxSteps:=9^7) only [go_sem,↓reduceIte,reduceCtorEq,Nat.reduceEqDiff,Nat.reduceBEq,Nat.reduceAdd,Nat.reduceSub,Nat.reduceMul,Nat.reduceLT,Nat.reduceLeDiff,Nat.reduceBNe,Int.reduceBEq,Int.reduceBNe,Int.reduceLT,Int.reduceLE,t0,t3,h9,t4,h4,t5,t6,hp',z0,c2,w0,List.length_map]
   refine ⟨1,by omega,1,by omega,rfl,?_,?_,?_,?_,?_,?_,?_⟩
   iterate 7 focus ((simp (maxSteps:=9^7) only [go_sem,↓reduceIte,reduceCtorEq,Nat.reduceEqDiff,Nat.reduceBEq,Nat.reduceAdd,Nat.reduceSub,Nat.reduceMul,Nat.reduceLT,Nat.reduceLeDiff,Nat.reduceBNe,Int.reduceBEq,Int.reduceBNe,Int.reduceLT,Int.reduceLE,t0,t3,h9,t4,h4,zf6,if_neg hne,w0]) <;> rfl)
   
  ·have hp':¬ (p:Int) < (a.length:Int):=by omega
   have hne:a.drop p = []:=List.drop_eq_nil_of_le (by omega)
   simp (maxSteps:=9^7) only [go_sem,↓reduceIte,reduceCtorEq,Nat.reduceEqDiff,Nat.reduceBEq,Nat.reduceAdd,Nat.reduceSub,Nat.reduceMul,Nat.reduceLT,Nat.reduceLeDiff,Nat.reduceBNe,Int.reduceBEq,Int.reduceBNe,Int.reduceLT,Int.reduceLE,t0,t3,h9,t4,h4,t5,t6,hp',z0,c2,w0,List.length_map]
   refine ⟨1,by omega,1,by omega,rfl,?_,?_,?_,?_,?_,?_,?_⟩
   iterate 7 focus ((simp (maxSteps:=9^7) only [go_sem,↓reduceIte,reduceCtorEq,Nat.reduceEqDiff,Nat.reduceBEq,Nat.reduceAdd,Nat.reduceSub,Nat.reduceMul,Nat.reduceLT,Nat.reduceLeDiff,Nat.reduceBNe,Int.reduceBEq,Int.reduceBNe,Int.reduceLT,Int.reduceLE,t0,t3,h9,t4,h4,t5,zf6,if_pos hne,w0]) <;> rfl)
 | 1,_ =>
  have t6:σ.T 6 = .int .i64 1:=t6
  have t5:σ.T 5 = .int .i64 (if a.drop p = [] then -1 else 0):=t5
  by_cases hq:q < b.length
  ·have hq':(q:Int) < (b.length:Int):=by omega
   obtain ⟨y,hy⟩:=z0i hq
   have hgy:=z0o (f:=Msg.a) hy
   simp only [Msg.a] at hgy
   by_cases hp:p < a.length
   ·have hp':(p:Int) < (a.length:Int):=by omega
    obtain ⟨x,hx⟩:=z0i hp
    have hgx:=z0o (f:=Msg.a) hx
    simp only [Msg.a] at hgx
    rw [if_neg (by rw [z0h hx]; simp)] at t5
    by_cases hs:y.stamp < x.stamp
    ·simp (maxSteps:=9^7) only [go_sem,↓reduceIte,reduceCtorEq,Nat.reduceEqDiff,Nat.reduceBEq,Nat.reduceAdd,Nat.reduceSub,Nat.reduceMul,Nat.reduceLT,Nat.reduceLeDiff,Nat.reduceBNe,Int.reduceBEq,Int.reduceBNe,Int.reduceLT,Int.reduceLE,t0,t3,h9,t4,h4,t5,t6,hp',hq',hgx,hgy,hs,z0,z1,c2,w1,List.length_map,Int.toNat_natCast]
     (repeat refine And.intro (by omega) ?_)
     refine ⟨0,by omega,2,by omega,rfl,?_,?_,?_,?_,?_,?_,?_⟩
     iterate 7 focus ((simp (maxSteps:=9^7) only [go_sem,↓reduceIte,reduceCtorEq,Nat.reduceEqDiff,Nat.reduceBEq,Nat.reduceAdd,Nat.reduceSub,Nat.reduceMul,Nat.reduceLT,Nat.reduceLeDiff,Nat.reduceBNe,Int.reduceBEq,Int.reduceBNe,Int.reduceLT,Int.reduceLE,t0,t3,h9,t4,h4,zf6,z0h hx,z0h hy,hs,w1,c2]) <;> rfl)
    ·simp (maxSteps:=9^7) only [go_sem,↓reduceIte,reduceCtorEq,Nat.reduceEqDiff,Nat.reduceBEq,Nat.reduceAdd,Nat.reduceSub,Nat.reduceMul,Nat.reduceLT,Nat.reduceLeDiff,Nat.reduceBNe,Int.reduceBEq,Int.reduceBNe,Int.reduceLT,Int.reduceLE,t0,t3,h9,t4,h4,t5,t6,hp',hq',hgx,hgy,hs,z0,z1,c2,w1,List.length_map,Int.toNat_natCast]
     (repeat refine And.intro (by omega) ?_)
     refine ⟨0,by omega,2,by omega,rfl,?_,?_,?_,?_,?_,?_,?_⟩
     iterate 7 focus ((simp (maxSteps:=9^7) only [go_sem,↓reduceIte,reduceCtorEq,Nat.reduceEqDiff,Nat.reduceBEq,Nat.reduceAdd,Nat.reduceSub,Nat.reduceMul,Nat.reduceLT,Nat.reduceLeDiff,Nat.reduceBNe,Int.reduceBEq,Int.reduceBNe,Int.reduceLT,Int.reduceLE,t0,t3,h9,t4,h4,t5,zf6,z0h hx,z0h hy,hs,w1,c2]) <;> rfl)
   ·have hne:a.drop p = []:=List.drop_eq_nil_of_le (by omega)
    rw [if_pos hne] at t5
    simp (maxSteps:=9^7) only [go_sem,↓reduceIte,reduceCtorEq,Nat.reduceEqDiff,Nat.reduceBEq,Nat.reduceAdd,Nat.reduceSub,Nat.reduceMul,Nat.reduceLT,Nat.reduceLeDiff,Nat.reduceBNe,Int.reduceBEq,Int.reduceBNe,Int.reduceLT,Int.reduceLE,t0,t3,h9,t4,h4,t5,t6,hq',hgy,z0,z1,c2,w1,List.length_map,Int.toNat_natCast]
    (repeat refine And.intro (by omega) ?_)
    refine ⟨0,by omega,2,by omega,rfl,?_,?_,?_,?_,?_,?_,?_⟩
    iterate 7 focus ((simp (maxSteps:=9^7) only [go_sem,↓reduceIte,reduceCtorEq,Nat.reduceEqDiff,Nat.reduceBEq,Nat.reduceAdd,Nat.reduceSub,Nat.reduceMul,Nat.reduceLT,Nat.reduceLeDiff,Nat.reduceBNe,Int.reduceBEq,Int.reduceBNe,Int.reduceLT,Int.reduceLE,t0,t3,h9,t4,h4,zf6,hne,z0h hy,w1,c2]) <;> rfl)
  ·have hq':¬ (q:Int) < (b.length:Int):=by omega
   have hne:b.drop q = []:=List.drop_eq_nil_of_le (by omega)
   have hb2:zf6 (a.drop p) (b.drop q) 2 = (if a.drop p = [] then -1 else 0):=by
    rw [hne]; unfold zf6
    cases a.drop p <;> simp
   simp (maxSteps:=9^7) only [go_sem,↓reduceIte,reduceCtorEq,Nat.reduceEqDiff,Nat.reduceBEq,Nat.reduceAdd,Nat.reduceSub,Nat.reduceMul,Nat.reduceLT,Nat.reduceLeDiff,Nat.reduceBNe,Int.reduceBEq,Int.reduceBNe,Int.reduceLT,Int.reduceLE,t0,t3,h9,t4,h4,t6,hq',z0,z1,c2,w1,List.length_map,Int.toNat_natCast]
   (repeat refine And.intro (by omega) ?_)
   refine ⟨0,by omega,2,by omega,rfl,?_,?_,?_,?_,?_,?_,?_⟩
   iterate 7 focus ((simp (maxSteps:=9^7) only [go_sem,↓reduceIte,reduceCtorEq,Nat.reduceEqDiff,Nat.reduceBEq,Nat.reduceAdd,Nat.reduceSub,Nat.reduceMul,Nat.reduceLT,Nat.reduceLeDiff,Nat.reduceBNe,Int.reduceBEq,Int.reduceBNe,Int.reduceLT,Int.reduceLE,t0,t3,h9,t4,h4,t5,hb2,w1,c2]) <;> rfl)
 | 2,_ =>
  have t6':σ.T 6 = .int .i64 2:=t6
  simp (maxSteps:=9^7) only [go_sem,↓reduceIte,reduceCtorEq,Nat.reduceEqDiff,Nat.reduceBEq,Nat.reduceAdd,Nat.reduceSub,Nat.reduceMul,Nat.reduceLT,Nat.reduceLeDiff,Nat.reduceBNe,Int.reduceBEq,Int.reduceBNe,Int.reduceLT,Int.reduceLE,t0,t3,h9,t4,h4,t6',c2,List.length_map]
  refine hQ _ ⟨2,by omega,rfl,?_,?_,?_,?_,?_,?_,?_⟩
  iterate 7 focus ((simp (maxSteps:=9^7) only [go_sem,↓reduceIte,reduceCtorEq,Nat.reduceEqDiff,Nat.reduceBEq,Nat.reduceAdd,Nat.reduceSub,Nat.reduceMul,Nat.reduceLT,Nat.reduceLeDiff,Nat.reduceBNe,Int.reduceBEq,Int.reduceBNe,Int.reduceLT,Int.reduceLE,t0,t3,h9,t4,h4,t5,t6]) <;> rfl)
theorem best_cases (a b:List Msg) (p q:Nat) :
  (∃ x,a[p]? = some x∧zf6 (a.drop p) (b.drop q) 2 = 0∧z1n (a.drop p) (b.drop q) = x :: z1n (a.drop (p + 1)) (b.drop q)) ∨
  (∃ y,b[q]? = some y∧zf6 (a.drop p) (b.drop q) 2 = 1∧z1n (a.drop p) (b.drop q) = y :: z1n (a.drop p) (b.drop (q + 1))) ∨
  (zf6 (a.drop p) (b.drop q) 2 = -1∧z1n (a.drop p) (b.drop q) = []):=by
 rcases Nat.lt_or_ge p a.length with hp | hp
 ·obtain ⟨x,hx⟩:=z0i hp
  rcases Nat.lt_or_ge q b.length with hq | hq
  ·obtain ⟨y,hy⟩:=z0i hq
   rw [z0h hx,z0h hy,z92]
   by_cases h:y.stamp < x.stamp
   ·rw [if_pos h]
    exact .inr (.inl ⟨y,hy,by unfold zf6; simp only; rw [if_pos h],by first | rfl | rw [z0h hx]⟩)
   ·rw [if_neg h]
    exact .inl ⟨x,hx,by unfold zf6; simp only; rw [if_neg h],by first | rfl | rw [z0h hy]⟩
  ·rw [List.drop_eq_nil_of_le hq,z0h hx,z5b,z5b]
   exact .inl ⟨x,hx,rfl,rfl⟩
 ·rw [List.drop_eq_nil_of_le hp]
  rcases Nat.lt_or_ge q b.length with hq | hq
  ·obtain ⟨y,hy⟩:=z0i hq
   rw [z0h hy,z4c,z4c]
   exact .inr (.inl ⟨y,hy,rfl,rfl⟩)
  ·rw [List.drop_eq_nil_of_le hq,z4c]
   exact .inr (.inr ⟨rfl,rfl⟩)
theorem wrapN (n:Nat) (h:n≤1000000000000000):IntKind.i64.wrap ((n:Int) + 1) = ((n + 1:Nat):Int):=z1j h
set_option maxHeartbeats 4000000 in
theorem lists_ok (a b:List Msg) (ha:a.length≤1000000) (hb:b.length≤1000000):AFn Tryz.prog 55 [.sl [.sl (a.map Msg.a),.sl (b.map Msg.a)]] (.own 6 55 ((z1n a b).map Msg.a)):=by
 refine fn_lists rfl ?_
 obtain ⟨R,hR⟩:∃ R,z1n a b = R:=⟨_,rfl⟩
 rw [hR]
 have z0:Int.toNat 0 = 0:=rfl
 have z1:Int.toNat 1 = 1:=rfl
 have z2:Int.toNat 2 = 2:=rfl
 have c2:((2:Nat):Int) = 2:=rfl
 simp (maxSteps:=9^7) only [go_sem,↓reduceIte,reduceCtorEq,Nat.reduceEqDiff,Nat.reduceBEq,Nat.reduceAdd,Nat.reduceSub,Nat.reduceMul,Nat.reduceLT,Nat.reduceLeDiff,Nat.reduceBNe,Int.reduceBEq,Int.reduceBNe,Int.reduceLT,Int.reduceLE,c2,z2,List.replicate_succ,List.replicate_zero]
 (repeat refine And.intro (by omega) ?_)
 refine z0d (liInv a b R) (k:=a.length + b.length) ⟨0,0,[],by omega,by omega,by omega,rfl,?_,?_,?_,?_,?_,hR⟩ ?_
 iterate 5 focus ((simp (maxSteps:=9^7) only [go_sem,↓reduceIte,reduceCtorEq,Nat.reduceEqDiff,Nat.reduceBEq,Nat.reduceAdd,Nat.reduceSub,Nat.reduceMul,Nat.reduceLT,Nat.reduceLeDiff,Nat.reduceBNe,Int.reduceBEq,Int.reduceBNe,Int.reduceLT,Int.reduceLE]) <;> rfl)
 clear hR
 rintro k σ ⟨p,q,out,hp,hq,rfl,ho,t0,t3,h9,t4,h4,hr⟩
 simp only [zmu]
 simp (maxSteps:=9^7) only [go_sem,↓reduceIte,reduceCtorEq,Nat.reduceEqDiff,Nat.reduceBEq,Nat.reduceAdd,Nat.reduceSub,Nat.reduceMul,Nat.reduceLT,Nat.reduceLeDiff,Nat.reduceBNe,Int.reduceBEq,Int.reduceBNe,Int.reduceLT,Int.reduceLE]
 refine z0d (yfd a b p q out) (k:=2) ⟨0,by omega,rfl,?_,?_,?_,?_,?_,?_,?_⟩ (best_step _ _ a b ha hb p q out ?_)
 iterate 7 focus ((simp (maxSteps:=9^7) only [go_sem,↓reduceIte,reduceCtorEq,Nat.reduceEqDiff,Nat.reduceBEq,Nat.reduceAdd,Nat.reduceSub,Nat.reduceMul,Nat.reduceLT,Nat.reduceLeDiff,Nat.reduceBNe,Int.reduceBEq,Int.reduceBNe,Int.reduceLT,Int.reduceLE,t0,t3,h9,t4,h4]) <;> rfl)
 rintro σ ⟨i,hi,hi2,t0,t3,h9,t4,h4,t5,t6⟩
 obtain rfl:i = 2:=by omega
 have ht:List.take out.length (out.map Msg.a) = out.map Msg.a:=List.take_of_length_le (by rw [List.length_map]; exact Nat.le_refl _)
 have hw:=wrapN p (by omega)
 have hw':=wrapN q (by omega)
 have hR0:AFn Tryz.prog 76 [.sl []] (.bool true):=y07 [] (by decide) (fun x hx=>by cases hx)
 rcases best_cases a b p q with ⟨x,hx,hb0,hm⟩ | ⟨y,hy,hb0,hm⟩ | ⟨hb0,hm⟩
 ·rw [hb0] at t5
  rw [hm] at hr
  have hp1:=(List.getElem?_eq_some_iff.1 hx).1
  have hgx:=z0o (f:=Msg.a) hx
  simp only [Msg.a] at hgx
  have hp':(p:Int) < (a.length:Int):=by omega
  (repeat (first | simp (maxSteps:=9^7) only [go_sem,↓reduceIte,reduceCtorEq,Nat.reduceEqDiff,Nat.reduceBEq,Nat.reduceAdd,Nat.reduceSub,Nat.reduceMul,Nat.reduceLT,Nat.reduceLeDiff,Nat.reduceBNe,Int.reduceBEq,Int.reduceBNe,Int.reduceLT,Int.reduceLE,t0,t3,h9,t4,h4,t5,z0,z1,hp',hgx,List.length_map,Int.toNat_natCast,hw,ht] | refine z01 (hR0) ?_ | refine z00 (hR0) ?_ | refine And.intro (by omega) ?_ | refine And.intro (fun d hd=>by (repeat (rcases hd with rfl | hd; · exact ⟨rfl,rfl⟩)); cases hd) ?_ | refine And.intro (And.intro (by omega) (fun d hd=>by (repeat (rcases hd with rfl | hd; · exact ⟨rfl,rfl⟩)); cases hd)) ?_))
  refine ⟨(a.length - (p + 1)) + (b.length - q),by omega,p + 1,q,out ++ [x],by omega,by omega,rfl,by simp; omega,?_,?_,?_,?_,?_,by rw [List.append_assoc]; exact hr⟩
  iterate 5 focus ((simp (maxSteps:=9^7) only [go_sem,↓reduceIte,reduceCtorEq,Nat.reduceEqDiff,Nat.reduceBEq,Nat.reduceAdd,Nat.reduceSub,Nat.reduceMul,Nat.reduceLT,Nat.reduceLeDiff,Nat.reduceBNe,Int.reduceBEq,Int.reduceBNe,Int.reduceLT,Int.reduceLE,t0,t3,hw,List.length_append,List.length_cons,List.length_nil,List.map_append,List.map_cons,List.map_nil,ht]) <;> rfl)
 ·rw [hb0] at t5
  rw [hm] at hr
  have hq1:=(List.getElem?_eq_some_iff.1 hy).1
  have hgy:=z0o (f:=Msg.a) hy
  simp only [Msg.a] at hgy
  have hq':(q:Int) < (b.length:Int):=by omega
  (repeat (first | simp (maxSteps:=9^7) only [go_sem,↓reduceIte,reduceCtorEq,Nat.reduceEqDiff,Nat.reduceBEq,Nat.reduceAdd,Nat.reduceSub,Nat.reduceMul,Nat.reduceLT,Nat.reduceLeDiff,Nat.reduceBNe,Int.reduceBEq,Int.reduceBNe,Int.reduceLT,Int.reduceLE,t0,t3,h9,t4,h4,t5,z0,z1,hq',hgy,List.length_map,Int.toNat_natCast,hw',ht] | refine z01 (hR0) ?_ | refine z00 (hR0) ?_ | refine And.intro (by omega) ?_ | refine And.intro (fun d hd=>by (repeat (rcases hd with rfl | hd; · exact ⟨rfl,rfl⟩)); cases hd) ?_ | refine And.intro (And.intro (by omega) (fun d hd=>by (repeat (rcases hd with rfl | hd; · exact ⟨rfl,rfl⟩)); cases hd)) ?_))
  refine ⟨(a.length - p) + (b.length - (q + 1)),by omega,p,q + 1,out ++ [y],by omega,by omega,rfl,by simp; omega,?_,?_,?_,?_,?_,by rw [List.append_assoc]; exact hr⟩
  iterate 5 focus ((simp (maxSteps:=9^7) only [go_sem,↓reduceIte,reduceCtorEq,Nat.reduceEqDiff,Nat.reduceBEq,Nat.reduceAdd,Nat.reduceSub,Nat.reduceMul,Nat.reduceLT,Nat.reduceLeDiff,Nat.reduceBNe,Int.reduceBEq,Int.reduceBNe,Int.reduceLT,Int.reduceLE,t0,t3,hw',List.set_cons_succ,List.length_append,List.length_cons,List.length_nil,List.map_append,List.map_cons,List.map_nil,ht]) <;> rfl)
 ·rw [hb0] at t5
  rw [hm,List.append_nil] at hr
  subst hr
  simp (maxSteps:=9^7) only [go_sem,↓reduceIte,reduceCtorEq,Nat.reduceEqDiff,Nat.reduceBEq,Nat.reduceAdd,Nat.reduceSub,Nat.reduceMul,Nat.reduceLT,Nat.reduceLeDiff,Nat.reduceBNe,Int.reduceBEq,Int.reduceBNe,Int.reduceLT,Int.reduceLE,t0,t3,h9,t4,h4,t5,z0,z1,List.length_map,Int.toNat_natCast]
end
end Go.Proofs.YthpbokjnfloeoaaGreatDoor
