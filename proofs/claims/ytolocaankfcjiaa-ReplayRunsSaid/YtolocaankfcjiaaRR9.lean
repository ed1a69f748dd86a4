/-
  Part 9 of a proof: RyC, StA, StB, StD, StC.
-/
import Derived.Test.YtolocaankfcjiaaRR8
set_option linter.unusedVariables false
set_option linter.unusedSimpArgs false
set_option maxRecDepth 100000
namespace Go.Proofs.Ytolocaankfcjiaa
section
/-
 Layer 7 on the plain machine: what the document says of operations.
-/
open Go.RowKit
attribute [local go_sem ↓] z0s z0g
theorem z9u (a b:ByteArray) (ha:a.size≤9223372036854775807) (hb:b.size≤9223372036854775807):AFn Try.prog 73 [.str a,.str b] (.bool (leB a b)):=z72 a b ha hb
/-! ### percolate/percolateref02.Has -/
def zkc:Reg:=⟨[],[⟨.box 3 66 (.t 0),some 2,none,[],[]⟩,⟨.mv (.c (.bool false)),some 4,none,[],[]⟩],[2],[],false⟩
def zak:List ROp:=[⟨.mv (.t 1),some 5,none,[8,17],[]⟩,⟨.faddr 0 (.t 2),some 6,none,[8,17],[]⟩,⟨.load 1 false (.t 6),some 7,none,[8,17],[]⟩,⟨.callv (.c (.clo 73 [] [])) [(.t 5),(.t 7)],some 8,none,[17],[]⟩,⟨.un .not (.t 8),some 9,none,[17],[]⟩,⟨.mv (.t 9),some 10,none,[17],[]⟩,⟨.faddr 2 (.t 2),some 11,(some (10,true)),[17],[]⟩,⟨.load 1 false (.t 11),some 12,(some (10,true)),[17],[]⟩,⟨.mv (.t 12),some 13,(some (10,true)),[17],[]⟩,⟨.mv (.t 1),some 14,(some (13,false)),[17],[]⟩,⟨.faddr 1 (.t 2),some 15,(some (13,false)),[17],[]⟩,⟨.load 1 false (.t 15),some 16,(some (13,false)),[17],[]⟩,⟨.callv (.c (.clo 73 [] [])) [(.t 14),(.t 16)],some 17,(some (13,false)),[],[]⟩,⟨.pick (.t 13) (.c (.bool true)) (.t 17),some 18,(some (10,true)),[],[]⟩,⟨.pick (.t 10) (.t 18) (.c (.bool false)),some 19,none,[],[]⟩,⟨.mv (.t 19),some 4,none,[],[]⟩]
def zkb:Reg:=⟨[],zak,[8,17],[],false⟩
def zxl:IR:=(.seq (.reg zkc)
 (.seq (.reg zkb)
 .ret))
def zix:List RDesc:=[(.tmp 4)]
theorem e_rHas7_0:EqR zkc [⟨.box 3 66 (.t 0),some 2,none,[],[]⟩,⟨.mv (.c (.bool false)),some 4,none,[],[]⟩] [2]:=fun _ _ _=>rfl
theorem e_rHas7_1:EqR zkb zak [8,17]:=fun _ _ _=>rfl
theorem fn_rHas7 {args:List AV} {r:AV} (ha:args.length.ble Try.f56.ntmps = true) (h:run (AFn Try.prog) zxl (endQ zix r) (z0b args)):AFn Try.prog 56 args r :=
 AFn.of_code (pv:=false) (hint:=fun _=>[]) (c:=Try.f56.body.getD .skip) (by kernel_rfl) (by kernel_rfl) Try.func56 (by kernel_rfl) (by kernel_rfl) (by kernel_rfl) (of_decide_eq_true (by kernel_rfl)) (Nat.le_of_ble_eq_true ha) (Nat.le_of_ble_eq_true (by kernel_rfl)) (z09 h)
/-! ### percolate/percolateref02.Empty -/
def zbk:Reg:=⟨[],[⟨.box 3 66 (.t 0),some 1,none,[],[]⟩,⟨.mv (.c (.bool false)),some 2,none,[],[]⟩],[1],[],false⟩
def z6u:List ROp:=[⟨.load 3 true (.t 1),some 3,none,[6],[]⟩,⟨.faddr 0 (.t 1),some 4,none,[6],[]⟩,⟨.load 1 false (.t 4),some 5,none,[6],[]⟩,⟨.callv (.c (.clo 56 [] [])) [(.t 3),(.t 5)],some 6,none,[],[]⟩,⟨.un .not (.t 6),some 7,none,[],[]⟩,⟨.mv (.t 7),some 2,none,[],[]⟩]
def zbj:Reg:=⟨[],z6u,[6],[],false⟩
def zfa:IR:=(.seq (.reg zbk)
 (.seq (.reg zbj)
 .ret))
def zb8:List RDesc:=[(.tmp 2)]
theorem zqz:EqR zbk [⟨.box 3 66 (.t 0),some 1,none,[],[]⟩,⟨.mv (.c (.bool false)),some 2,none,[],[]⟩] [1]:=fun _ _ _=>rfl
theorem zqy:EqR zbj z6u [6]:=fun _ _ _=>rfl
theorem fn_rEmpty7 {args:List AV} {r:AV} (ha:args.length.ble Try.f55.ntmps = true) (h:run (AFn Try.prog) zfa (endQ zb8 r) (z0b args)):AFn Try.prog 55 args r :=
 AFn.of_code (pv:=false) (hint:=fun _=>[]) (c:=Try.f55.body.getD .skip) (by kernel_rfl) (by kernel_rfl) Try.func55 (by kernel_rfl) (by kernel_rfl) (by kernel_rfl) (of_decide_eq_true (by kernel_rfl)) (Nat.le_of_ble_eq_true ha) (Nat.le_of_ble_eq_true (by kernel_rfl)) (z09 h)
/-! ### percolate/percolateref07.Span -/
def z8d:List ROp:=[⟨.box 6 26 (.t 0),some 1,none,[2],[]⟩,⟨.alloc 3 66 (.agg [(.str ⟨#[]⟩),(.str ⟨#[]⟩),(.bool false)]),some 2,none,[],[]⟩]
def zef:Reg:=⟨[],z8d,[1,2],[],false⟩
def z8c:List ROp:=[⟨.faddr 0 (.t 1),some 3,none,[],[]⟩,⟨.load 1 false (.t 3),some 4,none,[],[]⟩,⟨.bin .eql (.t 4) (.c (.int .i64 4)),some 5,none,[],[]⟩,⟨.mv (.t 5),some 6,none,[],[]⟩,⟨.faddr 0 (.t 1),some 7,(some (6,false)),[],[]⟩,⟨.load 1 false (.t 7),some 8,(some (6,false)),[],[]⟩,⟨.bin .eql (.t 8) (.c (.int .i64 6)),some 9,(some (6,false)),[],[]⟩,⟨.pick (.t 6) (.c (.bool true)) (.t 9),some 10,none,[],[]⟩]
def zee:Reg:=⟨[],z8c,[],[],false⟩
def z8b:List ROp:=[⟨.faddr 1 (.t 1),some 11,none,[],[]⟩,⟨.load 1 false (.t 11),some 12,none,[],[]⟩,⟨.faddr 2 (.t 1),some 13,none,[],[]⟩,⟨.load 1 false (.t 13),some 14,none,[],[]⟩,⟨.faddr 3 (.t 1),some 15,none,[],[]⟩,⟨.load 1 false (.t 15),some 16,none,[],[]⟩,⟨.bld [(.str ⟨#[]⟩),(.str ⟨#[]⟩),(.bool false)] [⟨0,1,(.t 12)⟩,⟨1,1,(.t 14)⟩,⟨2,1,(.t 16)⟩],some 17,none,[],[]⟩,⟨.store 3 (.t 2) (.t 17),none,none,[],[]⟩]
def zed:Reg:=⟨[],z8b,[],[],false⟩
def z8a:List ROp:=[⟨.faddr 1 (.t 1),some 18,none,[],[]⟩,⟨.load 1 false (.t 18),some 19,none,[],[]⟩,⟨.faddr 1 (.t 1),some 20,none,[],[]⟩,⟨.load 1 false (.t 20),some 21,none,[],[]⟩,⟨.bin .add (.t 21) (.c (.str ⟨#[0]⟩)),some 22,none,[],[]⟩,⟨.bld [(.str ⟨#[]⟩),(.str ⟨#[]⟩),(.bool false)] [⟨0,1,(.t 19)⟩,⟨1,1,(.t 22)⟩],some 23,none,[],[]⟩,⟨.store 3 (.t 2) (.t 23),none,none,[],[]⟩]
def zec:Reg:=⟨[],z8a,[],[],false⟩
def zm2:IR:=(.seq (.reg zef)
 (.seq (.seq (.reg zee)
 (.cond (.t 10) (.seq (.reg zed)
 .ret)
 .skip))
 (.seq (.reg zec)
 .ret)))
def zds:List RDesc:=[(.cell 2 3 true)]
theorem e_r7Span_0:EqR zef z8d [1,2]:=fun _ _ _=>rfl
theorem e_r7Span_1:EqR zee z8c []:=fun _ _ _=>rfl
theorem e_r7Span_2:EqR zed z8b []:=fun _ _ _=>rfl
theorem e_r7Span_3:EqR zec z8a []:=fun _ _ _=>rfl
theorem fn_r7Span {args:List AV} {r:AV} (ha:args.length.ble Try.f44.ntmps = true) (h:run (AFn Try.prog) zm2 (endQ zds r) (z0b args)):AFn Try.prog 44 args r :=
 AFn.of_code (pv:=false) (hint:=fun _=>[]) (c:=Try.f44.body.getD .skip) (by kernel_rfl) (by kernel_rfl) Try.func44 (by kernel_rfl) (by kernel_rfl) (by kernel_rfl) (of_decide_eq_true (by kernel_rfl)) (Nat.le_of_ble_eq_true ha) (Nat.le_of_ble_eq_true (by kernel_rfl)) (z09 h)
/-! ### percolate/percolateref07.Long -/
attribute [local go_sem ↓] zxl
attribute [local go_sem] zix e_rHas7_0 e_rHas7_1 zak
attribute [local go_sem ↓] zfa
attribute [local go_sem] zb8 zqz zqy z6u
attribute [local go_sem ↓] zm2
attribute [local go_sem] zds e_r7Span_0 z8d e_r7Span_1 z8c e_r7Span_2 z8b e_r7Span_3 z8a
theorem rEmpty7_ok (s:OSpn) (h1:s.lo.size≤9000000000) (h2:s.hi.size≤9000000000):AFn Try.prog 55 [s.a] (.bool s.empty):=by
 have hi:leB s.lo s.lo = false:=kp.less_irrefl _
 have has:AFn Try.prog 56 [s.a,.str s.lo] (.bool (!s.empty)):=by
  refine fn_rHas7 rfl ?_
  unfold OSpn.empty
  simp (maxSteps:=9^7) only [go_sem,↓reduceIte,reduceCtorEq,Nat.reduceEqDiff,Nat.reduceBEq,Nat.reduceAdd,Nat.reduceSub,Nat.reduceMul,Nat.reduceLT,Nat.reduceLeDiff,Nat.reduceBNe,Int.reduceBEq,Int.reduceBNe,Int.reduceLT,Int.reduceLE,Opr.a,OSpn.a,nul]
  (first | refine z01 (z9u s.lo s.lo (by omega) (by omega)) ?_ | refine z00 (z9u s.lo s.lo (by omega) (by omega)) ?_)
  cases h3:s.op with
  | true=>simp (maxSteps:=9^7) only [go_sem,↓reduceIte,reduceCtorEq,Nat.reduceEqDiff,Nat.reduceBEq,Nat.reduceAdd,Nat.reduceSub,Nat.reduceMul,Nat.reduceLT,Nat.reduceLeDiff,Nat.reduceBNe,Int.reduceBEq,Int.reduceBNe,Int.reduceLT,Int.reduceLE,Opr.a,OSpn.a,nul,hi,h3]
  | false =>
   simp (maxSteps:=9^7) only [go_sem,↓reduceIte,reduceCtorEq,Nat.reduceEqDiff,Nat.reduceBEq,Nat.reduceAdd,Nat.reduceSub,Nat.reduceMul,Nat.reduceLT,Nat.reduceLeDiff,Nat.reduceBNe,Int.reduceBEq,Int.reduceBNe,Int.reduceLT,Int.reduceLE,Opr.a,OSpn.a,nul,hi,h3]
   (first | refine z01 (z9u s.lo s.hi (by omega) (by omega)) ?_ | refine z00 (z9u s.lo s.hi (by omega) (by omega)) ?_)
   simp (maxSteps:=9^7) only [go_sem,↓reduceIte,reduceCtorEq,Nat.reduceEqDiff,Nat.reduceBEq,Nat.reduceAdd,Nat.reduceSub,Nat.reduceMul,Nat.reduceLT,Nat.reduceLeDiff,Nat.reduceBNe,Int.reduceBEq,Int.reduceBNe,Int.reduceLT,Int.reduceLE,Opr.a,OSpn.a,nul,hi,h3]
 refine fn_rEmpty7 rfl ?_
 simp (maxSteps:=9^7) only [go_sem,↓reduceIte,reduceCtorEq,Nat.reduceEqDiff,Nat.reduceBEq,Nat.reduceAdd,Nat.reduceSub,Nat.reduceMul,Nat.reduceLT,Nat.reduceLeDiff,Nat.reduceBNe,Int.reduceBEq,Int.reduceBNe,Int.reduceLT,Int.reduceLE,Opr.a,OSpn.a,nul]
 (first | refine z01 has ?_ | refine z00 has ?_)
 simp (maxSteps:=9^7) only [go_sem,↓reduceIte,reduceCtorEq,Nat.reduceEqDiff,Nat.reduceBEq,Nat.reduceAdd,Nat.reduceSub,Nat.reduceMul,Nat.reduceLT,Nat.reduceLeDiff,Nat.reduceBNe,Int.reduceBEq,Int.reduceBNe,Int.reduceLT,Int.reduceLE,Opr.a,OSpn.a,nul]
theorem z07 (o:Opr) (h:o.key.size≤9000000000):AFn Try.prog 44 [o.a] o.span.a:=by
 refine fn_r7Span rfl ?_
 unfold Opr.span Opr.ranged nextB
 have z1:(ByteArray.mk #[0]).size = 1:=rfl
 cases h4:(o.kind == 4) <;> cases h6:(o.kind == 6) <;> (simp (maxSteps:=9^7) only [go_sem,↓reduceIte,reduceCtorEq,Nat.reduceEqDiff,Nat.reduceBEq,Nat.reduceAdd,Nat.reduceSub,Nat.reduceMul,Nat.reduceLT,Nat.reduceLeDiff,Nat.reduceBNe,Int.reduceBEq,Int.reduceBNe,Int.reduceLT,Int.reduceLE,Opr.a,OSpn.a,nul,h4,h6,Bool.or_self,z1]; try omega)
def Opr.long (o:Opr) (n:Int):Bool:=decide ((o.key.size:Int)≤n) && decide ((o.hi.size:Int)≤n) && decide ((o.val.size:Int)≤n)
/-! ### percolate/percolateref07.Right -/
def zbt:Reg:=⟨[],[⟨.box 6 26 (.t 0),some 1,none,[],[]⟩,⟨.mv (.c (.bool false)),some 2,none,[],[]⟩],[1],[],false⟩
def z6z:List ROp:=[⟨.faddr 0 (.t 1),some 3,none,[],[]⟩,⟨.load 1 false (.t 3),some 4,none,[],[]⟩,⟨.bin .lss (.t 4) (.c (.int .i64 1)),some 5,none,[],[]⟩,⟨.mv (.t 5),some 6,none,[],[]⟩,⟨.faddr 0 (.t 1),some 7,(some (6,false)),[],[]⟩,⟨.load 1 false (.t 7),some 8,(some (6,false)),[],[]⟩,⟨.bin .gtr (.t 8) (.c (.int .i64 6)),some 9,(some (6,false)),[],[]⟩,⟨.pick (.t 6) (.c (.bool true)) (.t 9),some 10,none,[],[]⟩,⟨.mv (.t 10),some 11,none,[],[]⟩,⟨.faddr 1 (.t 1),some 12,(some (11,false)),[],[]⟩,⟨.load 1 false (.t 12),some 13,(some (11,false)),[],[]⟩,⟨.len true (.t 13),some 14,(some (11,false)),[],[]⟩,⟨.bin .gtr (.t 14) (.c (.int .i64 16)),some 15,(some (11,false)),[],[]⟩,⟨.pick (.t 11) (.c (.bool true)) (.t 15),some 16,none,[],[]⟩,⟨.mv (.t 16),some 17,none,[],[]⟩,⟨.faddr 2 (.t 1),some 18,(some (17,false)),[],[]⟩,⟨.load 1 false (.t 18),some 19,(some (17,false)),[],[]⟩,⟨.len true (.t 19),some 20,(some (17,false)),[],[]⟩,⟨.bin .gtr (.t 20) (.c (.int .i64 16)),some 21,(some (17,false)),[],[]⟩,⟨.pick (.t 17) (.c (.bool true)) (.t 21),some 22,none,[],[]⟩,⟨.mv (.t 22),some 23,none,[],[]⟩,⟨.faddr 4 (.t 1),some 24,(some (23,false)),[],[]⟩,⟨.load 1 false (.t 24),some 25,(some (23,false)),[],[]⟩,⟨.len true (.t 25),some 26,(some (23,false)),[],[]⟩,⟨.bin .gtr (.t 26) (.c (.int .i64 16)),some 27,(some (23,false)),[],[]⟩,⟨.pick (.t 23) (.c (.bool true)) (.t 27),some 28,none,[],[]⟩]
def zbs:Reg:=⟨[],z6z,[],[],false⟩
def zbr:Reg:=⟨[],[⟨.mv (.c (.bool false)),some 2,none,[],[]⟩],[],[],false⟩
def z6y:List ROp:=[⟨.faddr 0 (.t 1),some 29,none,[],[]⟩,⟨.load 1 false (.t 29),some 30,none,[],[]⟩,⟨.bin .gtr (.t 30) (.c (.int .i64 2)),some 31,none,[],[]⟩,⟨.mv (.t 31),some 32,none,[],[]⟩,⟨.faddr 4 (.t 1),some 33,(some (32,true)),[],[]⟩,⟨.load 1 false (.t 33),some 34,(some (32,true)),[],[]⟩,⟨.bin .neq (.t 34) (.c (.str ⟨#[]⟩)),some 35,(some (32,true)),[],[]⟩,⟨.pick (.t 32) (.t 35) (.c (.bool false)),some 36,none,[],[]⟩,⟨.mv (.t 36),some 37,none,[],[]⟩,⟨.faddr 0 (.t 1),some 38,(some (37,false)),[],[]⟩,⟨.load 1 false (.t 38),some 39,(some (37,false)),[],[]⟩,⟨.bin .neq (.t 39) (.c (.int .i64 6)),some 40,(some (37,false)),[],[]⟩,⟨.mv (.t 40),some 41,(some (37,false)),[],[]⟩,⟨.faddr 5 (.t 1),some 42,(some (41,true)),[],[]⟩,⟨.load 1 false (.t 42),some 43,(some (41,true)),[],[]⟩,⟨.bin .neq (.t 43) (.c (.int .i64 0)),some 44,(some (41,true)),[],[]⟩,⟨.pick (.t 41) (.t 44) (.c (.bool false)),some 45,(some (37,false)),[],[]⟩,⟨.pick (.t 37) (.c (.bool true)) (.t 45),some 46,none,[],[]⟩,⟨.mv (.t 46),some 47,none,[],[]⟩,⟨.faddr 0 (.t 1),some 48,(some (47,false)),[],[]⟩,⟨.load 1 false (.t 48),some 49,(some (47,false)),[],[]⟩,⟨.bin .eql (.t 49) (.c (.int .i64 6)),some 50,(some (47,false)),[],[]⟩,⟨.mv (.t 50),some 51,(some (47,false)),[],[]⟩,⟨.faddr 5 (.t 1),some 52,(some (51,true)),[],[]⟩,⟨.load 1 false (.t 52),some 53,(some (51,true)),[],[]⟩,⟨.bin .lss (.t 53) (.c (.int .i64 1)),some 54,(some (51,true)),[],[]⟩,⟨.mv (.t 54),some 55,(some (51,true)),[],[]⟩,⟨.faddr 5 (.t 1),some 56,(some (55,false)),[],[]⟩,⟨.load 1 false (.t 56),some 57,(some (55,false)),[],[]⟩,⟨.bin .gtr (.t 57) (.c (.int .i64 64)),some 58,(some (55,false)),[],[]⟩,⟨.pick (.t 55) (.c (.bool true)) (.t 58),some 59,(some (51,true)),[],[]⟩,⟨.pick (.t 51) (.t 59) (.c (.bool false)),some 60,(some (47,false)),[],[]⟩,⟨.pick (.t 47) (.c (.bool true)) (.t 60),some 61,none,[],[]⟩]
def zbq:Reg:=⟨[],z6y,[],[],false⟩
def zbp:Reg:=⟨[],[⟨.mv (.c (.bool false)),some 2,none,[],[]⟩],[],[],false⟩
def z6x:List ROp:=[⟨.faddr 0 (.t 1),some 62,none,[],[]⟩,⟨.load 1 false (.t 62),some 63,none,[],[]⟩,⟨.bin .eql (.t 63) (.c (.int .i64 4)),some 64,none,[],[]⟩,⟨.mv (.t 64),some 65,none,[],[]⟩,⟨.faddr 0 (.t 1),some 66,(some (65,false)),[],[]⟩,⟨.load 1 false (.t 66),some 67,(some (65,false)),[],[]⟩,⟨.bin .eql (.t 67) (.c (.int .i64 6)),some 68,(some (65,false)),[],[]⟩,⟨.pick (.t 65) (.c (.bool true)) (.t 68),some 69,none,[],[]⟩]
def zbo:Reg:=⟨[],z6x,[],[],false⟩
def z6w:List ROp:=[⟨.load 6 true (.t 1),some 70,none,[71,72],[]⟩,⟨.callv (.c (.clo 44 [] [])) [(.t 70)],some 71,none,[72],[]⟩,⟨.callv (.c (.clo 55 [] [])) [(.t 71)],some 72,none,[],[]⟩,⟨.un .not (.t 72),some 73,none,[],[]⟩,⟨.mv (.t 73),some 74,none,[],[]⟩,⟨.faddr 3 (.t 1),some 75,(some (74,true)),[],[]⟩,⟨.load 1 false (.t 75),some 76,(some (74,true)),[],[]⟩,⟨.un .not (.t 76),some 77,(some (74,true)),[],[]⟩,⟨.mv (.t 77),some 78,(some (74,true)),[],[]⟩,⟨.faddr 2 (.t 1),some 79,(some (78,false)),[],[]⟩,⟨.load 1 false (.t 79),some 80,(some (78,false)),[],[]⟩,⟨.bin .eql (.t 80) (.c (.str ⟨#[]⟩)),some 81,(some (78,false)),[],[]⟩,⟨.pick (.t 78) (.c (.bool true)) (.t 81),some 82,(some (74,true)),[],[]⟩,⟨.pick (.t 74) (.t 82) (.c (.bool false)),some 83,none,[],[]⟩,⟨.mv (.t 83),some 2,none,[],[]⟩]
def zbn:Reg:=⟨[],z6w,[71,72],[],false⟩
def z6v:List ROp:=[⟨.faddr 2 (.t 1),some 84,none,[],[]⟩,⟨.load 1 false (.t 84),some 85,none,[],[]⟩,⟨.bin .eql (.t 85) (.c (.str ⟨#[]⟩)),some 86,none,[],[]⟩,⟨.mv (.t 86),some 87,none,[],[]⟩,⟨.faddr 3 (.t 1),some 88,(some (87,true)),[],[]⟩,⟨.load 1 false (.t 88),some 89,(some (87,true)),[],[]⟩,⟨.un .not (.t 89),some 90,(some (87,true)),[],[]⟩,⟨.pick (.t 87) (.t 90) (.c (.bool false)),some 91,none,[],[]⟩,⟨.mv (.t 91),some 2,none,[],[]⟩]
def zbm:Reg:=⟨[],z6v,[],[],false⟩
def zfb:IR:=(.seq (.reg zbt)
 (.seq (.seq (.reg zbs)
 (.cond (.t 28) (.seq (.reg zbr)
 .ret)
 .skip))
 (.seq (.seq (.reg zbq)
 (.cond (.t 61) (.seq (.reg zbp)
 .ret)
 .skip))
 (.seq (.seq (.reg zbo)
 (.cond (.t 69) (.seq (.reg zbn)
 .ret)
 .skip))
 (.seq (.reg zbm)
 .ret)))))
def zb9:List RDesc:=[(.tmp 2)]
theorem zr7:EqR zbt [⟨.box 6 26 (.t 0),some 1,none,[],[]⟩,⟨.mv (.c (.bool false)),some 2,none,[],[]⟩] [1]:=fun _ _ _=>rfl
theorem zr6:EqR zbs z6z []:=fun _ _ _=>rfl
theorem zr5:EqR zbr [⟨.mv (.c (.bool false)),some 2,none,[],[]⟩] []:=fun _ _ _=>rfl
theorem zr4:EqR zbq z6y []:=fun _ _ _=>rfl
theorem zr3:EqR zbp [⟨.mv (.c (.bool false)),some 2,none,[],[]⟩] []:=fun _ _ _=>rfl
theorem zr2:EqR zbo z6x []:=fun _ _ _=>rfl
theorem zr1:EqR zbn z6w [71,72]:=fun _ _ _=>rfl
theorem zr0:EqR zbm z6v []:=fun _ _ _=>rfl
theorem fn_r7Right {args:List AV} {r:AV} (ha:args.length.ble Try.f41.ntmps = true) (h:run (AFn Try.prog) zfb (endQ zb9 r) (z0b args)):AFn Try.prog 41 args r :=
 AFn.of_code (pv:=false) (hint:=fun _=>[]) (c:=Try.f41.body.getD .skip) (by kernel_rfl) (by kernel_rfl) Try.func41 (by kernel_rfl) (by kernel_rfl) (by kernel_rfl) (of_decide_eq_true (by kernel_rfl)) (Nat.le_of_ble_eq_true ha) (Nat.le_of_ble_eq_true (by kernel_rfl)) (z09 h)
attribute [local go_sem ↓] zfb
attribute [local go_sem] zb9 zr7 zr6 z6z zr5 zr4 z6y zr3 zr2 z6x zr1 z6w zr0 z6v
set_option maxHeartbeats 4000000 in
theorem r7Right_ok (o:Opr) (h:o.key.size≤9000000000) (hh:o.hi.size≤9000000000):AFn Try.prog 41 [o.a] (.bool o.right):=by
 refine fn_r7Right rfl ?_
 have hHI:=hh
 clear hh
 obtain ⟨kind,key,hi,op,val,lim⟩:=o
 have sE0:∀ k,k = 4∨k = 6->AFn Try.prog 44 [.agg [.int .i64 k,.str key,.str hi,.bool op,.str val,.int .i64 lim]] (.agg [.str key,.str hi,.bool op]):=fun k hk=>by
  have:=z07 ⟨k,key,hi,op,val,lim⟩ h
  have e:Opr.span ⟨k,key,hi,op,val,lim⟩ = ⟨key,hi,op⟩:=by rcases hk with rfl | rfl <;> rfl
  rw [e] at this
  exact this
 have eE:AFn Try.prog 55 [.agg [.str key,.str hi,.bool op]] (.bool (!op && !leB key hi)):=rEmpty7_ok ⟨key,hi,op⟩ h hHI
 have hk:kind < 1∨6 < kind∨kind = 1∨kind = 2∨kind = 3∨kind = 4∨kind = 5∨kind = 6:=by omega
 rcases hk with hk | hk | rfl | rfl | rfl | rfl | rfl | rfl
 ·have k1:¬ 1≤kind:=by omega
  have ans:Opr.right ⟨kind,key,hi,op,val,lim⟩ = false:=by unfold Opr.right; simp [k1]
  rw [ans]
  simp (maxSteps:=9^7) only [go_sem,↓reduceIte,reduceCtorEq,Nat.reduceEqDiff,Nat.reduceBEq,Nat.reduceAdd,Nat.reduceSub,Nat.reduceMul,Nat.reduceLT,Nat.reduceLeDiff,Nat.reduceBNe,Int.reduceBEq,Int.reduceBNe,Int.reduceLT,Int.reduceLE,Opr.a,OSpn.a,nul,hk]
 ·have k1:1≤kind:=by omega
  have k2:¬ kind≤6:=by omega
  have k3:¬ kind < 1:=by omega
  have ans:Opr.right ⟨kind,key,hi,op,val,lim⟩ = false:=by unfold Opr.right; simp [k1,k2]
  rw [ans]
  simp (maxSteps:=9^7) only [go_sem,↓reduceIte,reduceCtorEq,Nat.reduceEqDiff,Nat.reduceBEq,Nat.reduceAdd,Nat.reduceSub,Nat.reduceMul,Nat.reduceLT,Nat.reduceLeDiff,Nat.reduceBNe,Int.reduceBEq,Int.reduceBNe,Int.reduceLT,Int.reduceLE,Opr.a,OSpn.a,nul,hk,k3]
 ·-- kind 1
  by_cases ha:(key.size:Int)≤16
  case neg =>
   have g0:16 < (key.size:Int):=by omega
   (repeat (first | simp (maxSteps:=9^7) only [go_sem,↓reduceIte,reduceCtorEq,Nat.reduceEqDiff,Nat.reduceBEq,Nat.reduceAdd,Nat.reduceSub,Nat.reduceMul,Nat.reduceLT,Nat.reduceLeDiff,Nat.reduceBNe,Int.reduceBEq,Int.reduceBNe,Int.reduceLT,Int.reduceLE,Opr.a,OSpn.a,nul,Opr.right,Opr.valued,Opr.ranged,OSpn.empty,nilB,Int.reduceBEq,Bool.or_self,ha,g0] | refine z01 (z07 ⟨kind,key,hi,op,val,lim⟩ h) ?_ | refine z00 (z07 ⟨kind,key,hi,op,val,lim⟩ h) ?_ | refine And.intro (by omega) ?_ | refine And.intro (fun d hd=>by (repeat (rcases hd with rfl | hd; · exact ⟨rfl,rfl⟩)); cases hd) ?_))
  have ga:¬ 16 < (key.size:Int):=by omega
  by_cases hb:(hi.size:Int)≤16
  case neg =>
   have g0:16 < (hi.size:Int):=by omega
   (repeat (first | simp (maxSteps:=9^7) only [go_sem,↓reduceIte,reduceCtorEq,Nat.reduceEqDiff,Nat.reduceBEq,Nat.reduceAdd,Nat.reduceSub,Nat.reduceMul,Nat.reduceLT,Nat.reduceLeDiff,Nat.reduceBNe,Int.reduceBEq,Int.reduceBNe,Int.reduceLT,Int.reduceLE,Opr.a,OSpn.a,nul,Opr.right,Opr.valued,Opr.ranged,OSpn.empty,nilB,Int.reduceBEq,Bool.or_self,ha,ga,hb,g0] | refine z01 (z07 ⟨kind,key,hi,op,val,lim⟩ h) ?_ | refine z00 (z07 ⟨kind,key,hi,op,val,lim⟩ h) ?_ | refine And.intro (by omega) ?_ | refine And.intro (fun d hd=>by (repeat (rcases hd with rfl | hd; · exact ⟨rfl,rfl⟩)); cases hd) ?_))
  have gb:¬ 16 < (hi.size:Int):=by omega
  by_cases hc:(val.size:Int)≤16
  case neg =>
   have g0:16 < (val.size:Int):=by omega
   (repeat (first | simp (maxSteps:=9^7) only [go_sem,↓reduceIte,reduceCtorEq,Nat.reduceEqDiff,Nat.reduceBEq,Nat.reduceAdd,Nat.reduceSub,Nat.reduceMul,Nat.reduceLT,Nat.reduceLeDiff,Nat.reduceBNe,Int.reduceBEq,Int.reduceBNe,Int.reduceLT,Int.reduceLE,Opr.a,OSpn.a,nul,Opr.right,Opr.valued,Opr.ranged,OSpn.empty,nilB,Int.reduceBEq,Bool.or_self,ha,ga,hb,gb,hc,g0] | refine z01 (z07 ⟨kind,key,hi,op,val,lim⟩ h) ?_ | refine z00 (z07 ⟨kind,key,hi,op,val,lim⟩ h) ?_ | refine And.intro (by omega) ?_ | refine And.intro (fun d hd=>by (repeat (rcases hd with rfl | hd; · exact ⟨rfl,rfl⟩)); cases hd) ?_))
  have gc:¬ 16 < (val.size:Int):=by omega
  cases hz:(lim == 0)
  case false =>
   have hz':(lim != 0) = true:=by rw [bne,hz]; rfl
   (repeat (first | simp (maxSteps:=9^7) only [go_sem,↓reduceIte,reduceCtorEq,Nat.reduceEqDiff,Nat.reduceBEq,Nat.reduceAdd,Nat.reduceSub,Nat.reduceMul,Nat.reduceLT,Nat.reduceLeDiff,Nat.reduceBNe,Int.reduceBEq,Int.reduceBNe,Int.reduceLT,Int.reduceLE,Opr.a,OSpn.a,nul,Opr.right,Opr.valued,Opr.ranged,OSpn.empty,nilB,Int.reduceBEq,Bool.or_self,ha,ga,hb,gb,hc,gc,hz,hz'] | refine z01 (z07 ⟨kind,key,hi,op,val,lim⟩ h) ?_ | refine z00 (z07 ⟨kind,key,hi,op,val,lim⟩ h) ?_ | refine And.intro (by omega) ?_ | refine And.intro (fun d hd=>by (repeat (rcases hd with rfl | hd; · exact ⟨rfl,rfl⟩)); cases hd) ?_))
  have hz':(lim != 0) = false:=by rw [bne,hz]; rfl
  cases hh:(hi.toList == (ByteArray.mk #[]).toList) <;> cases op <;> (repeat (first | simp (maxSteps:=9^7) only [go_sem,↓reduceIte,reduceCtorEq,Nat.reduceEqDiff,Nat.reduceBEq,Nat.reduceAdd,Nat.reduceSub,Nat.reduceMul,Nat.reduceLT,Nat.reduceLeDiff,Nat.reduceBNe,Int.reduceBEq,Int.reduceBNe,Int.reduceLT,Int.reduceLE,Opr.a,OSpn.a,nul,Opr.right,Opr.valued,Opr.ranged,OSpn.empty,nilB,Int.reduceBEq,Bool.or_self,ha,ga,hb,gb,hc,gc,hz,hz',hh] | refine z01 (z07 ⟨kind,key,hi,op,val,lim⟩ h) ?_ | refine z00 (z07 ⟨kind,key,hi,op,val,lim⟩ h) ?_ | refine And.intro (by omega) ?_ | refine And.intro (fun d hd=>by (repeat (rcases hd with rfl | hd; · exact ⟨rfl,rfl⟩)); cases hd) ?_))
 ·-- kind 2
  by_cases ha:(key.size:Int)≤16
  case neg =>
   have g0:16 < (key.size:Int):=by omega
   (repeat (first | simp (maxSteps:=9^7) only [go_sem,↓reduceIte,reduceCtorEq,Nat.reduceEqDiff,Nat.reduceBEq,Nat.reduceAdd,Nat.reduceSub,Nat.reduceMul,Nat.reduceLT,Nat.reduceLeDiff,Nat.reduceBNe,Int.reduceBEq,Int.reduceBNe,Int.reduceLT,Int.reduceLE,Opr.a,OSpn.a,nul,Opr.right,Opr.valued,Opr.ranged,OSpn.empty,nilB,Int.reduceBEq,Bool.or_self,ha,g0] | refine z01 (z07 ⟨kind,key,hi,op,val,lim⟩ h) ?_ | refine z00 (z07 ⟨kind,key,hi,op,val,lim⟩ h) ?_ | refine And.intro (by omega) ?_ | refine And.intro (fun d hd=>by (repeat (rcases hd with rfl | hd; · exact ⟨rfl,rfl⟩)); cases hd) ?_))
  have ga:¬ 16 < (key.size:Int):=by omega
  by_cases hb:(hi.size:Int)≤16
  case neg =>
   have g0:16 < (hi.size:Int):=by omega
   (repeat (first | simp (maxSteps:=9^7) only [go_sem,↓reduceIte,reduceCtorEq,Nat.reduceEqDiff,Nat.reduceBEq,Nat.reduceAdd,Nat.reduceSub,Nat.reduceMul,Nat.reduceLT,Nat.reduceLeDiff,Nat.reduceBNe,Int.reduceBEq,Int.reduceBNe,Int.reduceLT,Int.reduceLE,Opr.a,OSpn.a,nul,Opr.right,Opr.valued,Opr.ranged,OSpn.empty,nilB,Int.reduceBEq,Bool.or_self,ha,ga,hb,g0] | refine z01 (z07 ⟨kind,key,hi,op,val,lim⟩ h) ?_ | refine z00 (z07 ⟨kind,key,hi,op,val,lim⟩ h) ?_ | refine And.intro (by omega) ?_ | refine And.intro (fun d hd=>by (repeat (rcases hd with rfl | hd; · exact ⟨rfl,rfl⟩)); cases hd) ?_))
  have gb:¬ 16 < (hi.size:Int):=by omega
  by_cases hc:(val.size:Int)≤16
  case neg =>
   have g0:16 < (val.size:Int):=by omega
   (repeat (first | simp (maxSteps:=9^7) only [go_sem,↓reduceIte,reduceCtorEq,Nat.reduceEqDiff,Nat.reduceBEq,Nat.reduceAdd,Nat.reduceSub,Nat.reduceMul,Nat.reduceLT,Nat.reduceLeDiff,Nat.reduceBNe,Int.reduceBEq,Int.reduceBNe,Int.reduceLT,Int.reduceLE,Opr.a,OSpn.a,nul,Opr.right,Opr.valued,Opr.ranged,OSpn.empty,nilB,Int.reduceBEq,Bool.or_self,ha,ga,hb,gb,hc,g0] | refine z01 (z07 ⟨kind,key,hi,op,val,lim⟩ h) ?_ | refine z00 (z07 ⟨kind,key,hi,op,val,lim⟩ h) ?_ | refine And.intro (by omega) ?_ | refine And.intro (fun d hd=>by (repeat (rcases hd with rfl | hd; · exact ⟨rfl,rfl⟩)); cases hd) ?_))
  have gc:¬ 16 < (val.size:Int):=by omega
  cases hz:(lim == 0)
  case false =>
   have hz':(lim != 0) = true:=by rw [bne,hz]; rfl
   (repeat (first | simp (maxSteps:=9^7) only [go_sem,↓reduceIte,reduceCtorEq,Nat.reduceEqDiff,Nat.reduceBEq,Nat.reduceAdd,Nat.reduceSub,Nat.reduceMul,Nat.reduceLT,Nat.reduceLeDiff,Nat.reduceBNe,Int.reduceBEq,Int.reduceBNe,Int.reduceLT,Int.reduceLE,Opr.a,OSpn.a,nul,Opr.right,Opr.valued,Opr.ranged,OSpn.empty,nilB,Int.reduceBEq,Bool.or_self,ha,ga,hb,gb,hc,gc,hz,hz'] | refine z01 (z07 ⟨kind,key,hi,op,val,lim⟩ h) ?_ | refine z00 (z07 ⟨kind,key,hi,op,val,lim⟩ h) ?_ | refine And.intro (by omega) ?_ | refine And.intro (fun d hd=>by (repeat (rcases hd with rfl | hd; · exact ⟨rfl,rfl⟩)); cases hd) ?_))
  have hz':(lim != 0) = false:=by rw [bne,hz]; rfl
  cases hh:(hi.toList == (ByteArray.mk #[]).toList) <;> cases op <;> (repeat (first | simp (maxSteps:=9^7) only [go_sem,↓reduceIte,reduceCtorEq,Nat.reduceEqDiff,Nat.reduceBEq,Nat.reduceAdd,Nat.reduceSub,Nat.reduceMul,Nat.reduceLT,Nat.reduceLeDiff,Nat.reduceBNe,Int.reduceBEq,Int.reduceBNe,Int.reduceLT,Int.reduceLE,Opr.a,OSpn.a,nul,Opr.right,Opr.valued,Opr.ranged,OSpn.empty,nilB,Int.reduceBEq,Bool.or_self,ha,ga,hb,gb,hc,gc,hz,hz',hh] | refine z01 (z07 ⟨kind,key,hi,op,val,lim⟩ h) ?_ | refine z00 (z07 ⟨kind,key,hi,op,val,lim⟩ h) ?_ | refine And.intro (by omega) ?_ | refine And.intro (fun d hd=>by (repeat (rcases hd with rfl | hd; · exact ⟨rfl,rfl⟩)); cases hd) ?_))
 ·-- kind 3
  by_cases ha:(key.size:Int)≤16
  case neg =>
   have g0:16 < (key.size:Int):=by omega
   (repeat (first | simp (maxSteps:=9^7) only [go_sem,↓reduceIte,reduceCtorEq,Nat.reduceEqDiff,Nat.reduceBEq,Nat.reduceAdd,Nat.reduceSub,Nat.reduceMul,Nat.reduceLT,Nat.reduceLeDiff,Nat.reduceBNe,Int.reduceBEq,Int.reduceBNe,Int.reduceLT,Int.reduceLE,Opr.a,OSpn.a,nul,Opr.right,Opr.valued,Opr.ranged,OSpn.empty,nilB,Int.reduceBEq,Bool.or_self,ha,g0] | refine z01 (z07 ⟨kind,key,hi,op,val,lim⟩ h) ?_ | refine z00 (z07 ⟨kind,key,hi,op,val,lim⟩ h) ?_ | refine And.intro (by omega) ?_ | refine And.intro (fun d hd=>by (repeat (rcases hd with rfl | hd; · exact ⟨rfl,rfl⟩)); cases hd) ?_))
  have ga:¬ 16 < (key.size:Int):=by omega
  by_cases hb:(hi.size:Int)≤16
  case neg =>
   have g0:16 < (hi.size:Int):=by omega
   (repeat (first | simp (maxSteps:=9^7) only [go_sem,↓reduceIte,reduceCtorEq,Nat.reduceEqDiff,Nat.reduceBEq,Nat.reduceAdd,Nat.reduceSub,Nat.reduceMul,Nat.reduceLT,Nat.reduceLeDiff,Nat.reduceBNe,Int.reduceBEq,Int.reduceBNe,Int.reduceLT,Int.reduceLE,Opr.a,OSpn.a,nul,Opr.right,Opr.valued,Opr.ranged,OSpn.empty,nilB,Int.reduceBEq,Bool.or_self,ha,ga,hb,g0] | refine z01 (z07 ⟨kind,key,hi,op,val,lim⟩ h) ?_ | refine z00 (z07 ⟨kind,key,hi,op,val,lim⟩ h) ?_ | refine And.intro (by omega) ?_ | refine And.intro (fun d hd=>by (repeat (rcases hd with rfl | hd; · exact ⟨rfl,rfl⟩)); cases hd) ?_))
  have gb:¬ 16 < (hi.size:Int):=by omega
  by_cases hc:(val.size:Int)≤16
  case neg =>
   have g0:16 < (val.size:Int):=by omega
   (repeat (first | simp (maxSteps:=9^7) only [go_sem,↓reduceIte,reduceCtorEq,Nat.reduceEqDiff,Nat.reduceBEq,Nat.reduceAdd,Nat.reduceSub,Nat.reduceMul,Nat.reduceLT,Nat.reduceLeDiff,Nat.reduceBNe,Int.reduceBEq,Int.reduceBNe,Int.reduceLT,Int.reduceLE,Opr.a,OSpn.a,nul,Opr.right,Opr.valued,Opr.ranged,OSpn.empty,nilB,Int.reduceBEq,Bool.or_self,ha,ga,hb,gb,hc,g0] | refine z01 (z07 ⟨kind,key,hi,op,val,lim⟩ h) ?_ | refine z00 (z07 ⟨kind,key,hi,op,val,lim⟩ h) ?_ | refine And.intro (by omega) ?_ | refine And.intro (fun d hd=>by (repeat (rcases hd with rfl | hd; · exact ⟨rfl,rfl⟩)); cases hd) ?_))
  have gc:¬ 16 < (val.size:Int):=by omega
  cases hn:(val.toList == (ByteArray.mk #[]).toList)
  case false =>
   (repeat (first | simp (maxSteps:=9^7) only [go_sem,↓reduceIte,reduceCtorEq,Nat.reduceEqDiff,Nat.reduceBEq,Nat.reduceAdd,Nat.reduceSub,Nat.reduceMul,Nat.reduceLT,Nat.reduceLeDiff,Nat.reduceBNe,Int.reduceBEq,Int.reduceBNe,Int.reduceLT,Int.reduceLE,Opr.a,OSpn.a,nul,Opr.right,Opr.valued,Opr.ranged,OSpn.empty,nilB,Int.reduceBEq,Bool.or_self,ha,ga,hb,gb,hc,gc,hn] | refine z01 (z07 ⟨kind,key,hi,op,val,lim⟩ h) ?_ | refine z00 (z07 ⟨kind,key,hi,op,val,lim⟩ h) ?_ | refine And.intro (by omega) ?_ | refine And.intro (fun d hd=>by (repeat (rcases hd with rfl | hd; · exact ⟨rfl,rfl⟩)); cases hd) ?_))
  cases hz:(lim == 0)
  case false =>
   have hz':(lim != 0) = true:=by rw [bne,hz]; rfl
   (repeat (first | simp (maxSteps:=9^7) only [go_sem,↓reduceIte,reduceCtorEq,Nat.reduceEqDiff,Nat.reduceBEq,Nat.reduceAdd,Nat.reduceSub,Nat.reduceMul,Nat.reduceLT,Nat.reduceLeDiff,Nat.reduceBNe,Int.reduceBEq,Int.reduceBNe,Int.reduceLT,Int.reduceLE,Opr.a,OSpn.a,nul,Opr.right,Opr.valued,Opr.ranged,OSpn.empty,nilB,Int.reduceBEq,Bool.or_self,ha,ga,hb,gb,hc,gc,hn,hz,hz'] | refine z01 (z07 ⟨kind,key,hi,op,val,lim⟩ h) ?_ | refine z00 (z07 ⟨kind,key,hi,op,val,lim⟩ h) ?_ | refine And.intro (by omega) ?_ | refine And.intro (fun d hd=>by (repeat (rcases hd with rfl | hd; · exact ⟨rfl,rfl⟩)); cases hd) ?_))
  have hz':(lim != 0) = false:=by rw [bne,hz]; rfl
  cases hh:(hi.toList == (ByteArray.mk #[]).toList) <;> cases op <;> (repeat (first | simp (maxSteps:=9^7) only [go_sem,↓reduceIte,reduceCtorEq,Nat.reduceEqDiff,Nat.reduceBEq,Nat.reduceAdd,Nat.reduceSub,Nat.reduceMul,Nat.reduceLT,Nat.reduceLeDiff,Nat.reduceBNe,Int.reduceBEq,Int.reduceBNe,Int.reduceLT,Int.reduceLE,Opr.a,OSpn.a,nul,Opr.right,Opr.valued,Opr.ranged,OSpn.empty,nilB,Int.reduceBEq,Bool.or_self,ha,ga,hb,gb,hc,gc,hn,hz,hz',hh] | refine z01 (z07 ⟨kind,key,hi,op,val,lim⟩ h) ?_ | refine z00 (z07 ⟨kind,key,hi,op,val,lim⟩ h) ?_ | refine And.intro (by omega) ?_ | refine And.intro (fun d hd=>by (repeat (rcases hd with rfl | hd; · exact ⟨rfl,rfl⟩)); cases hd) ?_))
 ·-- kind 4
  have sE:=sE0 4 (by omega)
  by_cases ha:(key.size:Int)≤16
  case neg =>
   have g0:16 < (key.size:Int):=by omega
   (repeat (first | simp (maxSteps:=9^7) only [go_sem,↓reduceIte,reduceCtorEq,Nat.reduceEqDiff,Nat.reduceBEq,Nat.reduceAdd,Nat.reduceSub,Nat.reduceMul,Nat.reduceLT,Nat.reduceLeDiff,Nat.reduceBNe,Int.reduceBEq,Int.reduceBNe,Int.reduceLT,Int.reduceLE,Opr.a,OSpn.a,nul,Opr.right,Opr.valued,Opr.ranged,OSpn.empty,nilB,Int.reduceBEq,Bool.or_self,ha,g0] | refine z01 (sE) ?_ | refine z00 (sE) ?_ | refine z01 (eE) ?_ | refine z00 (eE) ?_ | refine And.intro (by omega) ?_ | refine And.intro (fun d hd=>by (repeat (rcases hd with rfl | hd; · exact ⟨rfl,rfl⟩)); cases hd) ?_))
  have ga:¬ 16 < (key.size:Int):=by omega
  by_cases hb:(hi.size:Int)≤16
  case neg =>
   have g0:16 < (hi.size:Int):=by omega
   (repeat (first | simp (maxSteps:=9^7) only [go_sem,↓reduceIte,reduceCtorEq,Nat.reduceEqDiff,Nat.reduceBEq,Nat.reduceAdd,Nat.reduceSub,Nat.reduceMul,Nat.reduceLT,Nat.reduceLeDiff,Nat.reduceBNe,Int.reduceBEq,Int.reduceBNe,Int.reduceLT,Int.reduceLE,Opr.a,OSpn.a,nul,Opr.right,Opr.valued,Opr.ranged,OSpn.empty,nilB,Int.reduceBEq,Bool.or_self,ha,ga,hb,g0] | refine z01 (sE) ?_ | refine z00 (sE) ?_ | refine z01 (eE) ?_ | refine z00 (eE) ?_ | refine And.intro (by omega) ?_ | refine And.intro (fun d hd=>by (repeat (rcases hd with rfl | hd; · exact ⟨rfl,rfl⟩)); cases hd) ?_))
  have gb:¬ 16 < (hi.size:Int):=by omega
  by_cases hc:(val.size:Int)≤16
  case neg =>
   have g0:16 < (val.size:Int):=by omega
   (repeat (first | simp (maxSteps:=9^7) only [go_sem,↓reduceIte,reduceCtorEq,Nat.reduceEqDiff,Nat.reduceBEq,Nat.reduceAdd,Nat.reduceSub,Nat.reduceMul,Nat.reduceLT,Nat.reduceLeDiff,Nat.reduceBNe,Int.reduceBEq,Int.reduceBNe,Int.reduceLT,Int.reduceLE,Opr.a,OSpn.a,nul,Opr.right,Opr.valued,Opr.ranged,OSpn.empty,nilB,Int.reduceBEq,Bool.or_self,ha,ga,hb,gb,hc,g0] | refine z01 (sE) ?_ | refine z00 (sE) ?_ | refine z01 (eE) ?_ | refine z00 (eE) ?_ | refine And.intro (by omega) ?_ | refine And.intro (fun d hd=>by (repeat (rcases hd with rfl | hd; · exact ⟨rfl,rfl⟩)); cases hd) ?_))
  have gc:¬ 16 < (val.size:Int):=by omega
  cases hn:(val.toList == (ByteArray.mk #[]).toList)
  case false =>
   (repeat (first | simp (maxSteps:=9^7) only [go_sem,↓reduceIte,reduceCtorEq,Nat.reduceEqDiff,Nat.reduceBEq,Nat.reduceAdd,Nat.reduceSub,Nat.reduceMul,Nat.reduceLT,Nat.reduceLeDiff,Nat.reduceBNe,Int.reduceBEq,Int.reduceBNe,Int.reduceLT,Int.reduceLE,Opr.a,OSpn.a,nul,Opr.right,Opr.valued,Opr.ranged,OSpn.empty,nilB,Int.reduceBEq,Bool.or_self,ha,ga,hb,gb,hc,gc,hn] | refine z01 (sE) ?_ | refine z00 (sE) ?_ | refine z01 (eE) ?_ | refine z00 (eE) ?_ | refine And.intro (by omega) ?_ | refine And.intro (fun d hd=>by (repeat (rcases hd with rfl | hd; · exact ⟨rfl,rfl⟩)); cases hd) ?_))
  cases hz:(lim == 0)
  case false =>
   have hz':(lim != 0) = true:=by rw [bne,hz]; rfl
   (repeat (first | simp (maxSteps:=9^7) only [go_sem,↓reduceIte,reduceCtorEq,Nat.reduceEqDiff,Nat.reduceBEq,Nat.reduceAdd,Nat.reduceSub,Nat.reduceMul,Nat.reduceLT,Nat.reduceLeDiff,Nat.reduceBNe,Int.reduceBEq,Int.reduceBNe,Int.reduceLT,Int.reduceLE,Opr.a,OSpn.a,nul,Opr.right,Opr.valued,Opr.ranged,OSpn.empty,nilB,Int.reduceBEq,Bool.or_self,ha,ga,hb,gb,hc,gc,hn,hz,hz'] | refine z01 (sE) ?_ | refine z00 (sE) ?_ | refine z01 (eE) ?_ | refine z00 (eE) ?_ | refine And.intro (by omega) ?_ | refine And.intro (fun d hd=>by (repeat (rcases hd with rfl | hd; · exact ⟨rfl,rfl⟩)); cases hd) ?_))
  have hz':(lim != 0) = false:=by rw [bne,hz]; rfl
  cases op
  case false =>
   cases hl:leB key hi <;> (repeat (first | simp (maxSteps:=9^7) only [go_sem,↓reduceIte,reduceCtorEq,Nat.reduceEqDiff,Nat.reduceBEq,Nat.reduceAdd,Nat.reduceSub,Nat.reduceMul,Nat.reduceLT,Nat.reduceLeDiff,Nat.reduceBNe,Int.reduceBEq,Int.reduceBNe,Int.reduceLT,Int.reduceLE,Opr.a,OSpn.a,nul,Opr.right,Opr.valued,Opr.ranged,OSpn.empty,nilB,Int.reduceBEq,Bool.or_self,ha,ga,hb,gb,hc,gc,hn,hz,hz',hl] | refine z01 (sE) ?_ | refine z00 (sE) ?_ | refine z01 (eE) ?_ | refine z00 (eE) ?_ | refine And.intro (by omega) ?_ | refine And.intro (fun d hd=>by (repeat (rcases hd with rfl | hd; · exact ⟨rfl,rfl⟩)); cases hd) ?_))
  cases hh:(hi.toList == (ByteArray.mk #[]).toList) <;> (repeat (first | simp (maxSteps:=9^7) only [go_sem,↓reduceIte,reduceCtorEq,Nat.reduceEqDiff,Nat.reduceBEq,Nat.reduceAdd,Nat.reduceSub,Nat.reduceMul,Nat.reduceLT,Nat.reduceLeDiff,Nat.reduceBNe,Int.reduceBEq,Int.reduceBNe,Int.reduceLT,Int.reduceLE,Opr.a,OSpn.a,nul,Opr.right,Opr.valued,Opr.ranged,OSpn.empty,nilB,Int.reduceBEq,Bool.or_self,ha,ga,hb,gb,hc,gc,hn,hz,hz',hh] | refine z01 (sE) ?_ | refine z00 (sE) ?_ | refine z01 (eE) ?_ | refine z00 (eE) ?_ | refine And.intro (by omega) ?_ | refine And.intro (fun d hd=>by (repeat (rcases hd with rfl | hd; · exact ⟨rfl,rfl⟩)); cases hd) ?_))
 ·-- kind 5
  by_cases ha:(key.size:Int)≤16
  case neg =>
   have g0:16 < (key.size:Int):=by omega
   (repeat (first | simp (maxSteps:=9^7) only [go_sem,↓reduceIte,reduceCtorEq,Nat.reduceEqDiff,Nat.reduceBEq,Nat.reduceAdd,Nat.reduceSub,Nat.reduceMul,Nat.reduceLT,Nat.reduceLeDiff,Nat.reduceBNe,Int.reduceBEq,Int.reduceBNe,Int.reduceLT,Int.reduceLE,Opr.a,OSpn.a,nul,Opr.right,Opr.valued,Opr.ranged,OSpn.empty,nilB,Int.reduceBEq,Bool.or_self,ha,g0] | refine z01 (z07 ⟨kind,key,hi,op,val,lim⟩ h) ?_ | refine z00 (z07 ⟨kind,key,hi,op,val,lim⟩ h) ?_ | refine And.intro (by omega) ?_ | refine And.intro (fun d hd=>by (repeat (rcases hd with rfl | hd; · exact ⟨rfl,rfl⟩)); cases hd) ?_))
  have ga:¬ 16 < (key.size:Int):=by omega
  by_cases hb:(hi.size:Int)≤16
  case neg =>
   have g0:16 < (hi.size:Int):=by omega
   (repeat (first | simp (maxSteps:=9^7) only [go_sem,↓reduceIte,reduceCtorEq,Nat.reduceEqDiff,Nat.reduceBEq,Nat.reduceAdd,Nat.reduceSub,Nat.reduceMul,Nat.reduceLT,Nat.reduceLeDiff,Nat.reduceBNe,Int.reduceBEq,Int.reduceBNe,Int.reduceLT,Int.reduceLE,Opr.a,OSpn.a,nul,Opr.right,Opr.valued,Opr.ranged,OSpn.empty,nilB,Int.reduceBEq,Bool.or_self,ha,ga,hb,g0] | refine z01 (z07 ⟨kind,key,hi,op,val,lim⟩ h) ?_ | refine z00 (z07 ⟨kind,key,hi,op,val,lim⟩ h) ?_ | refine And.intro (by omega) ?_ | refine And.intro (fun d hd=>by (repeat (rcases hd with rfl | hd; · exact ⟨rfl,rfl⟩)); cases hd) ?_))
  have gb:¬ 16 < (hi.size:Int):=by omega
  by_cases hc:(val.size:Int)≤16
  case neg =>
   have g0:16 < (val.size:Int):=by omega
   (repeat (first | simp (maxSteps:=9^7) only [go_sem,↓reduceIte,reduceCtorEq,Nat.reduceEqDiff,Nat.reduceBEq,Nat.reduceAdd,Nat.reduceSub,Nat.reduceMul,Nat.reduceLT,Nat.reduceLeDiff,Nat.reduceBNe,Int.reduceBEq,Int.reduceBNe,Int.reduceLT,Int.reduceLE,Opr.a,OSpn.a,nul,Opr.right,Opr.valued,Opr.ranged,OSpn.empty,nilB,Int.reduceBEq,Bool.or_self,ha,ga,hb,gb,hc,g0] | refine z01 (z07 ⟨kind,key,hi,op,val,lim⟩ h) ?_ | refine z00 (z07 ⟨kind,key,hi,op,val,lim⟩ h) ?_ | refine And.intro (by omega) ?_ | refine And.intro (fun d hd=>by (repeat (rcases hd with rfl | hd; · exact ⟨rfl,rfl⟩)); cases hd) ?_))
  have gc:¬ 16 < (val.size:Int):=by omega
  cases hn:(val.toList == (ByteArray.mk #[]).toList)
  case false =>
   (repeat (first | simp (maxSteps:=9^7) only [go_sem,↓reduceIte,reduceCtorEq,Nat.reduceEqDiff,Nat.reduceBEq,Nat.reduceAdd,Nat.reduceSub,Nat.reduceMul,Nat.reduceLT,Nat.reduceLeDiff,Nat.reduceBNe,Int.reduceBEq,Int.reduceBNe,Int.reduceLT,Int.reduceLE,Opr.a,OSpn.a,nul,Opr.right,Opr.valued,Opr.ranged,OSpn.empty,nilB,Int.reduceBEq,Bool.or_self,ha,ga,hb,gb,hc,gc,hn] | refine z01 (z07 ⟨kind,key,hi,op,val,lim⟩ h) ?_ | refine z00 (z07 ⟨kind,key,hi,op,val,lim⟩ h) ?_ | refine And.intro (by omega) ?_ | refine And.intro (fun d hd=>by (repeat (rcases hd with rfl | hd; · exact ⟨rfl,rfl⟩)); cases hd) ?_))
  cases hz:(lim == 0)
  case false =>
   have hz':(lim != 0) = true:=by rw [bne,hz]; rfl
   (repeat (first | simp (maxSteps:=9^7) only [go_sem,↓reduceIte,reduceCtorEq,Nat.reduceEqDiff,Nat.reduceBEq,Nat.reduceAdd,Nat.reduceSub,Nat.reduceMul,Nat.reduceLT,Nat.reduceLeDiff,Nat.reduceBNe,Int.reduceBEq,Int.reduceBNe,Int.reduceLT,Int.reduceLE,Opr.a,OSpn.a,nul,Opr.right,Opr.valued,Opr.ranged,OSpn.empty,nilB,Int.reduceBEq,Bool.or_self,ha,ga,hb,gb,hc,gc,hn,hz,hz'] | refine z01 (z07 ⟨kind,key,hi,op,val,lim⟩ h) ?_ | refine z00 (z07 ⟨kind,key,hi,op,val,lim⟩ h) ?_ | refine And.intro (by omega) ?_ | refine And.intro (fun d hd=>by (repeat (rcases hd with rfl | hd; · exact ⟨rfl,rfl⟩)); cases hd) ?_))
  have hz':(lim != 0) = false:=by rw [bne,hz]; rfl
  cases hh:(hi.toList == (ByteArray.mk #[]).toList) <;> cases op <;> (repeat (first | simp (maxSteps:=9^7) only [go_sem,↓reduceIte,reduceCtorEq,Nat.reduceEqDiff,Nat.reduceBEq,Nat.reduceAdd,Nat.reduceSub,Nat.reduceMul,Nat.reduceLT,Nat.reduceLeDiff,Nat.reduceBNe,Int.reduceBEq,Int.reduceBNe,Int.reduceLT,Int.reduceLE,Opr.a,OSpn.a,nul,Opr.right,Opr.valued,Opr.ranged,OSpn.empty,nilB,Int.reduceBEq,Bool.or_self,ha,ga,hb,gb,hc,gc,hn,hz,hz',hh] | refine z01 (z07 ⟨kind,key,hi,op,val,lim⟩ h) ?_ | refine z00 (z07 ⟨kind,key,hi,op,val,lim⟩ h) ?_ | refine And.intro (by omega) ?_ | refine And.intro (fun d hd=>by (repeat (rcases hd with rfl | hd; · exact ⟨rfl,rfl⟩)); cases hd) ?_))
 ·-- kind 6
  have sE:=sE0 6 (by omega)
  by_cases ha:(key.size:Int)≤16
  case neg =>
   have g0:16 < (key.size:Int):=by omega
   (repeat (first | simp (maxSteps:=9^7) only [go_sem,↓reduceIte,reduceCtorEq,Nat.reduceEqDiff,Nat.reduceBEq,Nat.reduceAdd,Nat.reduceSub,Nat.reduceMul,Nat.reduceLT,Nat.reduceLeDiff,Nat.reduceBNe,Int.reduceBEq,Int.reduceBNe,Int.reduceLT,Int.reduceLE,Opr.a,OSpn.a,nul,Opr.right,Opr.valued,Opr.ranged,OSpn.empty,nilB,Int.reduceBEq,Bool.or_self,ha,g0] | refine z01 (sE) ?_ | refine z00 (sE) ?_ | refine z01 (eE) ?_ | refine z00 (eE) ?_ | refine And.intro (by omega) ?_ | refine And.intro (fun d hd=>by (repeat (rcases hd with rfl | hd; · exact ⟨rfl,rfl⟩)); cases hd) ?_))
  have ga:¬ 16 < (key.size:Int):=by omega
  by_cases hb:(hi.size:Int)≤16
  case neg =>
   have g0:16 < (hi.size:Int):=by omega
   (repeat (first | simp (maxSteps:=9^7) only [go_sem,↓reduceIte,reduceCtorEq,Nat.reduceEqDiff,Nat.reduceBEq,Nat.reduceAdd,Nat.reduceSub,Nat.reduceMul,Nat.reduceLT,Nat.reduceLeDiff,Nat.reduceBNe,Int.reduceBEq,Int.reduceBNe,Int.reduceLT,Int.reduceLE,Opr.a,OSpn.a,nul,Opr.right,Opr.valued,Opr.ranged,OSpn.empty,nilB,Int.reduceBEq,Bool.or_self,ha,ga,hb,g0] | refine z01 (sE) ?_ | refine z00 (sE) ?_ | refine z01 (eE) ?_ | refine z00 (eE) ?_ | refine And.intro (by omega) ?_ | refine And.intro (fun d hd=>by (repeat (rcases hd with rfl | hd; · exact ⟨rfl,rfl⟩)); cases hd) ?_))
  have gb:¬ 16 < (hi.size:Int):=by omega
  by_cases hc:(val.size:Int)≤16
  case neg =>
   have g0:16 < (val.size:Int):=by omega
   (repeat (first | simp (maxSteps:=9^7) only [go_sem,↓reduceIte,reduceCtorEq,Nat.reduceEqDiff,Nat.reduceBEq,Nat.reduceAdd,Nat.reduceSub,Nat.reduceMul,Nat.reduceLT,Nat.reduceLeDiff,Nat.reduceBNe,Int.reduceBEq,Int.reduceBNe,Int.reduceLT,Int.reduceLE,Opr.a,OSpn.a,nul,Opr.right,Opr.valued,Opr.ranged,OSpn.empty,nilB,Int.reduceBEq,Bool.or_self,ha,ga,hb,gb,hc,g0] | refine z01 (sE) ?_ | refine z00 (sE) ?_ | refine z01 (eE) ?_ | refine z00 (eE) ?_ | refine And.intro (by omega) ?_ | refine And.intro (fun d hd=>by (repeat (rcases hd with rfl | hd; · exact ⟨rfl,rfl⟩)); cases hd) ?_))
  have gc:¬ 16 < (val.size:Int):=by omega
  cases hn:(val.toList == (ByteArray.mk #[]).toList)
  case false =>
   (repeat (first | simp (maxSteps:=9^7) only [go_sem,↓reduceIte,reduceCtorEq,Nat.reduceEqDiff,Nat.reduceBEq,Nat.reduceAdd,Nat.reduceSub,Nat.reduceMul,Nat.reduceLT,Nat.reduceLeDiff,Nat.reduceBNe,Int.reduceBEq,Int.reduceBNe,Int.reduceLT,Int.reduceLE,Opr.a,OSpn.a,nul,Opr.right,Opr.valued,Opr.ranged,OSpn.empty,nilB,Int.reduceBEq,Bool.or_self,ha,ga,hb,gb,hc,gc,hn] | refine z01 (sE) ?_ | refine z00 (sE) ?_ | refine z01 (eE) ?_ | refine z00 (eE) ?_ | refine And.intro (by omega) ?_ | refine And.intro (fun d hd=>by (repeat (rcases hd with rfl | hd; · exact ⟨rfl,rfl⟩)); cases hd) ?_))
  by_cases l1:1≤lim
  case neg =>
   have l1':lim < 1:=by omega
   (repeat (first | simp (maxSteps:=9^7) only [go_sem,↓reduceIte,reduceCtorEq,Nat.reduceEqDiff,Nat.reduceBEq,Nat.reduceAdd,Nat.reduceSub,Nat.reduceMul,Nat.reduceLT,Nat.reduceLeDiff,Nat.reduceBNe,Int.reduceBEq,Int.reduceBNe,Int.reduceLT,Int.reduceLE,Opr.a,OSpn.a,nul,Opr.right,Opr.valued,Opr.ranged,OSpn.empty,nilB,Int.reduceBEq,Bool.or_self,ha,ga,hb,gb,hc,gc,hn,l1,l1'] | refine z01 (sE) ?_ | refine z00 (sE) ?_ | refine z01 (eE) ?_ | refine z00 (eE) ?_ | refine And.intro (by omega) ?_ | refine And.intro (fun d hd=>by (repeat (rcases hd with rfl | hd; · exact ⟨rfl,rfl⟩)); cases hd) ?_))
  have l1':¬ lim < 1:=by omega
  by_cases l2:lim≤64
  case neg =>
   have l2':64 < lim:=by omega
   (repeat (first | simp (maxSteps:=9^7) only [go_sem,↓reduceIte,reduceCtorEq,Nat.reduceEqDiff,Nat.reduceBEq,Nat.reduceAdd,Nat.reduceSub,Nat.reduceMul,Nat.reduceLT,Nat.reduceLeDiff,Nat.reduceBNe,Int.reduceBEq,Int.reduceBNe,Int.reduceLT,Int.reduceLE,Opr.a,OSpn.a,nul,Opr.right,Opr.valued,Opr.ranged,OSpn.empty,nilB,Int.reduceBEq,Bool.or_self,ha,ga,hb,gb,hc,gc,hn,l1,l1',l2,l2'] | refine z01 (sE) ?_ | refine z00 (sE) ?_ | refine z01 (eE) ?_ | refine z00 (eE) ?_ | refine And.intro (by omega) ?_ | refine And.intro (fun d hd=>by (repeat (rcases hd with rfl | hd; · exact ⟨rfl,rfl⟩)); cases hd) ?_))
  have l2':¬ 64 < lim:=by omega
  cases op
  case false =>
   cases hl:leB key hi <;> (repeat (first | simp (maxSteps:=9^7) only [go_sem,↓reduceIte,reduceCtorEq,Nat.reduceEqDiff,Nat.reduceBEq,Nat.reduceAdd,Nat.reduceSub,Nat.reduceMul,Nat.reduceLT,Nat.reduceLeDiff,Nat.reduceBNe,Int.reduceBEq,Int.reduceBNe,Int.reduceLT,Int.reduceLE,Opr.a,OSpn.a,nul,Opr.right,Opr.valued,Opr.ranged,OSpn.empty,nilB,Int.reduceBEq,Bool.or_self,ha,ga,hb,gb,hc,gc,hn,l1,l1',l2,l2',hl] | refine z01 (sE) ?_ | refine z00 (sE) ?_ | refine z01 (eE) ?_ | refine z00 (eE) ?_ | refine And.intro (by omega) ?_ | refine And.intro (fun d hd=>by (repeat (rcases hd with rfl | hd; · exact ⟨rfl,rfl⟩)); cases hd) ?_))
  cases hh:(hi.toList == (ByteArray.mk #[]).toList) <;> (repeat (first | simp (maxSteps:=9^7) only [go_sem,↓reduceIte,reduceCtorEq,Nat.reduceEqDiff,Nat.reduceBEq,Nat.reduceAdd,Nat.reduceSub,Nat.reduceMul,Nat.reduceLT,Nat.reduceLeDiff,Nat.reduceBNe,Int.reduceBEq,Int.reduceBNe,Int.reduceLT,Int.reduceLE,Opr.a,OSpn.a,nul,Opr.right,Opr.valued,Opr.ranged,OSpn.empty,nilB,Int.reduceBEq,Bool.or_self,ha,ga,hb,gb,hc,gc,hn,l1,l1',l2,l2',hh] | refine z01 (sE) ?_ | refine z00 (sE) ?_ | refine z01 (eE) ?_ | refine z00 (eE) ?_ | refine And.intro (by omega) ?_ | refine And.intro (fun d hd=>by (repeat (rcases hd with rfl | hd; · exact ⟨rfl,rfl⟩)); cases hd) ?_))
end
section
/-
 Stable sorting by a whole number: the plain law.
-/
open Go.RowKit
/-! ### Lists that rise,and stable rearrangements -/
section
variable {α:Type} (key:α->Int)
def Rise:List α->Prop
 | []=>True
 | x :: l=>(∀ y,y ∈ l->key x≤key y)∧Rise l
/-- the same things of each number,in the same order -/
def Stab (X R:List α):Prop:=∀ k:Int,R.filter (fun x=>key x == k) = X.filter (fun x=>key x == k)
theorem Stab.refl (X:List α):Stab key X X:=fun _=>rfl
theorem Stab.trans {key:α->Int} {X Y Z:List α} (h:Stab key X Y) (g:Stab key Y Z):Stab key X Z:=fun k=>(g k).trans (h k)
theorem Stab.app {key:α->Int} {X X' Y Y':List α} (h:Stab key X X') (g:Stab key Y Y'):Stab key (X ++ Y) (X' ++ Y'):=fun k=>by
 rw [List.filter_append,List.filter_append,h k,g k]
theorem Stab.mem {key:α->Int} {X R:List α} (h:Stab key X R) {x:α}:x ∈ R ↔ x ∈ X:=by
 have e:=h (key x)
 have f:∀ Y:List α,x ∈ Y ↔ x ∈ Y.filter (fun y=>key y == key x):=fun Y=>by
  rw [List.mem_filter]; simp
 rw [f R,f X,e]
theorem Rise.app {key:α->Int}:∀ {X Y:List α},Rise key X->Rise key Y->(∀ x,x ∈ X->∀ y,y ∈ Y->key x≤key y)->Rise key (X ++ Y)
 | [],Y,_,hY,_=>hY
 | x :: X,Y,hX,hY,h=>by
  refine ⟨fun y hy=>?_,Rise.app hX.2 hY fun z hz=>h z (List.mem_cons_of_mem _ hz)⟩
  rcases List.mem_append.1 hy with q | q
  ·exact hX.1 y q
  ·exact h x (List.mem_cons_self ..) y q
theorem Rise.left {key:α->Int}:∀ {X Y:List α},Rise key (X ++ Y)->Rise key X
 | [],Y,_=>trivial
 | x :: X,Y,h=>⟨fun y hy=>h.1 y (List.mem_append.2 (.inl hy)),Rise.left h.2⟩
theorem Rise.right {key:α->Int}:∀ {X Y:List α},Rise key (X ++ Y)->Rise key Y
 | [],Y,h=>h
 | x :: X,Y,h=>Rise.right (X:=X) h.2
theorem Rise.cross {key:α->Int}:∀ {X Y:List α},Rise key (X ++ Y)->∀ x,x ∈ X->∀ y,y ∈ Y->key x≤key y
 | z :: X,Y,h,x,hx,y,hy=>by
  rcases List.mem_cons.1 hx with e | e
  ·rw [e]; exact h.1 y (List.mem_append.2 (.inr hy))
  ·exact Rise.cross (X:=X) h.2 x e y hy
/-- two parts change places,if nothing of the one is as great as something of the other -/
theorem Stab.swap {key:α->Int} {A B:List α} (h:∀ x,x ∈ A->∀ y,y ∈ B->key y < key x):Stab key (A ++ B) (B ++ A):=fun k=>by
 rw [List.filter_append,List.filter_append]
 by_cases hA:∃ x,x ∈ A∧key x = k
 ·obtain ⟨x,hx,hk⟩:=hA
  have:B.filter (fun z=>key z == k) = []:=by
   rw [List.filter_eq_nil_iff]
   intro y hy e
   have:=h x hx y hy
   simp at e; omega
  rw [this,List.append_nil,List.nil_append]
 ·have:A.filter (fun z=>key z == k) = []:=by
   rw [List.filter_eq_nil_iff]
   intro x hx e
   exact hA ⟨x,hx,by simpa using e⟩
  rw [this,List.append_nil,List.nil_append]
/-- a rising stable rearrangement is the only one -/
theorem zb6 {key:α->Int}:∀ {X Y:List α},Rise key X->Rise key Y->Stab key X Y->X = Y
 | [],[],_,_,_=>rfl
 | [],y :: Y,_,_,h=>by
  have:=(Stab.mem h (x:=y)).1 (List.mem_cons_self ..)
  cases this
 | x :: X,[],_,_,h=>by
  have:=(Stab.mem h (x:=x)).2 (List.mem_cons_self ..)
  cases this
 | x :: X,y :: Y,hX,hY,h=>by
  have kxy:key x = key y:=by
   have a:key x≤key y:=by
    rcases List.mem_cons.1 ((Stab.mem h (x:=y)).1 (List.mem_cons_self ..)) with e | e
    ·rw [e]; exact Int.le_refl _
    ·exact hX.1 y e
   have b:key y≤key x:=by
    rcases List.mem_cons.1 ((Stab.mem h (x:=x)).2 (List.mem_cons_self ..)) with e | e
    ·rw [e]; exact Int.le_refl _
    ·exact hY.1 x e
   omega
  have e:=h (key x)
  rw [List.filter_cons_of_pos (by simp [kxy]),List.filter_cons_of_pos (by simp)] at e
  have exy:y = x:=(List.cons.inj e).1
  subst exy
  rw [zb6 hX.2 hY.2 fun k=>?_]
  have e:=h k
  rw [List.filter_cons,List.filter_cons] at e
  by_cases hk:(key y == k) = true
  ·rw [if_pos hk,if_pos hk] at e
   exact (List.cons.inj e).2
  ·rw [if_neg hk,if_neg hk] at e
   exact e
/-- one put in behind all that are not greater -/
def putK (x:α):List α->List α
 | []=>[x]
 | y :: l=>if key y≤key x then y :: putK x l else x :: y :: l
def zpf:List α->List α->List α
 | acc,[]=>acc
 | acc,x :: l=>zpf (putK key x acc) l
theorem zx2 {x y:α}:∀ {l:List α},y ∈ putK key x l ↔ y = x∨y ∈ l
 | []=>by simp [putK]
 | z :: l=>by
  rw [putK]
  split
  ·rw [List.mem_cons,zx2,List.mem_cons]
   constructor
   ·rintro (h | h | h)
    ·exact .inr (.inl h)
    ·exact .inl h
    ·exact .inr (.inr h)
   ·rintro (h | h | h)
    ·exact .inr (.inl h)
    ·exact .inl h
    ·exact .inr (.inr h)
  ·rw [List.mem_cons]
theorem zle {x:α}:∀ {l:List α},Rise key l->Rise key (putK key x l)
 | [],_=>⟨fun y hy=>(by cases hy),trivial⟩
 | z :: l,h=>by
  rw [putK]
  by_cases hz:key z≤key x
  ·rw [if_pos hz]
   refine ⟨fun y hy=>?_,zle h.2⟩
   rcases (zx2 key).1 hy with e | e
   ·rw [e]; exact hz
   ·exact h.1 y e
  ·rw [if_neg hz]
   refine ⟨fun y hy=>?_,h⟩
   rcases List.mem_cons.1 hy with e | e
   ·rw [e]; omega
   ·have:=h.1 y e; omega
theorem zld {x:α}:∀ {l:List α},Rise key l->Stab key (l ++ [x]) (putK key x l)
 | [],_=>Stab.refl key _
 | z :: l,h=>by
  rw [putK]
  by_cases hz:key z≤key x
  ·rw [if_pos hz]
   exact Stab.app (X:=[z]) (X':=[z]) (Stab.refl key _) (zld h.2)
  ·rw [if_neg hz]
   refine Stab.swap (A:=z :: l) (B:=[x]) fun y hy w hw=>?_
   rw [List.mem_singleton.1 hw]
   rcases List.mem_cons.1 hy with e | e
   ·rw [e]; omega
   ·have:=h.1 y e; omega
theorem zhb:∀ {l acc:List α},Rise key acc->Rise key (zpf key acc l)∧Stab key (acc ++ l) (zpf key acc l)
 | [],acc,h=>⟨h,by rw [List.append_nil]; exact Stab.refl key _⟩
 | x :: l,acc,h=>by
  obtain ⟨a,b⟩:=zhb (l:=l) (zle key (x:=x) h)
  refine ⟨a,Stab.trans ?_ b⟩
  have:=Stab.app (zld key (x:=x) h) (Stab.refl key l)
  rw [List.append_assoc] at this
  exact this
/-- the rearrangement that rises -/
def srt (l:List α):List α:=zpf key [] l
theorem z2k (l:List α):Rise key (srt key l):=(zhb key (l:=l) (acc:=[]) trivial).1
theorem z1p (l:List α):Stab key l (srt key l):=(zhb key (l:=l) (acc:=[]) trivial).2
theorem zdi {l r:List α} (h1:Rise key r) (h2:Stab key l r):r = srt key l :=
 zb6 h1 (z2k key l) fun k=>(z1p key l k).trans (h2 k).symm
end
end
section
/-
 Two ranges of a slice that was handed on change places; a rotation: the library's code,walked.
-/
open Go.RowKit
attribute [local go_sem ↓] z0s z0g
/-! ### slices.swapRangeCmpFunc[percolate/api.Event] -/
def r_swR_0:List XOp:=[(.op [] ⟨.mv (.c (.int .i64 0)),some 10,none,[],[]⟩)]
def r_swR_1:List XOp:=[(.op [] ⟨.mv (.t 10),some 11,none,[],[]⟩),(.op [] ⟨.mv (.t 3),some 12,none,[],[]⟩),(.op [] ⟨.bin .lss (.t 11) (.t 12),some 13,none,[],[]⟩)]
def r_swR_2:Reg:=⟨[⟨.mv (.t 0),some 16,none,[],[]⟩,⟨.mv (.t 1),some 17,none,[],[]⟩,⟨.mv (.t 10),some 18,none,[],[]⟩,⟨.bin .add (.t 17) (.t 18),some 19,none,[],[]⟩,⟨.mv (.t 0),some 20,none,[],[]⟩,⟨.mv (.t 2),some 21,none,[],[]⟩,⟨.mv (.t 10),some 22,none,[],[]⟩,⟨.bin .add (.t 21) (.t 22),some 23,none,[],[]⟩,⟨.mv (.t 0),some 24,none,[],[]⟩,⟨.mv (.t 2),some 25,none,[],[]⟩,⟨.mv (.t 10),some 26,none,[],[]⟩,⟨.bin .add (.t 25) (.t 26),some 27,none,[],[]⟩,⟨.iaddr 15 (.t 24) (.t 27),some 28,none,[],[]⟩,⟨.load 15 true (.t 28),some 29,none,[],[]⟩,⟨.mv (.t 0),some 30,none,[],[]⟩,⟨.mv (.t 1),some 31,none,[],[]⟩,⟨.mv (.t 10),some 32,none,[],[]⟩,⟨.bin .add (.t 31) (.t 32),some 33,none,[],[]⟩,⟨.iaddr 15 (.t 30) (.t 33),some 34,none,[],[]⟩,⟨.load 15 true (.t 34),some 35,none,[],[]⟩,⟨.iaddr 15 (.t 16) (.t 19),some 36,none,[],[]⟩,⟨.store 15 (.t 36) (.t 29),none,none,[],[0]⟩],[⟨.iaddr 15 (.t 20) (.t 23),some 37,none,[],[]⟩,⟨.store 15 (.t 37) (.t 35),none,none,[],[0]⟩],[],[],true⟩
def r_swR_3:List XOp:=[(.op [] ⟨.mv (.t 10),some 14,none,[],[]⟩),(.op [] ⟨.bin .add (.t 14) (.c (.int .i64 1)),some 15,none,[],[]⟩),(.op [] ⟨.mv (.t 15),some 10,none,[],[]⟩)]
def zsz (P:Program):IR:=(.seq (.seq (.regx P r_swR_1)
 (.cond (.t 13) .skip
 (.exit 0)))
 (.seq (.block 1 (.regw r_swR_2 0))
 (.regx P r_swR_3)))
def ir_swR (P:Program):IR:=(.seq (.regx P r_swR_0)
 (.block 0 (.loop (zsz P))))
def res_swR:List RDesc:=[]
theorem e_swR_2 (C:FuncId->List AV->AV->Prop) (σ:St) (K:St->Prop) (q:Nat):z0l C (Reg.ren 0 q r_swR_2) σ K = z0a C [] [⟨.iaddr 15 (.t 20) (.t 23),some 37,none,[],[]⟩,⟨.store 15 (.t 37) (.t 35),none,none,[],[q]⟩] [⟨.mv (.t 0),some 16,none,[],[]⟩,⟨.mv (.t 1),some 17,none,[],[]⟩,⟨.mv (.t 10),some 18,none,[],[]⟩,⟨.bin .add (.t 17) (.t 18),some 19,none,[],[]⟩,⟨.mv (.t 0),some 20,none,[],[]⟩,⟨.mv (.t 2),some 21,none,[],[]⟩,⟨.mv (.t 10),some 22,none,[],[]⟩,⟨.bin .add (.t 21) (.t 22),some 23,none,[],[]⟩,⟨.mv (.t 0),some 24,none,[],[]⟩,⟨.mv (.t 2),some 25,none,[],[]⟩,⟨.mv (.t 10),some 26,none,[],[]⟩,⟨.bin .add (.t 25) (.t 26),some 27,none,[],[]⟩,⟨.iaddr 15 (.t 24) (.t 27),some 28,none,[],[]⟩,⟨.load 15 true (.t 28),some 29,none,[],[]⟩,⟨.mv (.t 0),some 30,none,[],[]⟩,⟨.mv (.t 1),some 31,none,[],[]⟩,⟨.mv (.t 10),some 32,none,[],[]⟩,⟨.bin .add (.t 31) (.t 32),some 33,none,[],[]⟩,⟨.iaddr 15 (.t 30) (.t 33),some 34,none,[],[]⟩,⟨.load 15 true (.t 34),some 35,none,[],[]⟩,⟨.iaddr 15 (.t 16) (.t 19),some 36,none,[],[]⟩,⟨.store 15 (.t 36) (.t 29),none,none,[],[q]⟩] (σ.kills []) K:=rfl
theorem fnm_swR {args:List AV} {r:AV} {H H':Nat->Option Arr} (ha:args.length.ble Try.f84.ntmps = true) (h:run (AFn Try.prog) (ir_swR Try.prog) (endM res_swR r H') (z77 args H)):MFn Try.prog 84 args H r H' :=
 MFn.of_code (pv:=false) (hint:=fun _=>[1]) (c:=Try.f84.body.getD .skip) (by kernel_rfl) (by kernel_rfl) Try.func84 (by kernel_rfl) (by kernel_rfl) (by kernel_rfl) (of_decide_eq_true (by kernel_rfl)) (Nat.le_of_ble_eq_true ha) (Nat.le_of_ble_eq_true (by kernel_rfl)) (z09 h)
attribute [local go_sem ↓] ir_swR
attribute [local go_sem] res_swR e_swR_2 r_swR_0 r_swR_1 r_swR_3
theorem atS {α:Type} {f:α->AV} {l:List α} {j:Nat} {x:α} (h:l[j]? = some x):(l.map f).getD j .und = f x:=by
 rw [List.getD_eq_getElem?_getD,List.getElem?_map,h]; rfl
theorem z0t {j:Int} (h:-1000000000000000≤j∧j≤1000000000000000):IntKind.i64.wrap j = j:=IntWalk.i64_in _ (by omega)
/-- things of 15 cells each -/
structure Kind15 (α:Type) where
 c:α->List AV
 len:∀ x,(c x).length = 15
 one:∀ x,(c x).all AV.one = true
def Kind15.f {α:Type} (K:Kind15 α) (x:α):AV:=.agg (K.c x)
theorem Kind15.take {α:Type} (K:Kind15 α) (x:α):List.take 15 (K.c x) = K.c x:=List.take_of_length_le (by rw [K.len]; exact Nat.le_refl _)
theorem Kind15.drop {α:Type} (K:Kind15 α) (x:α):List.drop 15 (K.c x) = []:=List.drop_eq_nil_of_le (by rw [K.len]; exact Nat.le_refl _)
/-- what the machine asks where two elements change places -/
structure Swp {α:Type} (K:Kind15 α) (Y:List α) (ja jb:Nat) (u v:α):Prop where
 a:(List.map (fun x=>AV.agg (K.c x)) Y).getD ja .und = .agg (K.c u)
 b:(List.map (fun x=>AV.agg (K.c x)) Y).getD jb .und = .agg (K.c v)
 s1:(List.map (fun x=>AV.agg (K.c x)) Y).set ja (.agg (K.c v)) = List.map (fun x=>AV.agg (K.c x)) (Y.set ja v)
 c:(List.map (fun x=>AV.agg (K.c x)) (Y.set ja v)).getD jb .und = .agg (K.c v)
 s2:(List.map (fun x=>AV.agg (K.c x)) (Y.set ja v)).set jb (.agg (K.c u)) = List.map (fun x=>AV.agg (K.c x)) ((Y.set ja v).set jb u)
 la:ja < Y.length
 lb:jb < Y.length
 lc:jb < (Y.set ja v).length
theorem Swp.of {α:Type} (K:Kind15 α) {Y:List α} {ja jb:Nat} {u v:α} (hu:Y[ja]? = some u) (hv:Y[jb]? = some v) (hne:ja ≠ jb):Swp K Y ja jb u v:=by
 have h1:=(List.getElem?_eq_some_iff.1 hu).1
 have h2:=(List.getElem?_eq_some_iff.1 hv).1
 have h3:jb < (Y.set ja v).length:=by rw [List.length_set]; exact h2
 refine ⟨atS hu,atS hv,List.map_set.symm,atS ?_,List.map_set.symm,h1,h2,h3⟩
 rw [List.getElem?_set_ne hne]; exact hv
section
variable {α:Type} (K:Kind15 α)
/-- an own slice of these -/
def ObjE (X:List α):Option Arr:=some ⟨15,32,X.map K.f,0⟩
def only (H0 H:Nat->Option Arr) (r:Nat) (X:List α):Prop:=(∀ q,q ≠ r->H (q + 1000) = H0 q)∧H (r + 1000) = ObjE K X
theorem z5j {H0 H:Nat->Option Arr} {r:Nat} {X:List α} (h:only K H0 H r X):∀ q,H (q + 1000) = upd H0 r (ObjE K X) q:=fun q=>by
 by_cases e:q = r
 ·rw [e,z04]; exact h.2
 ·rw [z05 _ _ e]; exact h.1 q e
/-- two blocks of one length change places -/
def swB (P U Q V R:List α) (i:Nat):List α:=P ++ (V.take i ++ U.drop i) ++ Q ++ (U.take i ++ V.drop i) ++ R
theorem swB_at {P U Q V R:List α} {i:Nat} {u v:α} (hl:U.length = V.length) (hu:U[i]? = some u) (hv:V[i]? = some v) :
  (swB P U Q V R i)[P.length + i]? = some u∧(swB P U Q V R i)[P.length + U.length + Q.length + i]? = some v ∧
  ((swB P U Q V R i).set (P.length + i) v).set (P.length + U.length + Q.length + i) u = swB P U Q V R (i + 1):=by
 have h1:=(List.getElem?_eq_some_iff.1 hu).1
 have h2:=(List.getElem?_eq_some_iff.1 hv).1
 have lv:(V.take i).length = i:=by rw [List.length_take]; omega
 have lu:(U.take i).length = i:=by rw [List.length_take]; omega
 have du:U.drop i = u :: U.drop (i + 1):=by rw [List.drop_eq_getElem_cons h1,(List.getElem?_eq_some_iff.1 hu).2]
 have dv:V.drop i = v :: V.drop (i + 1):=by rw [List.drop_eq_getElem_cons h2,(List.getElem?_eq_some_iff.1 hv).2]
 have tu:U.take (i + 1) = U.take i ++ [u]:=by rw [List.take_add_one,hu]; rfl
 have tv:V.take (i + 1) = V.take i ++ [v]:=by rw [List.take_add_one,hv]; rfl
 have e0:swB P U Q V R i = (P ++ V.take i) ++ u :: (U.drop (i + 1) ++ Q ++ U.take i ++ v :: (V.drop (i + 1) ++ R)):=by
  unfold swB; rw [du,dv]; simp
 have e1:swB P U Q V R i = (P ++ V.take i ++ u :: (U.drop (i + 1) ++ Q ++ U.take i)) ++ v :: (V.drop (i + 1) ++ R):=by
  rw [e0]; simp
 have la:(P ++ V.take i).length = P.length + i:=by rw [List.length_append,lv]
 have lb:(P ++ V.take i ++ u :: (U.drop (i + 1) ++ Q ++ U.take i)).length = P.length + U.length + Q.length + i:=by
  simp only [List.length_append,List.length_cons,lv,lu,List.length_drop]; omega
 refine ⟨?_,?_,?_⟩
 ·rw [e0,← la,List.getElem?_append_right (Nat.le_refl _),Nat.sub_self]; rfl
 ·rw [e1,← lb,List.getElem?_append_right (Nat.le_refl _),Nat.sub_self]; rfl
 ·have s1:(swB P U Q V R i).set (P.length + i) v = (P ++ V.take i ++ v :: (U.drop (i + 1) ++ Q ++ U.take i)) ++ v :: (V.drop (i + 1) ++ R):=by
   rw [e0,← la,List.set_append_right _ _ (Nat.le_refl _),Nat.sub_self,List.set_cons_zero]; simp
  have lc:(P ++ V.take i ++ v :: (U.drop (i + 1) ++ Q ++ U.take i)).length = P.length + U.length + Q.length + i:=by
   simp only [List.length_append,List.length_cons,lv,lu,List.length_drop]; omega
  rw [s1,← lc,List.set_append_right _ _ (Nat.le_refl _),Nat.sub_self,List.set_cons_zero]
  unfold swB
  rw [tu,tv]; simp
def swInv (H:Nat->Option Arr) (r:Nat) (P U Q V R:List α) (k:Nat) (σ:St):Prop :=
 ∃ i:Nat,i≤U.length∧k = U.length - i∧σ.T 0 = .rs (r + 1000) 0 (P ++ U ++ Q ++ V ++ R).length∧σ.T 1 = .int .i64 P.length∧σ.T 2 = .int .i64 ((P.length + U.length + Q.length:Nat):Int)∧σ.T 3 = .int .i64 U.length∧σ.T 10 = .int .i64 i∧only K H σ.H r (swB P U Q V R i)
set_option maxHeartbeats 2000000 in
theorem swR_ok (H:Nat->Option Arr) (r:Nat) (P U Q V R:List α) (cmp:AV) (hl:U.length = V.length) (hb:(P ++ U ++ Q ++ V ++ R).length≤1000000) (hr:H r = ObjE K (P ++ U ++ Q ++ V ++ R)) :
  MFn Try.prog 84 [.rs r 0 (P ++ U ++ Q ++ V ++ R).length,.int .i64 P.length,.int .i64 ((P.length + U.length + Q.length:Nat):Int),.int .i64 U.length,cmp] H (.tup []) (upd H r (ObjE K (P ++ V ++ Q ++ U ++ R))):=by
 refine fnm_swR rfl ?_
 have hz:swB P U Q V R 0 = P ++ U ++ Q ++ V ++ R:=by unfold swB; simp
 simp (maxSteps:=9^7) only [go_sem,↓reduceIte,reduceCtorEq,Nat.reduceEqDiff,Nat.reduceBEq,Nat.reduceAdd,Nat.reduceSub,Nat.reduceMul,Nat.reduceLT,Nat.reduceLeDiff,Nat.reduceBNe,Int.reduceBEq,Int.reduceBNe,Int.reduceLT,Int.reduceLE,evW,retM]
 refine z0f (swInv K H r P U Q V R) (k:=U.length) ⟨0,Nat.zero_le _,rfl,?_,?_,?_,?_,?_,?_⟩ ?_
 iterate 5 focus ((simp (maxSteps:=9^7) only [go_sem,↓reduceIte,reduceCtorEq,Nat.reduceEqDiff,Nat.reduceBEq,Nat.reduceAdd,Nat.reduceSub,Nat.reduceMul,Nat.reduceLT,Nat.reduceLeDiff,Nat.reduceBNe,Int.reduceBEq,Int.reduceBNe,Int.reduceLT,Int.reduceLE,evW,retM,sh]) <;> rfl)
 ·refine ⟨fun q hq=>?_,?_⟩
  iterate 2 focus ((simp (maxSteps:=9^7) only [go_sem,↓reduceIte,reduceCtorEq,Nat.reduceEqDiff,Nat.reduceBEq,Nat.reduceAdd,Nat.reduceSub,Nat.reduceMul,Nat.reduceLT,Nat.reduceLeDiff,Nat.reduceBNe,Int.reduceBEq,Int.reduceBNe,Int.reduceLT,Int.reduceLE,evW,retM,hr,hz]) <;> rfl)
 rintro k σ ⟨i,hi,rfl,t0,t1,t2,t3,t10,hH⟩
 simp only [zsz]
 by_cases hlt:i < U.length
 case neg =>
  have hlt':¬ (i:Int) < (U.length:Int):=by omega
  have e:swB P U Q V R i = P ++ V ++ Q ++ U ++ R:=by
   unfold swB
   rw [List.take_of_length_le (by omega),List.take_of_length_le (by omega),List.drop_eq_nil_of_le (by omega),List.drop_eq_nil_of_le (by omega),List.append_nil,List.append_nil]
  rw [e] at hH
  have hf:=z5j K hH
  simp (maxSteps:=9^7) only [go_sem,↓reduceIte,reduceCtorEq,Nat.reduceEqDiff,Nat.reduceBEq,Nat.reduceAdd,Nat.reduceSub,Nat.reduceMul,Nat.reduceLT,Nat.reduceLeDiff,Nat.reduceBNe,Int.reduceBEq,Int.reduceBNe,Int.reduceLT,Int.reduceLE,evW,retM,t3,t10,hlt']
  exact hf
 have hlt':(i:Int) < (U.length:Int):=by omega
 obtain ⟨u,hu⟩:∃ u,U[i]? = some u:=⟨_,List.getElem?_eq_getElem hlt⟩
 obtain ⟨v,hv⟩:∃ v,V[i]? = some v:=⟨_,List.getElem?_eq_getElem (by omega)⟩
 obtain ⟨ga,gb,gs⟩:=swB_at (P:=P) (Q:=Q) (R:=R) hl hu hv
 obtain ⟨hX1,hX2⟩:=hH
 generalize hY:swB P U Q V R i = Y at *
 have hYl:Y.length = (P ++ U ++ Q ++ V ++ R).length:=by
  rw [← hY]; unfold swB
  simp only [List.length_append,List.length_take,List.length_drop]; omega
 have hn:(P ++ U ++ Q ++ V ++ R).length = P.length + U.length + Q.length + V.length + R.length:=by simp only [List.length_append]
 generalize hN:(P ++ U ++ Q ++ V ++ R).length = N at *
 generalize hja:P.length + i = ja at *
 generalize hjb:P.length + U.length + Q.length + i = jb at *
 have wa:IntKind.i64.wrap ((P.length:Int) + (i:Int)) = (ja:Int):=by rw [z0t (by omega)]; omega
 have wb:IntKind.i64.wrap (((P.length + U.length + Q.length:Nat):Int) + (i:Int)) = (jb:Int):=by rw [z0t (by omega)]; omega
 have wi:IntKind.i64.wrap ((i:Int) + 1) = ((i + 1:Nat):Int):=by rw [z0t (by omega)]; rfl
 obtain ⟨ha,hb',s1,hc,s2,la',lb',lc'⟩:=Swp.of K ga gb (by omega)
 have la:(ja:Int) < (N:Int):=by omega
 have lb:(jb:Int) < (N:Int):=by omega
 have z0:∀ x:Nat,(0:Int)≤(x:Int):=fun x=>Int.natCast_nonneg x
 have hX2':=hX2
 unfold ObjE Kind15.f at hX2'
 have hk1:=K.take
 have hk2:=K.drop
 have hk3:=K.len
 have hk4:=K.one
 simp (maxSteps:=9^7) only [go_sem,↓reduceIte,reduceCtorEq,Nat.reduceEqDiff,Nat.reduceBEq,Nat.reduceAdd,Nat.reduceSub,Nat.reduceMul,Nat.reduceLT,Nat.reduceLeDiff,Nat.reduceBNe,Int.reduceBEq,Int.reduceBNe,Int.reduceLT,Int.reduceLE,evW,retM,t0,t1,t2,t3,t10,hX2',hlt',wa,wb,la,lb,ha,hb',s1,hc,s2,la',lb',lc',hk1,hk2,hk3,hk4,z0,Int.toNat_natCast,List.length_map]
 refine ⟨U.length - (i + 1),by omega,i + 1,by omega,rfl,?_,?_,?_,?_,?_,?_⟩
 iterate 5 focus ((simp (maxSteps:=9^7) only [go_sem,↓reduceIte,reduceCtorEq,Nat.reduceEqDiff,Nat.reduceBEq,Nat.reduceAdd,Nat.reduceSub,Nat.reduceMul,Nat.reduceLT,Nat.reduceLeDiff,Nat.reduceBNe,Int.reduceBEq,Int.reduceBNe,Int.reduceLT,Int.reduceLE,evW,retM,t0,hN,t1,t2,t3,wi]) <;> rfl)
 ·refine ⟨fun q hq=>?_,?_⟩
  ·have hq':q + 1000 ≠ r + 1000:=by omega
   have:=hX1 q hq
   simp (maxSteps:=9^7) only [go_sem,↓reduceIte,reduceCtorEq,Nat.reduceEqDiff,Nat.reduceBEq,Nat.reduceAdd,Nat.reduceSub,Nat.reduceMul,Nat.reduceLT,Nat.reduceLeDiff,Nat.reduceBNe,Int.reduceBEq,Int.reduceBNe,Int.reduceLT,Int.reduceLE,evW,retM,hq',this]
  ·rw [← gs]
   unfold ObjE Kind15.f
   simp (maxSteps:=9^7) only [go_sem,↓reduceIte,reduceCtorEq,Nat.reduceEqDiff,Nat.reduceBEq,Nat.reduceAdd,Nat.reduceSub,Nat.reduceMul,Nat.reduceLT,Nat.reduceLeDiff,Nat.reduceBNe,Int.reduceBEq,Int.reduceBNe,Int.reduceLT,Int.reduceLE,evW,retM]
end
end
section
/-
 A rotation of a slice that was handed on: the library's code,walked.
-/
open Go.RowKit
attribute [local go_sem ↓] z0s z0g
/-! ### slices.rotateCmpFunc[percolate/api.Event] -/
def zth:List XOp:=[(.op [] ⟨.mv (.t 2),some 12,none,[],[]⟩),(.op [] ⟨.mv (.t 1),some 13,none,[],[]⟩),(.op [] ⟨.bin .sub (.t 12) (.t 13),some 14,none,[],[]⟩),(.op [] ⟨.mv (.t 14),some 10,none,[],[]⟩)]
def ztg:List XOp:=[(.op [] ⟨.mv (.t 3),some 15,none,[],[]⟩),(.op [] ⟨.mv (.t 2),some 16,none,[],[]⟩),(.op [] ⟨.bin .sub (.t 15) (.t 16),some 17,none,[],[]⟩),(.op [] ⟨.mv (.t 17),some 11,none,[],[]⟩)]
def ztf:List XOp:=[(.op [] ⟨.mv (.t 10),some 18,none,[],[]⟩),(.op [] ⟨.mv (.t 11),some 19,none,[],[]⟩),(.op [] ⟨.bin .neq (.t 18) (.t 19),some 20,none,[],[]⟩)]
def zte:List XOp:=[(.op [] ⟨.mv (.t 10),some 21,none,[],[]⟩),(.op [] ⟨.mv (.t 11),some 22,none,[],[]⟩),(.op [] ⟨.bin .gtr (.t 21) (.t 22),some 23,none,[],[]⟩)]
def ztd:List XOp:=[(.op [] ⟨.mv (.t 0),some 24,none,[],[]⟩),(.op [] ⟨.mv (.t 2),some 25,none,[],[]⟩),(.op [] ⟨.mv (.t 10),some 26,none,[],[]⟩),(.op [] ⟨.bin .sub (.t 25) (.t 26),some 27,none,[],[]⟩),(.op [] ⟨.mv (.t 2),some 28,none,[],[]⟩),(.op [] ⟨.mv (.t 11),some 29,none,[],[]⟩),(.op [] ⟨.mv (.t 4),some 30,none,[],[]⟩),(.wcall 31 (.c (.clo 84 [] [])) [(.t 24),(.t 27),(.t 28),(.t 29),(.t 30)])]
def ztc:List XOp:=[(.op [] ⟨.mv (.t 10),some 32,none,[],[]⟩),(.op [] ⟨.mv (.t 11),some 33,none,[],[]⟩),(.op [] ⟨.bin .sub (.t 32) (.t 33),some 34,none,[],[]⟩),(.op [] ⟨.mv (.t 34),some 10,none,[],[]⟩)]
def ztb:List XOp:=[(.op [] ⟨.mv (.t 0),some 35,none,[],[]⟩),(.op [] ⟨.mv (.t 2),some 36,none,[],[]⟩),(.op [] ⟨.mv (.t 10),some 37,none,[],[]⟩),(.op [] ⟨.bin .sub (.t 36) (.t 37),some 38,none,[],[]⟩),(.op [] ⟨.mv (.t 2),some 39,none,[],[]⟩),(.op [] ⟨.mv (.t 11),some 40,none,[],[]⟩),(.op [] ⟨.bin .add (.t 39) (.t 40),some 41,none,[],[]⟩),(.op [] ⟨.mv (.t 10),some 42,none,[],[]⟩),(.op [] ⟨.bin .sub (.t 41) (.t 42),some 43,none,[],[]⟩),(.op [] ⟨.mv (.t 10),some 44,none,[],[]⟩),(.op [] ⟨.mv (.t 4),some 45,none,[],[]⟩),(.wcall 46 (.c (.clo 84 [] [])) [(.t 35),(.t 38),(.t 43),(.t 44),(.t 45)])]
def zta:List XOp:=[(.op [] ⟨.mv (.t 11),some 47,none,[],[]⟩),(.op [] ⟨.mv (.t 10),some 48,none,[],[]⟩),(.op [] ⟨.bin .sub (.t 47) (.t 48),some 49,none,[],[]⟩),(.op [] ⟨.mv (.t 49),some 11,none,[],[]⟩)]
def zjo (P:Program):IR:=(.seq (.seq (.regx P ztf)
 (.cond (.t 20) .skip
 (.exit 0)))
 (.block 1 (.seq (.regx P zte)
 (.cond (.t 23) (.seq (.regx P ztd)
 (.regx P ztc))
 (.seq (.regx P ztb)
 (.regx P zta))))))
def zt9:List XOp:=[(.op [] ⟨.mv (.t 0),some 50,none,[],[]⟩),(.op [] ⟨.mv (.t 2),some 51,none,[],[]⟩),(.op [] ⟨.mv (.t 10),some 52,none,[],[]⟩),(.op [] ⟨.bin .sub (.t 51) (.t 52),some 53,none,[],[]⟩),(.op [] ⟨.mv (.t 2),some 54,none,[],[]⟩),(.op [] ⟨.mv (.t 10),some 55,none,[],[]⟩),(.op [] ⟨.mv (.t 4),some 56,none,[],[]⟩),(.wcall 57 (.c (.clo 84 [] [])) [(.t 50),(.t 53),(.t 54),(.t 55),(.t 56)])]
def ir_rotE (P:Program):IR:=(.seq (.regx P zth)
 (.seq (.regx P ztg)
 (.seq (.block 0 (.loop (zjo P)))
 (.regx P zt9))))
def zs8:List RDesc:=[]
theorem fnm_rotE {args:List AV} {r:AV} {H H':Nat->Option Arr} (ha:args.length.ble Try.f72.ntmps = true) (h:run (AFn Try.prog) (ir_rotE Try.prog) (endM zs8 r H') (z77 args H)):MFn Try.prog 72 args H r H' :=
 MFn.of_code (pv:=false) (hint:=fun _=>[1]) (c:=Try.f72.body.getD .skip) (by kernel_rfl) (by kernel_rfl) Try.func72 (by kernel_rfl) (by kernel_rfl) (by kernel_rfl) (of_decide_eq_true (by kernel_rfl)) (Nat.le_of_ble_eq_true ha) (Nat.le_of_ble_eq_true (by kernel_rfl)) (z09 h)
attribute [local go_sem ↓] ir_rotE
attribute [local go_sem] zs8 zth ztg ztf zte ztd ztc ztb zta zt9
theorem z34 {α:Type} (K:Kind15 α) {H0 H:Nat->Option Arr} {r:Nat} {X X':List α} (h:only K H0 H r X):only K H0 (upd H (r + 1000) (ObjE K X')) r X' :=
 ⟨fun q hq=>by rw [z05 _ _ (by omega)]; exact h.1 q hq,z04 _ _ _⟩
theorem z10 (σ:St) (t:Nat) (v:AV):(σ.made t v none).H = σ.H:=rfl
section
variable {α:Type} (K:Kind15 α)
theorem swR_at (H:Nat->Option Arr) (r:Nat) {X X' P U Q V R:List α} {n:Nat} {a b k:Int} (cmp:AV) (hX:X = P ++ U ++ Q ++ V ++ R) (hX':X' = P ++ V ++ Q ++ U ++ R) (hl:U.length = V.length) (hb:X.length≤1000000) (hn:n = X.length) (ha:a = P.length) (hb':b = ((P.length + U.length + Q.length:Nat):Int)) (hk:k = U.length) (hr:H r = ObjE K X) :
  MFn Try.prog 84 [.rs r 0 n,.int .i64 a,.int .i64 b,.int .i64 k,cmp] H (.tup []) (upd H r (ObjE K X')):=by
 subst hX hX' hn ha hb' hk
 exact swR_ok K H r P U Q V R cmp hl hb hr
def rotInv (H:Nat->Option Arr) (r f m:Nat) (F:List α) (k:Nat) (σ:St):Prop :=
 ∃ P A B R:List α,0 < A.length∧0 < B.length∧k = A.length + B.length∧P ++ B ++ A ++ R = F∧m = P.length + A.length ∧
 σ.T 0 = .rs (r + 1000) 0 F.length∧σ.T 2 = .int .i64 m∧σ.T 4 = .clo f [] []∧σ.T 10 = .int .i64 A.length∧σ.T 11 = .int .i64 B.length∧only K H σ.H r (P ++ A ++ B ++ R)
set_option maxHeartbeats 2000000 in
theorem rotE_ok (H:Nat->Option Arr) (r f:Nat) (P A B R:List α) (hA:0 < A.length) (hB:0 < B.length) (hb:(P ++ A ++ B ++ R).length≤1000000) (hr:H r = ObjE K (P ++ A ++ B ++ R)) :
  MFn Try.prog 72 [.rs r 0 (P ++ A ++ B ++ R).length,.int .i64 P.length,.int .i64 ((P.length + A.length:Nat):Int),.int .i64 ((P.length + A.length + B.length:Nat):Int),.clo f [] []] H (.tup []) (upd H r (ObjE K (P ++ B ++ A ++ R))):=by
 refine fnm_rotE rfl ?_
 have hN:(P ++ B ++ A ++ R).length = (P ++ A ++ B ++ R).length:=by simp only [List.length_append]; omega
 have hn:(P ++ A ++ B ++ R).length = P.length + A.length + B.length + R.length:=by simp only [List.length_append]
 have wi:IntKind.i64.wrap (((P.length + A.length:Nat):Int) - (P.length:Int)) = (A.length:Int):=by rw [z0t (by omega)]; omega
 have wj:IntKind.i64.wrap (((P.length + A.length + B.length:Nat):Int) - ((P.length + A.length:Nat):Int)) = (B.length:Int):=by rw [z0t (by omega)]; omega
 simp (maxSteps:=9^7) only [go_sem,↓reduceIte,reduceCtorEq,Nat.reduceEqDiff,Nat.reduceBEq,Nat.reduceAdd,Nat.reduceSub,Nat.reduceMul,Nat.reduceLT,Nat.reduceLeDiff,Nat.reduceBNe,Int.reduceBEq,Int.reduceBNe,Int.reduceLT,Int.reduceLE,evW,retM,sh]
 refine z0f (rotInv K H r f (P.length + A.length) (P ++ B ++ A ++ R)) (k:=A.length + B.length) ⟨P,A,B,R,hA,hB,rfl,rfl,rfl,?_,?_,?_,?_,?_,?_⟩ ?_
 iterate 5 focus ((simp (maxSteps:=9^7) only [go_sem,↓reduceIte,reduceCtorEq,Nat.reduceEqDiff,Nat.reduceBEq,Nat.reduceAdd,Nat.reduceSub,Nat.reduceMul,Nat.reduceLT,Nat.reduceLeDiff,Nat.reduceBNe,Int.reduceBEq,Int.reduceBNe,Int.reduceLT,Int.reduceLE,evW,retM,sh,hN,wi,wj]) <;> rfl)
 ·refine ⟨fun q hq=>?_,?_⟩
  iterate 2 focus ((simp (maxSteps:=9^7) only [go_sem,↓reduceIte,reduceCtorEq,Nat.reduceEqDiff,Nat.reduceBEq,Nat.reduceAdd,Nat.reduceSub,Nat.reduceMul,Nat.reduceLT,Nat.reduceLeDiff,Nat.reduceBNe,Int.reduceBEq,Int.reduceBNe,Int.reduceLT,Int.reduceLE,evW,retM,hr]) <;> rfl)
 rintro k σ ⟨P',A',B',R',hA',hB',rfl,hF,hm,t0,t2,t4,t10,t11,hH⟩
 have hl:(P' ++ B' ++ A' ++ R').length = (P ++ B ++ A ++ R).length:=by rw [hF]
 have hl':(P' ++ A' ++ B' ++ R').length = (P ++ B ++ A ++ R).length:=by rw [← hl]; simp only [List.length_append]; omega
 have hn':(P' ++ A' ++ B' ++ R').length = P'.length + A'.length + B'.length + R'.length:=by simp only [List.length_append]
 simp only [zjo]
 have c1:=hH.2
 have hb2:(P' ++ A' ++ B' ++ R').length≤1000000:=by omega
 have wm:IntKind.i64.wrap (((P.length + A.length:Nat):Int) - (A'.length:Int)) = (P'.length:Int):=by rw [z0t (by omega)]; omega
 by_cases heq:A'.length = B'.length
 case pos =>
  have he:((A'.length:Int) != (B'.length:Int)) = false:=by rw [heq]; simp
  simp (maxSteps:=9^7) only [go_sem,↓reduceIte,reduceCtorEq,Nat.reduceEqDiff,Nat.reduceBEq,Nat.reduceAdd,Nat.reduceSub,Nat.reduceMul,Nat.reduceLT,Nat.reduceLeDiff,Nat.reduceBNe,Int.reduceBEq,Int.reduceBNe,Int.reduceLT,Int.reduceLE,evW,retM,t0,t2,t4,t10,t11,he,wm,z10]
  refine z17 (swR_at K σ.H (r + 1000) (X':=P ++ B ++ A ++ R) (P:=P') (U:=A') (Q:=[]) (V:=B') (R:=R') _ (by simp) (by rw [← hF]; simp) heq hb2 (by rw [hl']) rfl (by rw [hm]; simp) rfl c1) ?_
  simp (maxSteps:=9^7) only [go_sem,↓reduceIte,reduceCtorEq,Nat.reduceEqDiff,Nat.reduceBEq,Nat.reduceAdd,Nat.reduceSub,Nat.reduceMul,Nat.reduceLT,Nat.reduceLeDiff,Nat.reduceBNe,Int.reduceBEq,Int.reduceBNe,Int.reduceLT,Int.reduceLE,evW,retM,t0]
  intro q
  by_cases hq:q = r
  ·rw [if_pos hq,if_pos hq]
  ·rw [if_neg hq,if_neg hq]; exact hH.1 q hq
 have he:((A'.length:Int) != (B'.length:Int)) = true:=by simp; omega
 by_cases hgt:B'.length < A'.length
 case pos =>
  have hg:decide ((B'.length:Int) < (A'.length:Int)) = true:=by simp; omega
  have wk:IntKind.i64.wrap ((A'.length:Int) - (B'.length:Int)) = ((A'.length - B'.length:Nat):Int):=by rw [z0t (by omega)]; omega
  simp (maxSteps:=9^7) only [go_sem,↓reduceIte,reduceCtorEq,Nat.reduceEqDiff,Nat.reduceBEq,Nat.reduceAdd,Nat.reduceSub,Nat.reduceMul,Nat.reduceLT,Nat.reduceLeDiff,Nat.reduceBNe,Int.reduceBEq,Int.reduceBNe,Int.reduceLT,Int.reduceLE,evW,retM,t0,t2,t4,t10,t11,he,hg,wm,z10]
  refine z17 (swR_at K σ.H (r + 1000) (X':=P' ++ B' ++ A'.drop B'.length ++ A'.take B'.length ++ R') (P:=P') (U:=A'.take B'.length) (Q:=A'.drop B'.length) (V:=B') (R:=R') _ (by rw [List.append_assoc P' (A'.take B'.length) (A'.drop B'.length),List.take_append_drop]) rfl (by rw [List.length_take]; omega) hb2 (by rw [hl']) rfl (by rw [hm,List.length_take,List.length_drop]; omega) (by rw [List.length_take]; omega) c1) ?_
  have c2:=z34 K (X':=P' ++ B' ++ A'.drop B'.length ++ A'.take B'.length ++ R') hH
  simp (maxSteps:=9^7) only [go_sem,↓reduceIte,reduceCtorEq,Nat.reduceEqDiff,Nat.reduceBEq,Nat.reduceAdd,Nat.reduceSub,Nat.reduceMul,Nat.reduceLT,Nat.reduceLeDiff,Nat.reduceBNe,Int.reduceBEq,Int.reduceBNe,Int.reduceLT,Int.reduceLE,evW,retM,t0,t2,t4,t10,t11,wk,z10]
  refine ⟨A'.length,by omega,P' ++ B',A'.drop B'.length,A'.take B'.length,R',by rw [List.length_drop]; omega,by rw [List.length_take]; omega,by rw [List.length_take,List.length_drop]; omega,?_,by rw [List.length_append,List.length_drop]; omega,?_,?_,?_,?_,?_,?_⟩
  ·rw [← hF,List.append_assoc (P' ++ B'),List.take_append_drop]
  iterate 4 focus ((simp (maxSteps:=9^7) only [go_sem,↓reduceIte,reduceCtorEq,Nat.reduceEqDiff,Nat.reduceBEq,Nat.reduceAdd,Nat.reduceSub,Nat.reduceMul,Nat.reduceLT,Nat.reduceLeDiff,Nat.reduceBNe,Int.reduceBEq,Int.reduceBNe,Int.reduceLT,Int.reduceLE,evW,retM,t0,t2,t4,List.length_drop]) <;> rfl)
  ·have:min B'.length A'.length = B'.length:=by omega
   (simp (maxSteps:=9^7) only [go_sem,↓reduceIte,reduceCtorEq,Nat.reduceEqDiff,Nat.reduceBEq,Nat.reduceAdd,Nat.reduceSub,Nat.reduceMul,Nat.reduceLT,Nat.reduceLeDiff,Nat.reduceBNe,Int.reduceBEq,Int.reduceBNe,Int.reduceLT,Int.reduceLE,evW,retM,t11,List.length_take,this])
  ·exact c2
 have hg:decide ((B'.length:Int) < (A'.length:Int)) = false:=by simp; omega
 have wk:IntKind.i64.wrap ((B'.length:Int) - (A'.length:Int)) = ((B'.length - A'.length:Nat):Int):=by rw [z0t (by omega)]; omega
 have wb:IntKind.i64.wrap (IntKind.i64.wrap (((P.length + A.length:Nat):Int) + (B'.length:Int)) - (A'.length:Int)) = ((P.length + A.length + (B'.length - A'.length):Nat):Int):=by
  have w1:IntKind.i64.wrap (((P.length + A.length:Nat):Int) + (B'.length:Int)) = ((P.length + A.length + B'.length:Nat):Int):=by rw [z0t (by omega)]; omega
  rw [w1,z0t (by omega)]; omega
 simp (maxSteps:=9^7) only [go_sem,↓reduceIte,reduceCtorEq,Nat.reduceEqDiff,Nat.reduceBEq,Nat.reduceAdd,Nat.reduceSub,Nat.reduceMul,Nat.reduceLT,Nat.reduceLeDiff,Nat.reduceBNe,Int.reduceBEq,Int.reduceBNe,Int.reduceLT,Int.reduceLE,evW,retM,t0,t2,t4,t10,t11,he,hg,wm,wb,z10]
 refine z17 (swR_at K σ.H (r + 1000) (X':=P' ++ B'.drop (B'.length - A'.length) ++ B'.take (B'.length - A'.length) ++ A' ++ R') (P:=P') (U:=A') (Q:=B'.take (B'.length - A'.length)) (V:=B'.drop (B'.length - A'.length)) (R:=R') _ (by rw [List.append_assoc (P' ++ A') (B'.take (B'.length - A'.length)) (B'.drop (B'.length - A'.length)),List.take_append_drop]) rfl (by rw [List.length_drop]; omega) hb2 (by rw [hl']) rfl (by rw [hm,List.length_take]; omega) rfl c1) ?_
 have c2:=z34 K (X':=P' ++ B'.drop (B'.length - A'.length) ++ B'.take (B'.length - A'.length) ++ A' ++ R') hH
 simp (maxSteps:=9^7) only [go_sem,↓reduceIte,reduceCtorEq,Nat.reduceEqDiff,Nat.reduceBEq,Nat.reduceAdd,Nat.reduceSub,Nat.reduceMul,Nat.reduceLT,Nat.reduceLeDiff,Nat.reduceBNe,Int.reduceBEq,Int.reduceBNe,Int.reduceLT,Int.reduceLE,evW,retM,t0,t2,t4,t10,t11,wk,z10]
 refine ⟨B'.length,by omega,P',B'.drop (B'.length - A'.length),B'.take (B'.length - A'.length),A' ++ R',by rw [List.length_drop]; omega,by rw [List.length_take]; omega,by rw [List.length_take,List.length_drop]; omega,?_,by rw [List.length_drop]; omega,?_,?_,?_,?_,?_,?_⟩
 ·rw [← hF,List.append_assoc P',List.take_append_drop]; simp
 iterate 3 focus ((simp (maxSteps:=9^7) only [go_sem,↓reduceIte,reduceCtorEq,Nat.reduceEqDiff,Nat.reduceBEq,Nat.reduceAdd,Nat.reduceSub,Nat.reduceMul,Nat.reduceLT,Nat.reduceLeDiff,Nat.reduceBNe,Int.reduceBEq,Int.reduceBNe,Int.reduceLT,Int.reduceLE,evW,retM,t0,t2,t4]) <;> rfl)
 ·have:B'.length - (B'.length - A'.length) = A'.length:=by omega
  (simp (maxSteps:=9^7) only [go_sem,↓reduceIte,reduceCtorEq,Nat.reduceEqDiff,Nat.reduceBEq,Nat.reduceAdd,Nat.reduceSub,Nat.reduceMul,Nat.reduceLT,Nat.reduceLeDiff,Nat.reduceBNe,Int.reduceBEq,Int.reduceBNe,Int.reduceLT,Int.reduceLE,evW,retM,t10,List.length_drop,this])
 ·have:min (B'.length - A'.length) B'.length = B'.length - A'.length:=by omega
  (simp (maxSteps:=9^7) only [go_sem,↓reduceIte,reduceCtorEq,Nat.reduceEqDiff,Nat.reduceBEq,Nat.reduceAdd,Nat.reduceSub,Nat.reduceMul,Nat.reduceLT,Nat.reduceLeDiff,Nat.reduceBNe,Int.reduceBEq,Int.reduceBNe,Int.reduceLT,Int.reduceLE,evW,retM,List.length_take,this])
 ·rw [← List.append_assoc]; exact c2
end
end
section
/-
 Stable merging by halves: the plain law.
-/
open Go.RowKit
section
variable {α:Type} (key:α->Int)
theorem z6c {X:List α} (h:Rise key X):srt key X = X:=(zdi key h (Stab.refl key X)).symm
theorem Stab.symm {key:α->Int} {X Y:List α} (h:Stab key X Y):Stab key Y X:=fun k=>(h k).symm
theorem srt_congr {X Y:List α} (h:Stab key X Y):srt key X = srt key Y:=(zdi key (z2k key X) (Stab.trans (Stab.symm h) (z1p key X)))
theorem z0d (X:List α):(srt key X).length = X.length:=by
 have go:∀ (l acc:List α),(zpf key acc l).length = acc.length + l.length:=by
  intro l
  induction l with
  | nil=>intro acc; rfl
  | cons x l ih =>
   intro acc
   have hp:∀ r:List α,(putK key x r).length = r.length + 1:=by
    intro r
    induction r with
    | nil=>rfl
    | cons y r ihr =>
     rw [putK]
     split
     ·rw [List.length_cons,ihr,List.length_cons]
     ·rfl
   rw [zpf,ih,hp,List.length_cons]; omega
 have:=go X []
 simpa [srt] using this
/-- one ahead of a rising list goes to its place -/
theorem zda {x:α} {B1 B2:List α} (h:Rise key (B1 ++ B2)) (h1:∀ y,y ∈ B1->key y < key x) (h2:∀ y,y ∈ B2->key x≤key y):B1 ++ [x] ++ B2 = srt key ([x] ++ (B1 ++ B2)):=by
 refine zdi key ?_ ?_
 ·rw [List.append_assoc]
  refine Rise.app (Rise.left h) ⟨fun y hy=>h2 y (by simpa using hy),Rise.right h⟩ fun a ha b hb=>?_
  rcases List.mem_append.1 hb with q | q
  ·rw [List.mem_singleton.1 q]; exact Int.le_of_lt (h1 a ha)
  ·exact Rise.cross h a ha b q
 ·rw [← List.append_assoc]
  refine Stab.app (Stab.swap (A:=[x]) (B:=B1) fun a ha b hb=>?_) (Stab.refl key _)
  rw [List.mem_singleton.1 ha]; exact h1 b hb
/-- one behind a rising list goes to its place -/
theorem z48 {y:α} {A1 A2:List α} (h:Rise key (A1 ++ A2)) (h1:∀ a,a ∈ A1->key a≤key y) (h2:∀ a,a ∈ A2->key y < key a):A1 ++ [y] ++ A2 = srt key (A1 ++ A2 ++ [y]):=by
 refine zdi key ?_ ?_
 ·rw [List.append_assoc]
  refine Rise.app (Rise.left h) ⟨fun z hz=>Int.le_of_lt (h2 z (by simpa using hz)),Rise.right h⟩ fun a ha b hb=>?_
  rcases List.mem_append.1 hb with q | q
  ·rw [List.mem_singleton.1 q]; exact h1 a ha
  ·exact Rise.cross h a ha b q
 ·rw [List.append_assoc,List.append_assoc]
  refine Stab.app (Stab.refl key _) (Stab.swap (A:=A2) (B:=[y]) fun a ha b hb=>?_)
  rw [List.mem_singleton.1 hb]; exact h2 a ha
/-- two rising lists,cut so that the hinder part of the first and the front of the second change places -/
theorem zlm {A1 A2 B1 B2:List α} (hA:Rise key (A1 ++ A2)) (hB:Rise key (B1 ++ B2)) (h1:∀ a,a ∈ A1->∀ b,b ∈ B2->key a≤key b) (h2:∀ a,a ∈ A2->∀ b,b ∈ B1->key b < key a) :
  srt key (A1 ++ B1) ++ srt key (A2 ++ B2) = srt key ((A1 ++ A2) ++ (B1 ++ B2)):=by
 refine zdi key (Rise.app (z2k key _) (z2k key _) fun x hx y hy=>?_) ?_
 ·have hx':=(Stab.mem (z1p key (A1 ++ B1))).1 hx
  have hy':=(Stab.mem (z1p key (A2 ++ B2))).1 hy
  rcases List.mem_append.1 hx' with p | p <;> rcases List.mem_append.1 hy' with q | q
  ·exact Rise.cross hA x p y q
  ·exact h1 x p y q
  ·exact Int.le_of_lt (h2 y q x p)
  ·exact Rise.cross hB x p y q
 ·have e:(A1 ++ A2) ++ (B1 ++ B2) = A1 ++ ((A2 ++ B1) ++ B2):=by simp
  have g:(A1 ++ B1) ++ (A2 ++ B2) = A1 ++ ((B1 ++ A2) ++ B2):=by simp
  rw [e]
  refine Stab.trans (Y:=(A1 ++ B1) ++ (A2 ++ B2)) ?_ (Stab.app (z1p key _) (z1p key _))
  rw [g]
  exact Stab.app (Stab.refl key _) (Stab.app (Stab.swap h2) (Stab.refl key _))
/-- two lists,each put in order,and then together -/
theorem zh9 (X Y:List α):srt key (srt key X ++ srt key Y) = srt key (X ++ Y) :=
 (srt_congr key (Stab.app (z1p key X) (z1p key Y))).symm
/-- blocks of one length,each in order -/
def blk (s:Nat):Nat->List α->List α
 | 0,X=>X
 | f + 1,X=>match X with
  | []=>[]
  | x :: l=>srt key ((x :: l).take s) ++ blk s f ((x :: l).drop s)
theorem blk_all {s:Nat} {X:List α} (h:X.length≤s):∀ f,0 < f->blk key s f X = srt key X
 | f + 1,_=>by
  cases X with
  | nil=>rfl
  | cons x l =>
   show srt key ((x :: l).take s) ++ blk key s f ((x :: l).drop s) = _
   rw [List.take_of_length_le h,List.drop_eq_nil_of_le h]
   cases f <;> simp [blk]
/-! ### Looking for a place by halves -/
/-- between two ends: what is false stays false ahead,what is true stays true behind -/
structure Cut (p:Nat->Prop) (lo hi s r:Nat):Prop where
 l0:lo≤s
 m0:s≤r
 r0:r≤hi
 no:∀ c,lo≤c->c < s->¬ p c
 yes:∀ c,r≤c->c < hi->p c
theorem Cut.start (p:Nat->Prop) {lo hi:Nat} (h:lo≤hi):Cut p lo hi lo hi:=⟨Nat.le_refl _,h,Nat.le_refl _,fun c a b=>absurd a (by omega),fun c a b=>absurd a (by omega)⟩
theorem Cut.up {p:Nat->Prop} {lo hi s r c:Nat} (h:Cut p lo hi s r) (h1:s≤c) (h2:c < r) (mono:∀ x y,lo≤x->x≤y->y < hi->p x->p y) (hc:¬ p c):Cut p lo hi (c + 1) r :=
 ⟨by have:=h.l0; omega,by omega,h.r0,fun x a b hx=>hc (mono x c a (by omega) (by have:=h.r0; omega) hx),h.yes⟩
theorem Cut.down {p:Nat->Prop} {lo hi s r c:Nat} (h:Cut p lo hi s r) (h1:s≤c) (h2:c < r) (mono:∀ x y,lo≤x->x≤y->y < hi->p x->p y) (hc:p c):Cut p lo hi s c :=
 ⟨h.l0,h1,by have:=h.r0; omega,h.no,fun x a b=>mono c x (by have:=h.l0; omega) a b hc⟩
end
end
end Go.Proofs.Ytolocaankfcjiaa
