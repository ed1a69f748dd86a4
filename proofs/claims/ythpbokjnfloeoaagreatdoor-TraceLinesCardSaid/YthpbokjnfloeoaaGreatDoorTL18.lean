/-
  Part 18 of a proof: TeF, TeG.
-/
import Derived.Test.YthpbokjnfloeoaaGreatDoorTL17
namespace Go.Proofs.YthpbokjnfloeoaaGreatDoor
attribute [local go_sem] Spn.a Msg.a Par.a Nd.a Seat.a Cfg.a
set_option linter.unusedVariables false
section
/-
 Trees of the document: whether a node may be,and whether it is placed well: walked.
-/
open Go.RowKit
set_option linter.unusedVariables false
set_option linter.unusedSimpArgs false
set_option maxRecDepth 100000
attribute [local go_sem ↓] z11 z0l
attribute [local go_sem ↓] zeh
attribute [local go_sem] z8p zoo z4q zon z4p zom zol z4o zok zoj z4n zoi z4m zoh z4l
/-! ### percolate/percolateref28.Placed -/
def zuc:Reg:=⟨[],[⟨.box 14 69 (.t 0),some 1,none,[],[]⟩,⟨.mv (.c (.bool false)),some 2,none,[],[]⟩],[1],[],false⟩
def zck:List ROp:=[⟨.faddr 0 (.t 1),some 7,none,[],[]⟩,⟨.faddr 5 (.t 7),some 8,none,[],[]⟩,⟨.load 1 false (.t 8),some 9,none,[],[]⟩,⟨.faddr 10 (.t 1),some 10,none,[],[]⟩,⟨.faddr 2 (.t 10),some 11,none,[],[]⟩,⟨.load 1 false (.t 11),some 12,none,[],[]⟩,⟨.beq true (.t 9) (.t 12),some 13,none,[],[]⟩,⟨.mv (.t 13),some 14,none,[],[]⟩,⟨.faddr 0 (.t 1),some 15,(some (14,false)),[],[]⟩,⟨.faddr 4 (.t 15),some 16,(some (14,false)),[],[]⟩,⟨.load 1 false (.t 16),some 17,(some (14,false)),[],[]⟩,⟨.faddr 10 (.t 1),some 18,(some (14,false)),[],[]⟩,⟨.faddr 1 (.t 18),some 19,(some (14,false)),[],[]⟩,⟨.load 1 false (.t 19),some 20,(some (14,false)),[],[]⟩,⟨.bin .neq (.t 17) (.t 20),some 21,(some (14,false)),[],[]⟩,⟨.pick (.t 14) (.c (.bool true)) (.t 21),some 22,none,[],[]⟩]
def zub:Reg:=⟨[],zck,[],[],false⟩
def zua:Reg:=⟨[],[⟨.mv (.c (.bool false)),some 2,none,[],[]⟩],[],[],false⟩
def zu9:Reg:=⟨[],[⟨.mv (.c (.int .i64 0)),some 3,none,[],[]⟩],[],[],false⟩
def zcj:List ROp:=[⟨.mv (.t 3),some 23,none,[],[]⟩,⟨.faddr 0 (.t 1),some 24,none,[],[]⟩,⟨.faddr 9 (.t 24),some 25,none,[],[]⟩,⟨.load 1 false (.t 25),some 26,none,[],[]⟩,⟨.len false (.t 26),some 27,none,[],[]⟩,⟨.bin .lss (.t 23) (.t 27),some 28,none,[],[]⟩]
def zu8:Reg:=⟨[],zcj,[],[],false⟩
def zci:List ROp:=[⟨.callv (.c (.clo 59 [] [])) [(.t 32),(.t 39)],some 40,none,[],[]⟩,⟨.un .not (.t 40),some 41,none,[],[]⟩]
def zet:List ROp:=[⟨.faddr 10 (.t 1),some 31,none,[40],[]⟩,⟨.load 3 true (.t 31),some 32,none,[40],[]⟩,⟨.faddr 0 (.t 1),some 33,none,[40],[]⟩,⟨.faddr 9 (.t 33),some 34,none,[40],[]⟩,⟨.load 1 false (.t 34),some 35,none,[40],[]⟩,⟨.mv (.t 3),some 36,none,[40],[]⟩,⟨.iaddr 2 (.t 35) (.t 36),some 37,none,[40],[]⟩,⟨.faddr 0 (.t 37),some 38,none,[40],[]⟩,⟨.load 1 false (.t 38),some 39,none,[40],[]⟩]
def zu7:Reg:=⟨zet,zci,[40],[],true⟩
def zu6:Reg:=⟨[],[⟨.mv (.c (.bool false)),some 2,none,[],[]⟩],[],[],false⟩
def zch:List ROp:=[⟨.mv (.t 3),some 29,none,[],[]⟩,⟨.bin .add (.t 29) (.c (.int .i64 1)),some 30,none,[],[]⟩,⟨.mv (.t 30),some 3,none,[],[]⟩]
def zu5:Reg:=⟨[],zch,[],[],false⟩
def z8x:IR:=(.seq (.seq (.reg zu8)
 (.cond (.t 28) .skip
 (.exit 0)))
 (.seq (.block 1 (.seq (.reg zu7)
 (.cond (.t 41) (.seq (.reg zu6)
 .ret)
 .skip)))
 (.reg zu5)))
def zu4:Reg:=⟨[],[⟨.mv (.c (.int .i64 0)),some 4,none,[],[]⟩],[],[],false⟩
def z88:List ROp:=[⟨.mv (.t 4),some 42,none,[],[]⟩,⟨.faddr 0 (.t 1),some 43,none,[],[]⟩,⟨.faddr 2 (.t 43),some 44,none,[],[]⟩,⟨.load 1 false (.t 44),some 45,none,[],[]⟩,⟨.len false (.t 45),some 46,none,[],[]⟩,⟨.bin .lss (.t 42) (.t 46),some 47,none,[],[]⟩]
def zmj:Reg:=⟨[],z88,[],[],false⟩
def z87:List ROp:=[⟨.bin .eql (.t 66) (.t 69),some 70,(some (60,false)),[],[]⟩,⟨.pick (.t 60) (.c (.bool true)) (.t 70),some 71,none,[],[]⟩]
def z9a:List ROp:=[⟨.faddr 10 (.t 1),some 50,none,[58],[]⟩,⟨.load 3 true (.t 50),some 51,none,[58],[]⟩,⟨.faddr 0 (.t 1),some 52,none,[58],[]⟩,⟨.faddr 2 (.t 52),some 53,none,[58],[]⟩,⟨.load 1 false (.t 53),some 54,none,[58],[]⟩,⟨.mv (.t 4),some 55,none,[58],[]⟩,⟨.iaddr 1 (.t 54) (.t 55),some 56,none,[58],[]⟩,⟨.load 1 false (.t 56),some 57,none,[58],[]⟩,⟨.callv (.c (.clo 59 [] [])) [(.t 51),(.t 57)],some 58,none,[],[]⟩,⟨.un .not (.t 58),some 59,none,[],[]⟩,⟨.mv (.t 59),some 60,none,[],[]⟩,⟨.faddr 0 (.t 1),some 61,(some (60,false)),[],[]⟩,⟨.faddr 2 (.t 61),some 62,(some (60,false)),[],[]⟩,⟨.load 1 false (.t 62),some 63,(some (60,false)),[],[]⟩,⟨.mv (.t 4),some 64,(some (60,false)),[],[]⟩,⟨.iaddr 1 (.t 63) (.t 64),some 65,(some (60,false)),[],[]⟩,⟨.load 1 false (.t 65),some 66,(some (60,false)),[],[]⟩,⟨.faddr 10 (.t 1),some 67,(some (60,false)),[],[]⟩,⟨.faddr 0 (.t 67),some 68,(some (60,false)),[],[]⟩,⟨.load 1 false (.t 68),some 69,(some (60,false)),[],[]⟩]
def zmi:Reg:=⟨z9a,z87,[58],[],true⟩
def zmh:Reg:=⟨[],[⟨.mv (.c (.bool false)),some 2,none,[],[]⟩],[],[],false⟩
def z86:List ROp:=[⟨.mv (.t 4),some 48,none,[],[]⟩,⟨.bin .add (.t 48) (.c (.int .i64 1)),some 49,none,[],[]⟩,⟨.mv (.t 49),some 4,none,[],[]⟩]
def zmg:Reg:=⟨[],z86,[],[],false⟩
def z61:IR:=(.seq (.seq (.reg zmj)
 (.cond (.t 47) .skip
 (.exit 2)))
 (.seq (.block 3 (.seq (.reg zmi)
 (.cond (.t 71) (.seq (.reg zmh)
 .ret)
 .skip)))
 (.reg zmg)))
def zmf:Reg:=⟨[],[⟨.mv (.c (.int .i64 0)),some 5,none,[],[]⟩],[],[],false⟩
def z85:List ROp:=[⟨.mv (.t 5),some 72,none,[],[]⟩,⟨.faddr 0 (.t 1),some 73,none,[],[]⟩,⟨.faddr 8 (.t 73),some 74,none,[],[]⟩,⟨.load 1 false (.t 74),some 75,none,[],[]⟩,⟨.len false (.t 75),some 76,none,[],[]⟩,⟨.bin .lss (.t 72) (.t 76),some 77,none,[],[]⟩]
def zme:Reg:=⟨[],z85,[],[],false⟩
def z84:List ROp:=[⟨.faddr 0 (.t 1),some 80,none,[86,6],[]⟩,⟨.faddr 8 (.t 80),some 81,none,[86,6],[]⟩,⟨.load 1 false (.t 81),some 82,none,[86,6],[]⟩,⟨.mv (.t 5),some 83,none,[86,6],[]⟩,⟨.iaddr 6 (.t 82) (.t 83),some 84,none,[86,6],[]⟩,⟨.load 6 true (.t 84),some 85,none,[86,6],[]⟩,⟨.callv (.c (.clo 60 [] [])) [(.t 85)],some 86,none,[6],[]⟩,⟨.alloc 3 67 (.agg [(.str ⟨#[]⟩),(.str ⟨#[]⟩),(.bool false)]),some 6,none,[],[]⟩,⟨.store 3 (.t 6) (.t 86),none,none,[],[]⟩]
def zmd:Reg:=⟨[],z84,[86,6],[],false⟩
def z83:List ROp:=[⟨.callv (.c (.clo 61 [] [])) [(.t 91)],some 92,none,[],[]⟩,⟨.feq true [(0,1),(1,1),(2,2)] (.t 90) (.t 92),some 93,none,[],[]⟩]
def z99:List ROp:=[⟨.load 3 true (.t 6),some 87,none,[90,92],[]⟩,⟨.faddr 10 (.t 1),some 88,none,[90,92],[]⟩,⟨.load 3 true (.t 88),some 89,none,[90,92],[]⟩,⟨.callv (.c (.clo 53 [] [])) [(.t 87),(.t 89)],some 90,none,[92],[]⟩,⟨.load 3 true (.t 6),some 91,none,[90,92],[]⟩]
def zmc:Reg:=⟨z99,z83,[90,92],[],true⟩
def zmb:Reg:=⟨[],[⟨.mv (.c (.bool false)),some 2,none,[],[]⟩],[],[],false⟩
def z82:List ROp:=[⟨.mv (.t 5),some 78,none,[],[]⟩,⟨.bin .add (.t 78) (.c (.int .i64 1)),some 79,none,[],[]⟩,⟨.mv (.t 79),some 5,none,[],[]⟩]
def zma:Reg:=⟨[],z82,[],[],false⟩
def z60:IR:=(.seq (.seq (.reg zme)
 (.cond (.t 77) .skip
 (.exit 4)))
 (.seq (.block 5 (.seq (.reg zmd)
 (.seq (.reg zmc)
 (.cond (.t 93) (.seq (.reg zmb)
 .ret)
 .skip))))
 (.reg zma)))
def zm9:Reg:=⟨[],[⟨.mv (.c (.bool true)),some 2,none,[],[]⟩],[],[],false⟩
def y70:IR:=(.seq (.reg zuc)
 (.seq (.seq (.reg zub)
 (.cond (.t 22) (.seq (.reg zua)
 .ret)
 .skip))
 (.seq (.seq (.reg zu9)
 (.block 0 (.loop z8x)))
 (.seq (.seq (.reg zu4)
 (.block 2 (.loop z61)))
 (.seq (.seq (.reg zmf)
 (.block 4 (.loop z60)))
 (.seq (.reg zm9)
 .ret))))))
def zqd:List RDesc:=[(.tmp 2)]
theorem e_placed_0:EqR zuc [⟨.box 14 69 (.t 0),some 1,none,[],[]⟩,⟨.mv (.c (.bool false)),some 2,none,[],[]⟩] [1]:=fun _ _ _=>rfl
theorem e_placed_1:EqR zub zck []:=fun _ _ _=>rfl
theorem e_placed_2:EqR zua [⟨.mv (.c (.bool false)),some 2,none,[],[]⟩] []:=fun _ _ _=>rfl
theorem e_placed_3:EqR zu9 [⟨.mv (.c (.int .i64 0)),some 3,none,[],[]⟩] []:=fun _ _ _=>rfl
theorem e_placed_4:EqR zu8 zcj []:=fun _ _ _=>rfl
theorem e_placed_5 (C:FuncId->List AV->AV->Prop) (σ:St) (K:St->Prop):z0k C zu7 σ K = z08 C [] zci zet (σ.kills [40]) K:=rfl
theorem e_placed_6:EqR zu6 [⟨.mv (.c (.bool false)),some 2,none,[],[]⟩] []:=fun _ _ _=>rfl
theorem e_placed_7:EqR zu5 zch []:=fun _ _ _=>rfl
theorem e_placed_9:EqR zu4 [⟨.mv (.c (.int .i64 0)),some 4,none,[],[]⟩] []:=fun _ _ _=>rfl
theorem ybj:EqR zmj z88 []:=fun _ _ _=>rfl
theorem ybi (C:FuncId->List AV->AV->Prop) (σ:St) (K:St->Prop):z0k C zmi σ K = z08 C [] z87 z9a (σ.kills [58]) K:=rfl
theorem ybh:EqR zmh [⟨.mv (.c (.bool false)),some 2,none,[],[]⟩] []:=fun _ _ _=>rfl
theorem ybg:EqR zmg z86 []:=fun _ _ _=>rfl
theorem ybf:EqR zmf [⟨.mv (.c (.int .i64 0)),some 5,none,[],[]⟩] []:=fun _ _ _=>rfl
theorem ybe:EqR zme z85 []:=fun _ _ _=>rfl
theorem ybd:EqR zmd z84 [86,6]:=fun _ _ _=>rfl
theorem ybc (C:FuncId->List AV->AV->Prop) (σ:St) (K:St->Prop):z0k C zmc σ K = z08 C [] z83 z99 (σ.kills [90,92]) K:=rfl
theorem ybb:EqR zmb [⟨.mv (.c (.bool false)),some 2,none,[],[]⟩] []:=fun _ _ _=>rfl
theorem yba:EqR zma z82 []:=fun _ _ _=>rfl
theorem yb9:EqR zm9 [⟨.mv (.c (.bool true)),some 2,none,[],[]⟩] []:=fun _ _ _=>rfl
theorem fn_placed {args:List AV} {r:AV} (ha:args.length.ble Tryz.f31.ntmps = true) (h:run (AFn Tryz.prog) y70 (endQ zqd r) (z0b args)):AFn Tryz.prog 31 args r :=
 AFn.of_code (pv:=false) (hint:=fun _=>[]) (c:=Tryz.f31.body.getD .skip) (by kernel_rfl) (by kernel_rfl) Tryz.func31 (by kernel_rfl) (by kernel_rfl) (by kernel_rfl) (of_decide_eq_true (by kernel_rfl)) (Nat.le_of_ble_eq_true ha) (Nat.le_of_ble_eq_true (by kernel_rfl)) (z0c h)
attribute [local go_sem ↓] y70
attribute [local go_sem] zqd e_placed_0 e_placed_1 zck e_placed_2 e_placed_3 e_placed_4 zcj e_placed_5 zci zet e_placed_6 e_placed_7 zch e_placed_9 ybj z88 ybi z87 z9a ybh ybg z86 ybf ybe z85 ybd z84 ybc z83 z99 ybb yba z82 yb9
def nilB0 (x:ByteArray):Bool:=x.toList == (⟨#[]⟩:ByteArray).toList
def topB (n:Nd):Bool:=if n.top then nilB0 n.high && decide (n.right = -1) else !nilB0 n.high && decide ((n.high.size:Int)≤16) && decide (0≤n.right)
def ndB (c:Cfg) (n:Nd):Bool:=decide (0≤n.slot) && decide (0≤n.level) && decide (0≤n.seen) && topB n && (if n.level = 0 then leafB c n else yg6 c n)
set_option maxHeartbeats 2000000 in
theorem right21_ok (c:Cfg) (n:Nd) (hn:n.Lt):AFn Tryz.prog 30 [c.a,n.a] (.bool (ndB c n)):=by
 refine fn_right21 rfl ?_
 have cl:=leaf21_ok c n hn
 have ci:=inner21_ok c n hn
 unfold ndB
 generalize leafB c n = bl at *
 generalize yg6 c n = bi at *
 have hT:∀ b,topB n = b->topB n = b:=fun _ h=>h
 by_cases q1:0≤n.slot
 case neg =>
  have q1':n.slot < 0:=by omega
  rw [decide_eq_false q1]
  (repeat (first | simp (maxSteps:=9^7) only [go_sem,↓reduceIte,reduceCtorEq,Nat.reduceEqDiff,Nat.reduceBEq,Nat.reduceAdd,Nat.reduceSub,Nat.reduceMul,Nat.reduceLT,Nat.reduceLeDiff,Nat.reduceBNe,Int.reduceBEq,Int.reduceBNe,Int.reduceLT,Int.reduceLE,q1'] | refine z01 (cl) ?_ | refine z00 (cl) ?_ | refine z01 (ci) ?_ | refine z00 (ci) ?_ | refine And.intro (by omega) ?_ | refine And.intro (fun d hd=>by (repeat (rcases hd with rfl | hd; · exact ⟨rfl,rfl⟩)); cases hd) ?_))
 have q1':¬ n.slot < 0:=by omega
 rw [decide_eq_true q1]
 by_cases q2:0≤n.level
 case neg =>
  have q2':n.level < 0:=by omega
  rw [decide_eq_false q2]
  (repeat (first | simp (maxSteps:=9^7) only [go_sem,↓reduceIte,reduceCtorEq,Nat.reduceEqDiff,Nat.reduceBEq,Nat.reduceAdd,Nat.reduceSub,Nat.reduceMul,Nat.reduceLT,Nat.reduceLeDiff,Nat.reduceBNe,Int.reduceBEq,Int.reduceBNe,Int.reduceLT,Int.reduceLE,q1',q2'] | refine z01 (cl) ?_ | refine z00 (cl) ?_ | refine z01 (ci) ?_ | refine z00 (ci) ?_ | refine And.intro (by omega) ?_ | refine And.intro (fun d hd=>by (repeat (rcases hd with rfl | hd; · exact ⟨rfl,rfl⟩)); cases hd) ?_))
 have q2':¬ n.level < 0:=by omega
 rw [decide_eq_true q2]
 by_cases q3:0≤n.seen
 case neg =>
  have q3':n.seen < 0:=by omega
  rw [decide_eq_false q3]
  (repeat (first | simp (maxSteps:=9^7) only [go_sem,↓reduceIte,reduceCtorEq,Nat.reduceEqDiff,Nat.reduceBEq,Nat.reduceAdd,Nat.reduceSub,Nat.reduceMul,Nat.reduceLT,Nat.reduceLeDiff,Nat.reduceBNe,Int.reduceBEq,Int.reduceBNe,Int.reduceLT,Int.reduceLE,q1',q2',q3'] | refine z01 (cl) ?_ | refine z00 (cl) ?_ | refine z01 (ci) ?_ | refine z00 (ci) ?_ | refine And.intro (by omega) ?_ | refine And.intro (fun d hd=>by (repeat (rcases hd with rfl | hd; · exact ⟨rfl,rfl⟩)); cases hd) ?_))
 have q3':¬ n.seen < 0:=by omega
 rw [decide_eq_true q3]
 have hz:(n.level == 0) = decide (n.level = 0):=by
  by_cases h:n.level = 0
  ·simp [h]
  ·rw [decide_eq_false h]; simp [h]
 obtain ⟨slot,level,pivots,kids,high,top,right,seen,msgs,rows⟩:=n
 simp only at q1' q2' q3' cl ci hz ⊢
 unfold topB nilB0
 simp only
 by_cases hl:level = 0
 ·rw [decide_eq_true hl] at hz
  rw [if_pos hl]
  cases top
  ·rw [if_neg (by simp)]
   cases b1:(high.toList == (⟨#[]⟩:ByteArray).toList)
   case true=>(repeat (first | simp (maxSteps:=9^7) only [go_sem,↓reduceIte,reduceCtorEq,Nat.reduceEqDiff,Nat.reduceBEq,Nat.reduceAdd,Nat.reduceSub,Nat.reduceMul,Nat.reduceLT,Nat.reduceLeDiff,Nat.reduceBNe,Int.reduceBEq,Int.reduceBNe,Int.reduceLT,Int.reduceLE,q1',q2',q3',b1,hz,bne] | refine z01 (cl) ?_ | refine z00 (cl) ?_ | refine z01 (ci) ?_ | refine z00 (ci) ?_ | refine And.intro (by omega) ?_ | refine And.intro (fun d hd=>by (repeat (rcases hd with rfl | hd; · exact ⟨rfl,rfl⟩)); cases hd) ?_))
   by_cases h16:(16:Int) < (high.size:Int)
   ·rw [decide_eq_false (p:=(high.size:Int)≤16) (by omega)]
    (repeat (first | simp (maxSteps:=9^7) only [go_sem,↓reduceIte,reduceCtorEq,Nat.reduceEqDiff,Nat.reduceBEq,Nat.reduceAdd,Nat.reduceSub,Nat.reduceMul,Nat.reduceLT,Nat.reduceLeDiff,Nat.reduceBNe,Int.reduceBEq,Int.reduceBNe,Int.reduceLT,Int.reduceLE,q1',q2',q3',b1,h16,hz,bne] | refine z01 (cl) ?_ | refine z00 (cl) ?_ | refine z01 (ci) ?_ | refine z00 (ci) ?_ | refine And.intro (by omega) ?_ | refine And.intro (fun d hd=>by (repeat (rcases hd with rfl | hd; · exact ⟨rfl,rfl⟩)); cases hd) ?_))
   rw [decide_eq_true (p:=(high.size:Int)≤16) (by omega)]
   by_cases hr:right < 0
   ·rw [decide_eq_false (p:=0≤right) (by omega)]
    (repeat (first | simp (maxSteps:=9^7) only [go_sem,↓reduceIte,reduceCtorEq,Nat.reduceEqDiff,Nat.reduceBEq,Nat.reduceAdd,Nat.reduceSub,Nat.reduceMul,Nat.reduceLT,Nat.reduceLeDiff,Nat.reduceBNe,Int.reduceBEq,Int.reduceBNe,Int.reduceLT,Int.reduceLE,q1',q2',q3',b1,h16,hr,hz,bne] | refine z01 (cl) ?_ | refine z00 (cl) ?_ | refine z01 (ci) ?_ | refine z00 (ci) ?_ | refine And.intro (by omega) ?_ | refine And.intro (fun d hd=>by (repeat (rcases hd with rfl | hd; · exact ⟨rfl,rfl⟩)); cases hd) ?_))
   ·rw [decide_eq_true (p:=0≤right) (by omega)]
    (repeat (first | simp (maxSteps:=9^7) only [go_sem,↓reduceIte,reduceCtorEq,Nat.reduceEqDiff,Nat.reduceBEq,Nat.reduceAdd,Nat.reduceSub,Nat.reduceMul,Nat.reduceLT,Nat.reduceLeDiff,Nat.reduceBNe,Int.reduceBEq,Int.reduceBNe,Int.reduceLT,Int.reduceLE,q1',q2',q3',b1,h16,hr,hz,bne] | refine z01 (cl) ?_ | refine z00 (cl) ?_ | refine z01 (ci) ?_ | refine z00 (ci) ?_ | refine And.intro (by omega) ?_ | refine And.intro (fun d hd=>by (repeat (rcases hd with rfl | hd; · exact ⟨rfl,rfl⟩)); cases hd) ?_))
  ·rw [if_pos rfl]
   cases b1:(high.toList == (⟨#[]⟩:ByteArray).toList)
   case false=>(repeat (first | simp (maxSteps:=9^7) only [go_sem,↓reduceIte,reduceCtorEq,Nat.reduceEqDiff,Nat.reduceBEq,Nat.reduceAdd,Nat.reduceSub,Nat.reduceMul,Nat.reduceLT,Nat.reduceLeDiff,Nat.reduceBNe,Int.reduceBEq,Int.reduceBNe,Int.reduceLT,Int.reduceLE,q1',q2',q3',b1,hz,bne] | refine z01 (cl) ?_ | refine z00 (cl) ?_ | refine z01 (ci) ?_ | refine z00 (ci) ?_ | refine And.intro (by omega) ?_ | refine And.intro (fun d hd=>by (repeat (rcases hd with rfl | hd; · exact ⟨rfl,rfl⟩)); cases hd) ?_))
   by_cases hr:right = -1
   ·have hr':(right == -1) = true:=by simp [hr]
    rw [decide_eq_true hr]
    (repeat (first | simp (maxSteps:=9^7) only [go_sem,↓reduceIte,reduceCtorEq,Nat.reduceEqDiff,Nat.reduceBEq,Nat.reduceAdd,Nat.reduceSub,Nat.reduceMul,Nat.reduceLT,Nat.reduceLeDiff,Nat.reduceBNe,Int.reduceBEq,Int.reduceBNe,Int.reduceLT,Int.reduceLE,q1',q2',q3',b1,hr',hz,bne] | refine z01 (cl) ?_ | refine z00 (cl) ?_ | refine z01 (ci) ?_ | refine z00 (ci) ?_ | refine And.intro (by omega) ?_ | refine And.intro (fun d hd=>by (repeat (rcases hd with rfl | hd; · exact ⟨rfl,rfl⟩)); cases hd) ?_))
   ·have hr':(right == -1) = false:=by simp [hr]
    rw [decide_eq_false hr]
    (repeat (first | simp (maxSteps:=9^7) only [go_sem,↓reduceIte,reduceCtorEq,Nat.reduceEqDiff,Nat.reduceBEq,Nat.reduceAdd,Nat.reduceSub,Nat.reduceMul,Nat.reduceLT,Nat.reduceLeDiff,Nat.reduceBNe,Int.reduceBEq,Int.reduceBNe,Int.reduceLT,Int.reduceLE,q1',q2',q3',b1,hr',hz,bne] | refine z01 (cl) ?_ | refine z00 (cl) ?_ | refine z01 (ci) ?_ | refine z00 (ci) ?_ | refine And.intro (by omega) ?_ | refine And.intro (fun d hd=>by (repeat (rcases hd with rfl | hd; · exact ⟨rfl,rfl⟩)); cases hd) ?_))
 ·rw [decide_eq_false hl] at hz
  rw [if_neg hl]
  cases top
  ·rw [if_neg (by simp)]
   cases b1:(high.toList == (⟨#[]⟩:ByteArray).toList)
   case true=>(repeat (first | simp (maxSteps:=9^7) only [go_sem,↓reduceIte,reduceCtorEq,Nat.reduceEqDiff,Nat.reduceBEq,Nat.reduceAdd,Nat.reduceSub,Nat.reduceMul,Nat.reduceLT,Nat.reduceLeDiff,Nat.reduceBNe,Int.reduceBEq,Int.reduceBNe,Int.reduceLT,Int.reduceLE,q1',q2',q3',b1,hz,bne] | refine z01 (cl) ?_ | refine z00 (cl) ?_ | refine z01 (ci) ?_ | refine z00 (ci) ?_ | refine And.intro (by omega) ?_ | refine And.intro (fun d hd=>by (repeat (rcases hd with rfl | hd; · exact ⟨rfl,rfl⟩)); cases hd) ?_))
   by_cases h16:(16:Int) < (high.size:Int)
   ·rw [decide_eq_false (p:=(high.size:Int)≤16) (by omega)]
    (repeat (first | simp (maxSteps:=9^7) only [go_sem,↓reduceIte,reduceCtorEq,Nat.reduceEqDiff,Nat.reduceBEq,Nat.reduceAdd,Nat.reduceSub,Nat.reduceMul,Nat.reduceLT,Nat.reduceLeDiff,Nat.reduceBNe,Int.reduceBEq,Int.reduceBNe,Int.reduceLT,Int.reduceLE,q1',q2',q3',b1,h16,hz,bne] | refine z01 (cl) ?_ | refine z00 (cl) ?_ | refine z01 (ci) ?_ | refine z00 (ci) ?_ | refine And.intro (by omega) ?_ | refine And.intro (fun d hd=>by (repeat (rcases hd with rfl | hd; · exact ⟨rfl,rfl⟩)); cases hd) ?_))
   rw [decide_eq_true (p:=(high.size:Int)≤16) (by omega)]
   by_cases hr:right < 0
   ·rw [decide_eq_false (p:=0≤right) (by omega)]
    (repeat (first | simp (maxSteps:=9^7) only [go_sem,↓reduceIte,reduceCtorEq,Nat.reduceEqDiff,Nat.reduceBEq,Nat.reduceAdd,Nat.reduceSub,Nat.reduceMul,Nat.reduceLT,Nat.reduceLeDiff,Nat.reduceBNe,Int.reduceBEq,Int.reduceBNe,Int.reduceLT,Int.reduceLE,q1',q2',q3',b1,h16,hr,hz,bne] | refine z01 (cl) ?_ | refine z00 (cl) ?_ | refine z01 (ci) ?_ | refine z00 (ci) ?_ | refine And.intro (by omega) ?_ | refine And.intro (fun d hd=>by (repeat (rcases hd with rfl | hd; · exact ⟨rfl,rfl⟩)); cases hd) ?_))
   ·rw [decide_eq_true (p:=0≤right) (by omega)]
    (repeat (first | simp (maxSteps:=9^7) only [go_sem,↓reduceIte,reduceCtorEq,Nat.reduceEqDiff,Nat.reduceBEq,Nat.reduceAdd,Nat.reduceSub,Nat.reduceMul,Nat.reduceLT,Nat.reduceLeDiff,Nat.reduceBNe,Int.reduceBEq,Int.reduceBNe,Int.reduceLT,Int.reduceLE,q1',q2',q3',b1,h16,hr,hz,bne] | refine z01 (cl) ?_ | refine z00 (cl) ?_ | refine z01 (ci) ?_ | refine z00 (ci) ?_ | refine And.intro (by omega) ?_ | refine And.intro (fun d hd=>by (repeat (rcases hd with rfl | hd; · exact ⟨rfl,rfl⟩)); cases hd) ?_))
  ·rw [if_pos rfl]
   cases b1:(high.toList == (⟨#[]⟩:ByteArray).toList)
   case false=>(repeat (first | simp (maxSteps:=9^7) only [go_sem,↓reduceIte,reduceCtorEq,Nat.reduceEqDiff,Nat.reduceBEq,Nat.reduceAdd,Nat.reduceSub,Nat.reduceMul,Nat.reduceLT,Nat.reduceLeDiff,Nat.reduceBNe,Int.reduceBEq,Int.reduceBNe,Int.reduceLT,Int.reduceLE,q1',q2',q3',b1,hz,bne] | refine z01 (cl) ?_ | refine z00 (cl) ?_ | refine z01 (ci) ?_ | refine z00 (ci) ?_ | refine And.intro (by omega) ?_ | refine And.intro (fun d hd=>by (repeat (rcases hd with rfl | hd; · exact ⟨rfl,rfl⟩)); cases hd) ?_))
   by_cases hr:right = -1
   ·have hr':(right == -1) = true:=by simp [hr]
    rw [decide_eq_true hr]
    (repeat (first | simp (maxSteps:=9^7) only [go_sem,↓reduceIte,reduceCtorEq,Nat.reduceEqDiff,Nat.reduceBEq,Nat.reduceAdd,Nat.reduceSub,Nat.reduceMul,Nat.reduceLT,Nat.reduceLeDiff,Nat.reduceBNe,Int.reduceBEq,Int.reduceBNe,Int.reduceLT,Int.reduceLE,q1',q2',q3',b1,hr',hz,bne] | refine z01 (cl) ?_ | refine z00 (cl) ?_ | refine z01 (ci) ?_ | refine z00 (ci) ?_ | refine And.intro (by omega) ?_ | refine And.intro (fun d hd=>by (repeat (rcases hd with rfl | hd; · exact ⟨rfl,rfl⟩)); cases hd) ?_))
   ·have hr':(right == -1) = false:=by simp [hr]
    rw [decide_eq_false hr]
    (repeat (first | simp (maxSteps:=9^7) only [go_sem,↓reduceIte,reduceCtorEq,Nat.reduceEqDiff,Nat.reduceBEq,Nat.reduceAdd,Nat.reduceSub,Nat.reduceMul,Nat.reduceLT,Nat.reduceLeDiff,Nat.reduceBNe,Int.reduceBEq,Int.reduceBNe,Int.reduceLT,Int.reduceLE,q1',q2',q3',b1,hr',hz,bne] | refine z01 (cl) ?_ | refine z00 (cl) ?_ | refine z01 (ci) ?_ | refine z00 (ci) ?_ | refine And.intro (by omega) ?_ | refine And.intro (fun d hd=>by (repeat (rcases hd with rfl | hd; · exact ⟨rfl,rfl⟩)); cases hd) ?_))
def eqS (a b:Spn):Bool:=(a.lo.toList == b.lo.toList) && ((a.hi.toList == b.hi.toList) && (a.op == b.op))
def rwB (x:Seat) (p:Par):Bool:=x.s.has p.key
def pwB (x:Seat) (p:ByteArray):Bool:=x.s.has p && !(p.toList == x.s.lo.toList)
def mwB (x:Seat) (m:Msg):Bool:=eqS (m.span.meet x.s) m.span.norm
def zne (x:Seat):Bool:=(x.n.top == x.s.op) && (x.n.high.toList == x.s.hi.toList) && (x.n.rows.all (rwB x) && x.n.pivots.all (pwB x) && x.n.msgs.all (mwB x))
def zz7 (x:Seat) (t:Nat) (len:Nat) (A:Nat->Bool) (R:Bool) (k:Nat) (σ:St):Prop :=
 ∃ i:Nat,i≤len∧k = len - i∧σ.T 1 = .ptr 1 0 0∧σ.H 1 = some ⟨14,69,[x.a],0⟩∧σ.T t = .int .i64 i∧A i = R
set_option maxHeartbeats 2000000 in
theorem prow_loop (x:Seat) (b:Nat) (hx0:SeatOk x b) (R:Bool) (Q:XK->St->Prop) (hEnd:∀ σ,R = true->σ.T 1 = .ptr 1 0 0->σ.H 1 = some ⟨14,69,[x.a],0⟩->Q (.exit 0) σ)
  (hRet:∀ σ,R = false->σ.T 2 = .bool false->Q .ret σ) (k:Nat) (σ:St) (hI:zz7 x 3 x.n.rows.length (fun i=>(x.n.rows.drop i).all (rwB x)) R k σ) :
  run (AFn Tryz.prog) z8x (z30 (fun σ'=>∃ m,m < k∧zz7 x 3 x.n.rows.length (fun i=>(x.n.rows.drop i).all (rwB x)) R m σ') Q) σ:=by
 have hn:=hx0.lt
 have n1:=hn.nrow
 have n2:=hn.npiv
 have n3:=hn.nmsg
 have hs:=znq hx0.s (by omega)
 obtain ⟨i,hi,rfl,t1,h1,tt,hr⟩:=hI
 simp only [z8x]
 have h1':=h1
 simp only [Seat.a] at h1'
 by_cases hlt:i < x.n.rows.length
 case neg =>
  have hlt':¬ (i:Int) < (x.n.rows.length:Int):=by omega
  simp only at hr
  rw [List.drop_eq_nil_of_le (by omega),List.all_nil] at hr
  subst hr
  simp (maxSteps:=9^7) only [go_sem,↓reduceIte,reduceCtorEq,Nat.reduceEqDiff,Nat.reduceBEq,Nat.reduceAdd,Nat.reduceSub,Nat.reduceMul,Nat.reduceLT,Nat.reduceLeDiff,Nat.reduceBNe,Int.reduceBEq,Int.reduceBNe,Int.reduceLT,Int.reduceLE,t1,h1',tt,hlt',List.length_map]
  refine hEnd _ rfl ?_ ?_
  iterate 2 focus ((simp (maxSteps:=9^7) only [go_sem,↓reduceIte,reduceCtorEq,Nat.reduceEqDiff,Nat.reduceBEq,Nat.reduceAdd,Nat.reduceSub,Nat.reduceMul,Nat.reduceLT,Nat.reduceLeDiff,Nat.reduceBNe,Int.reduceBEq,Int.reduceBNe,Int.reduceLT,Int.reduceLE,t1,h1]) <;> rfl)
 have hlt':(i:Int) < (x.n.rows.length:Int):=by omega
 obtain ⟨y,hx⟩:=z0i hlt
 have hgx:=z0o (f:=Par.a) hx
 have hw:=z1j (j:=i) (by omega)
 simp only at hr
 rw [z0h hx,List.all_cons] at hr
 simp only [Par.a] at hgx
 have ch:=yd3 x.s y.key hs (by have:=(hn.rows y (List.mem_of_getElem? hx)).1; omega)
 unfold rwB at hr
 generalize hbb:x.s.has y.key = bb at *
 cases bb
 ·rw [Bool.false_and] at hr
  subst hr
  (repeat (first | simp (maxSteps:=9^7) only [go_sem,↓reduceIte,reduceCtorEq,Nat.reduceEqDiff,Nat.reduceBEq,Nat.reduceAdd,Nat.reduceSub,Nat.reduceMul,Nat.reduceLT,Nat.reduceLeDiff,Nat.reduceBNe,Int.reduceBEq,Int.reduceBNe,Int.reduceLT,Int.reduceLE,t1,h1',tt,hlt',hgx,List.length_map,Int.toNat_natCast] | refine z01 (ch) ?_ | refine z00 (ch) ?_ | refine And.intro (by omega) ?_ | refine And.intro (fun d hd=>by (repeat (rcases hd with rfl | hd; · exact ⟨rfl,rfl⟩)); cases hd) ?_))
  all_goals (repeat refine And.intro (by omega) ?_)
  refine hRet _ rfl ?_
  simp (maxSteps:=9^7) only [go_sem,↓reduceIte,reduceCtorEq,Nat.reduceEqDiff,Nat.reduceBEq,Nat.reduceAdd,Nat.reduceSub,Nat.reduceMul,Nat.reduceLT,Nat.reduceLeDiff,Nat.reduceBNe,Int.reduceBEq,Int.reduceBNe,Int.reduceLT,Int.reduceLE]
 ·rw [Bool.true_and] at hr
  (repeat (first | simp (maxSteps:=9^7) only [go_sem,↓reduceIte,reduceCtorEq,Nat.reduceEqDiff,Nat.reduceBEq,Nat.reduceAdd,Nat.reduceSub,Nat.reduceMul,Nat.reduceLT,Nat.reduceLeDiff,Nat.reduceBNe,Int.reduceBEq,Int.reduceBNe,Int.reduceLT,Int.reduceLE,t1,h1',tt,hlt',hgx,hw,List.length_map,Int.toNat_natCast] | refine z01 (ch) ?_ | refine z00 (ch) ?_ | refine And.intro (by omega) ?_ | refine And.intro (fun d hd=>by (repeat (rcases hd with rfl | hd; · exact ⟨rfl,rfl⟩)); cases hd) ?_))
  refine ⟨x.n.rows.length - (i + 1),by omega,i + 1,by omega,rfl,?_,?_,?_,hr⟩
  iterate 3 focus ((simp (maxSteps:=9^7) only [go_sem,↓reduceIte,reduceCtorEq,Nat.reduceEqDiff,Nat.reduceBEq,Nat.reduceAdd,Nat.reduceSub,Nat.reduceMul,Nat.reduceLT,Nat.reduceLeDiff,Nat.reduceBNe,Int.reduceBEq,Int.reduceBNe,Int.reduceLT,Int.reduceLE,t1,h1,hw]) <;> rfl)
set_option maxHeartbeats 2000000 in
theorem ppiv_loop (x:Seat) (b:Nat) (hx0:SeatOk x b) (R:Bool) (Q:XK->St->Prop) (hEnd:∀ σ,R = true->σ.T 1 = .ptr 1 0 0->σ.H 1 = some ⟨14,69,[x.a],0⟩->Q (.exit 2) σ)
  (hRet:∀ σ,R = false->σ.T 2 = .bool false->Q .ret σ) (k:Nat) (σ:St) (hI:zz7 x 4 x.n.pivots.length (fun i=>(x.n.pivots.drop i).all (pwB x)) R k σ) :
  run (AFn Tryz.prog) z61 (z30 (fun σ'=>∃ m,m < k∧zz7 x 4 x.n.pivots.length (fun i=>(x.n.pivots.drop i).all (pwB x)) R m σ') Q) σ:=by
 have hn:=hx0.lt
 have n1:=hn.nrow
 have n2:=hn.npiv
 have n3:=hn.nmsg
 have hs:=znq hx0.s (by omega)
 obtain ⟨i,hi,rfl,t1,h1,tt,hr⟩:=hI
 simp only [z61]
 have h1':=h1
 simp only [Seat.a] at h1'
 by_cases hlt:i < x.n.pivots.length
 case neg =>
  have hlt':¬ (i:Int) < (x.n.pivots.length:Int):=by omega
  simp only at hr
  rw [List.drop_eq_nil_of_le (by omega),List.all_nil] at hr
  subst hr
  simp (maxSteps:=9^7) only [go_sem,↓reduceIte,reduceCtorEq,Nat.reduceEqDiff,Nat.reduceBEq,Nat.reduceAdd,Nat.reduceSub,Nat.reduceMul,Nat.reduceLT,Nat.reduceLeDiff,Nat.reduceBNe,Int.reduceBEq,Int.reduceBNe,Int.reduceLT,Int.reduceLE,t1,h1',tt,hlt',List.length_map]
  refine hEnd _ rfl ?_ ?_
  iterate 2 focus ((simp (maxSteps:=9^7) only [go_sem,↓reduceIte,reduceCtorEq,Nat.reduceEqDiff,Nat.reduceBEq,Nat.reduceAdd,Nat.reduceSub,Nat.reduceMul,Nat.reduceLT,Nat.reduceLeDiff,Nat.reduceBNe,Int.reduceBEq,Int.reduceBNe,Int.reduceLT,Int.reduceLE,t1,h1]) <;> rfl)
 have hlt':(i:Int) < (x.n.pivots.length:Int):=by omega
 obtain ⟨y,hx⟩:=z0i hlt
 have hgx:=z0o (f:=AV.str) hx
 have hw:=z1j (j:=i) (by omega)
 simp only at hr
 rw [z0h hx,List.all_cons] at hr
 have ch:=yd3 x.s y hs (by have:=hn.piv y (List.mem_of_getElem? hx); omega)
 have hb:pwB x y = (x.s.has y && !(y.toList == x.s.lo.toList)):=rfl
 rw [hb] at hr
 clear hb
 generalize hbb:x.s.has y = bb at *
 cases bb
 ·simp only [Bool.false_and] at hr
  subst hr
  (repeat (first | simp (maxSteps:=9^7) only [go_sem,↓reduceIte,reduceCtorEq,Nat.reduceEqDiff,Nat.reduceBEq,Nat.reduceAdd,Nat.reduceSub,Nat.reduceMul,Nat.reduceLT,Nat.reduceLeDiff,Nat.reduceBNe,Int.reduceBEq,Int.reduceBNe,Int.reduceLT,Int.reduceLE,t1,h1',tt,hlt',hgx,List.length_map,Int.toNat_natCast] | refine z01 (ch) ?_ | refine z00 (ch) ?_ | refine And.intro (by omega) ?_ | refine And.intro (fun d hd=>by (repeat (rcases hd with rfl | hd; · exact ⟨rfl,rfl⟩)); cases hd) ?_))
  all_goals (repeat refine And.intro (by omega) ?_)
  refine hRet _ rfl ?_
  simp (maxSteps:=9^7) only [go_sem,↓reduceIte,reduceCtorEq,Nat.reduceEqDiff,Nat.reduceBEq,Nat.reduceAdd,Nat.reduceSub,Nat.reduceMul,Nat.reduceLT,Nat.reduceLeDiff,Nat.reduceBNe,Int.reduceBEq,Int.reduceBNe,Int.reduceLT,Int.reduceLE]
 cases b2:(y.toList == x.s.lo.toList)
 ·rw [b2] at hr
  simp only [Bool.not_false,Bool.and_true,Bool.true_and] at hr
  (repeat (first | simp (maxSteps:=9^7) only [go_sem,↓reduceIte,reduceCtorEq,Nat.reduceEqDiff,Nat.reduceBEq,Nat.reduceAdd,Nat.reduceSub,Nat.reduceMul,Nat.reduceLT,Nat.reduceLeDiff,Nat.reduceBNe,Int.reduceBEq,Int.reduceBNe,Int.reduceLT,Int.reduceLE,t1,h1',tt,hlt',hgx,hw,b2,List.length_map,Int.toNat_natCast] | refine z01 (ch) ?_ | refine z00 (ch) ?_ | refine And.intro (by omega) ?_ | refine And.intro (fun d hd=>by (repeat (rcases hd with rfl | hd; · exact ⟨rfl,rfl⟩)); cases hd) ?_))
  refine ⟨x.n.pivots.length - (i + 1),by omega,i + 1,by omega,rfl,?_,?_,?_,hr⟩
  iterate 3 focus ((simp (maxSteps:=9^7) only [go_sem,↓reduceIte,reduceCtorEq,Nat.reduceEqDiff,Nat.reduceBEq,Nat.reduceAdd,Nat.reduceSub,Nat.reduceMul,Nat.reduceLT,Nat.reduceLeDiff,Nat.reduceBNe,Int.reduceBEq,Int.reduceBNe,Int.reduceLT,Int.reduceLE,t1,h1,hw]) <;> rfl)
 ·rw [b2] at hr
  simp only [Bool.not_true,Bool.and_false,Bool.false_and] at hr
  subst hr
  (repeat (first | simp (maxSteps:=9^7) only [go_sem,↓reduceIte,reduceCtorEq,Nat.reduceEqDiff,Nat.reduceBEq,Nat.reduceAdd,Nat.reduceSub,Nat.reduceMul,Nat.reduceLT,Nat.reduceLeDiff,Nat.reduceBNe,Int.reduceBEq,Int.reduceBNe,Int.reduceLT,Int.reduceLE,t1,h1',tt,hlt',hgx,b2,List.length_map,Int.toNat_natCast] | refine z01 (ch) ?_ | refine z00 (ch) ?_ | refine And.intro (by omega) ?_ | refine And.intro (fun d hd=>by (repeat (rcases hd with rfl | hd; · exact ⟨rfl,rfl⟩)); cases hd) ?_))
  all_goals (repeat refine And.intro (by omega) ?_)
  refine hRet _ rfl ?_
  simp (maxSteps:=9^7) only [go_sem,↓reduceIte,reduceCtorEq,Nat.reduceEqDiff,Nat.reduceBEq,Nat.reduceAdd,Nat.reduceSub,Nat.reduceMul,Nat.reduceLT,Nat.reduceLeDiff,Nat.reduceBNe,Int.reduceBEq,Int.reduceBNe,Int.reduceLT,Int.reduceLE]
set_option maxHeartbeats 2000000 in
theorem pmsg_loop (x:Seat) (b:Nat) (hx0:SeatOk x b) (R:Bool) (Q:XK->St->Prop) (hEnd:∀ σ,R = true->σ.T 1 = .ptr 1 0 0->σ.H 1 = some ⟨14,69,[x.a],0⟩->Q (.exit 4) σ)
  (hRet:∀ σ,R = false->σ.T 2 = .bool false->Q .ret σ) (k:Nat) (σ:St) (hI:zz7 x 5 x.n.msgs.length (fun i=>(x.n.msgs.drop i).all (mwB x)) R k σ) :
  run (AFn Tryz.prog) z60 (z30 (fun σ'=>∃ m,m < k∧zz7 x 5 x.n.msgs.length (fun i=>(x.n.msgs.drop i).all (mwB x)) R m σ') Q) σ:=by
 have hn:=hx0.lt
 have n1:=hn.nrow
 have n2:=hn.npiv
 have n3:=hn.nmsg
 have hs:=znq hx0.s (by omega)
 obtain ⟨i,hi,rfl,t1,h1,tt,hr⟩:=hI
 simp only [z60]
 have h1':=h1
 simp only [Seat.a] at h1'
 by_cases hlt:i < x.n.msgs.length
 case neg =>
  have hlt':¬ (i:Int) < (x.n.msgs.length:Int):=by omega
  simp only at hr
  rw [List.drop_eq_nil_of_le (by omega),List.all_nil] at hr
  subst hr
  simp (maxSteps:=9^7) only [go_sem,↓reduceIte,reduceCtorEq,Nat.reduceEqDiff,Nat.reduceBEq,Nat.reduceAdd,Nat.reduceSub,Nat.reduceMul,Nat.reduceLT,Nat.reduceLeDiff,Nat.reduceBNe,Int.reduceBEq,Int.reduceBNe,Int.reduceLT,Int.reduceLE,t1,h1',tt,hlt',List.length_map]
  refine hEnd _ rfl ?_ ?_
  iterate 2 focus ((simp (maxSteps:=9^7) only [go_sem,↓reduceIte,reduceCtorEq,Nat.reduceEqDiff,Nat.reduceBEq,Nat.reduceAdd,Nat.reduceSub,Nat.reduceMul,Nat.reduceLT,Nat.reduceLeDiff,Nat.reduceBNe,Int.reduceBEq,Int.reduceBNe,Int.reduceLT,Int.reduceLE,t1,h1]) <;> rfl)
 have hlt':(i:Int) < (x.n.msgs.length:Int):=by omega
 obtain ⟨y,hx⟩:=z0i hlt
 have hgx:=z0o (f:=Msg.a) hx
 have hw:=z1j (j:=i) (by omega)
 simp only at hr
 rw [z0h hx,List.all_cons] at hr
 have hm:=hn.msgs y (List.mem_of_getElem? hx)
 have hsl:=zea hm
 have hs2:x.s.le 2001:=⟨Nat.le_succ_of_le hx0.s.1,Nat.le_succ_of_le hx0.s.2⟩
 have c1:=zkb y (by have:=hm.1; omega)
 have c2:=y8z y.span x.s (znq hsl (by omega)) (znq hs2 (by omega))
 have c3:=z54 y.span (znq hsl (by omega))
 have hb:mwB x y = eqS (y.span.meet x.s) y.span.norm:=rfl
 rw [hb] at hr
 clear hb
 unfold eqS at hr
 generalize y.span.meet x.s = u at *
 generalize y.span.norm = v at *
 generalize y.span = sp at *
 simp only [Msg.a] at hgx
 obtain ⟨lo,hi2,op⟩:=sp
 obtain ⟨ulo,uhi,uop⟩:=u
 obtain ⟨vlo,vhi,vop⟩:=v
 simp only at hr
 generalize hbb:((ulo.toList == vlo.toList) && ((uhi.toList == vhi.toList) && (uop == vop))) = bb at *
 cases bb
 ·rw [Bool.false_and] at hr
  subst hr
  (repeat (first | simp (maxSteps:=9^7) only [go_sem,↓reduceIte,reduceCtorEq,Nat.reduceEqDiff,Nat.reduceBEq,Nat.reduceAdd,Nat.reduceSub,Nat.reduceMul,Nat.reduceLT,Nat.reduceLeDiff,Nat.reduceBNe,Int.reduceBEq,Int.reduceBNe,Int.reduceLT,Int.reduceLE,t1,h1',tt,hlt',hgx,hbb,List.length_map,Int.toNat_natCast] | refine z01 (c1) ?_ | refine z00 (c1) ?_ | refine z01 (c2) ?_ | refine z00 (c2) ?_ | refine z01 (c3) ?_ | refine z00 (c3) ?_ | refine And.intro (by omega) ?_ | refine And.intro (fun d hd=>by (repeat (rcases hd with rfl | hd; · exact ⟨rfl,rfl⟩)); cases hd) ?_))
  all_goals (repeat refine And.intro (by omega) ?_)
  refine hRet _ rfl ?_
  simp (maxSteps:=9^7) only [go_sem,↓reduceIte,reduceCtorEq,Nat.reduceEqDiff,Nat.reduceBEq,Nat.reduceAdd,Nat.reduceSub,Nat.reduceMul,Nat.reduceLT,Nat.reduceLeDiff,Nat.reduceBNe,Int.reduceBEq,Int.reduceBNe,Int.reduceLT,Int.reduceLE]
 ·rw [Bool.true_and] at hr
  (repeat (first | simp (maxSteps:=9^7) only [go_sem,↓reduceIte,reduceCtorEq,Nat.reduceEqDiff,Nat.reduceBEq,Nat.reduceAdd,Nat.reduceSub,Nat.reduceMul,Nat.reduceLT,Nat.reduceLeDiff,Nat.reduceBNe,Int.reduceBEq,Int.reduceBNe,Int.reduceLT,Int.reduceLE,t1,h1',tt,hlt',hgx,hw,hbb,List.length_map,Int.toNat_natCast] | refine z01 (c1) ?_ | refine z00 (c1) ?_ | refine z01 (c2) ?_ | refine z00 (c2) ?_ | refine z01 (c3) ?_ | refine z00 (c3) ?_ | refine And.intro (by omega) ?_ | refine And.intro (fun d hd=>by (repeat (rcases hd with rfl | hd; · exact ⟨rfl,rfl⟩)); cases hd) ?_))
  refine ⟨x.n.msgs.length - (i + 1),by omega,i + 1,by omega,rfl,?_,?_,?_,hr⟩
  iterate 3 focus ((simp (maxSteps:=9^7) only [go_sem,↓reduceIte,reduceCtorEq,Nat.reduceEqDiff,Nat.reduceBEq,Nat.reduceAdd,Nat.reduceSub,Nat.reduceMul,Nat.reduceLT,Nat.reduceLeDiff,Nat.reduceBNe,Int.reduceBEq,Int.reduceBNe,Int.reduceLT,Int.reduceLE,t1,h1,hw]) <;> rfl)
set_option maxHeartbeats 2000000 in
theorem placed_ok (x:Seat) (b:Nat) (hx0:SeatOk x b):AFn Tryz.prog 31 [x.a] (.bool (zne x)):=by
 refine fn_placed rfl ?_
 unfold zne
 obtain ⟨RK,hK⟩:∃ R,x.n.rows.all (rwB x) = R:=⟨_,rfl⟩
 obtain ⟨RP,hP⟩:∃ R,x.n.pivots.all (pwB x) = R:=⟨_,rfl⟩
 obtain ⟨RM,hM⟩:∃ R,x.n.msgs.all (mwB x) = R:=⟨_,rfl⟩
 rw [hK,hP,hM]
 cases q1:(x.n.top == x.s.op)
 ·simp (maxSteps:=9^7) only [go_sem,↓reduceIte,reduceCtorEq,Nat.reduceEqDiff,Nat.reduceBEq,Nat.reduceAdd,Nat.reduceSub,Nat.reduceMul,Nat.reduceLT,Nat.reduceLeDiff,Nat.reduceBNe,Int.reduceBEq,Int.reduceBNe,Int.reduceLT,Int.reduceLE,q1]
 cases q2:(x.n.high.toList == x.s.hi.toList)
 ·simp (maxSteps:=9^7) only [go_sem,↓reduceIte,reduceCtorEq,Nat.reduceEqDiff,Nat.reduceBEq,Nat.reduceAdd,Nat.reduceSub,Nat.reduceMul,Nat.reduceLT,Nat.reduceLeDiff,Nat.reduceBNe,Int.reduceBEq,Int.reduceBNe,Int.reduceLT,Int.reduceLE,q1,q2]
 simp (maxSteps:=9^7) only [go_sem,↓reduceIte,reduceCtorEq,Nat.reduceEqDiff,Nat.reduceBEq,Nat.reduceAdd,Nat.reduceSub,Nat.reduceMul,Nat.reduceLT,Nat.reduceLeDiff,Nat.reduceBNe,Int.reduceBEq,Int.reduceBNe,Int.reduceLT,Int.reduceLE,q1,q2]
 refine z0d (zz7 x 3 x.n.rows.length (fun i=>(x.n.rows.drop i).all (rwB x)) RK) (k:=x.n.rows.length) ⟨0,by omega,rfl,?_,?_,?_,hK⟩ (prow_loop x b hx0 RK _ ?_ ?_)
 iterate 3 focus ((simp (maxSteps:=9^7) only [go_sem,↓reduceIte,reduceCtorEq,Nat.reduceEqDiff,Nat.reduceBEq,Nat.reduceAdd,Nat.reduceSub,Nat.reduceMul,Nat.reduceLT,Nat.reduceLeDiff,Nat.reduceBNe,Int.reduceBEq,Int.reduceBNe,Int.reduceLT,Int.reduceLE]) <;> rfl)
 ·intro σ hk t1 h1
  subst hk
  simp (maxSteps:=9^7) only [go_sem,↓reduceIte,reduceCtorEq,Nat.reduceEqDiff,Nat.reduceBEq,Nat.reduceAdd,Nat.reduceSub,Nat.reduceMul,Nat.reduceLT,Nat.reduceLeDiff,Nat.reduceBNe,Int.reduceBEq,Int.reduceBNe,Int.reduceLT,Int.reduceLE,t1,h1]
  refine z0d (zz7 x 4 x.n.pivots.length (fun i=>(x.n.pivots.drop i).all (pwB x)) RP) (k:=x.n.pivots.length) ⟨0,by omega,rfl,?_,?_,?_,hP⟩ (ppiv_loop x b hx0 RP _ ?_ ?_)
  iterate 3 focus ((simp (maxSteps:=9^7) only [go_sem,↓reduceIte,reduceCtorEq,Nat.reduceEqDiff,Nat.reduceBEq,Nat.reduceAdd,Nat.reduceSub,Nat.reduceMul,Nat.reduceLT,Nat.reduceLeDiff,Nat.reduceBNe,Int.reduceBEq,Int.reduceBNe,Int.reduceLT,Int.reduceLE,t1,h1]) <;> rfl)
  ·intro σ hk t1 h1
   subst hk
   simp (maxSteps:=9^7) only [go_sem,↓reduceIte,reduceCtorEq,Nat.reduceEqDiff,Nat.reduceBEq,Nat.reduceAdd,Nat.reduceSub,Nat.reduceMul,Nat.reduceLT,Nat.reduceLeDiff,Nat.reduceBNe,Int.reduceBEq,Int.reduceBNe,Int.reduceLT,Int.reduceLE,t1,h1]
   refine z0d (zz7 x 5 x.n.msgs.length (fun i=>(x.n.msgs.drop i).all (mwB x)) RM) (k:=x.n.msgs.length) ⟨0,by omega,rfl,?_,?_,?_,hM⟩ (pmsg_loop x b hx0 RM _ ?_ ?_)
   iterate 3 focus ((simp (maxSteps:=9^7) only [go_sem,↓reduceIte,reduceCtorEq,Nat.reduceEqDiff,Nat.reduceBEq,Nat.reduceAdd,Nat.reduceSub,Nat.reduceMul,Nat.reduceLT,Nat.reduceLeDiff,Nat.reduceBNe,Int.reduceBEq,Int.reduceBNe,Int.reduceLT,Int.reduceLE,t1,h1]) <;> rfl)
   ·intro σ hk _ _
    subst hk
    simp (maxSteps:=9^7) only [go_sem,↓reduceIte,reduceCtorEq,Nat.reduceEqDiff,Nat.reduceBEq,Nat.reduceAdd,Nat.reduceSub,Nat.reduceMul,Nat.reduceLT,Nat.reduceLeDiff,Nat.reduceBNe,Int.reduceBEq,Int.reduceBNe,Int.reduceLT,Int.reduceLE]
   ·intro σ hk t4
    subst hk
    simp (maxSteps:=9^7) only [go_sem,↓reduceIte,reduceCtorEq,Nat.reduceEqDiff,Nat.reduceBEq,Nat.reduceAdd,Nat.reduceSub,Nat.reduceMul,Nat.reduceLT,Nat.reduceLeDiff,Nat.reduceBNe,Int.reduceBEq,Int.reduceBNe,Int.reduceLT,Int.reduceLE,t4]
  ·intro σ hk t4
   subst hk
   simp (maxSteps:=9^7) only [go_sem,↓reduceIte,reduceCtorEq,Nat.reduceEqDiff,Nat.reduceBEq,Nat.reduceAdd,Nat.reduceSub,Nat.reduceMul,Nat.reduceLT,Nat.reduceLeDiff,Nat.reduceBNe,Int.reduceBEq,Int.reduceBNe,Int.reduceLT,Int.reduceLE,t4]
 ·intro σ hk t4
  subst hk
  simp (maxSteps:=9^7) only [go_sem,↓reduceIte,reduceCtorEq,Nat.reduceEqDiff,Nat.reduceBEq,Nat.reduceAdd,Nat.reduceSub,Nat.reduceMul,Nat.reduceLT,Nat.reduceLeDiff,Nat.reduceBNe,Int.reduceBEq,Int.reduceBNe,Int.reduceLT,Int.reduceLE,t4]
end
section
/-
 Trees of the document: Sound and Tree: walked.
-/
open Go.RowKit
set_option linter.unusedVariables false
set_option linter.unusedSimpArgs false
set_option maxRecDepth 100000
attribute [local go_sem ↓] z11 z0l
/-! ### percolate/percolateref28.Sound -/
def y24:Reg:=⟨[],[⟨.box 5 23 (.t 0),some 2,none,[],[]⟩,⟨.mv (.c (.bool false)),some 4,none,[],[]⟩],[2],[],false⟩
def zhj:List ROp:=[⟨.mv (.t 1),some 11,none,[12],[]⟩,⟨.callv (.c (.clo 27 [] [])) [(.t 11),(.c (.int .i64 0))],some 12,none,[],[]⟩,⟨.mv (.t 12),some 10,none,[],[]⟩,⟨.ext 0 (.t 10),some 13,none,[],[]⟩,⟨.ext 1 (.t 10),some 14,none,[],[]⟩,⟨.mv (.t 13),some 5,none,[],[]⟩,⟨.mv (.t 14),some 6,none,[],[]⟩]
def y23:Reg:=⟨[],zhj,[12],[],false⟩
def zhi:List ROp:=[⟨.mv (.t 6),some 15,none,[20,25],[]⟩,⟨.un .not (.t 15),some 16,none,[20,25],[]⟩,⟨.mv (.t 16),some 17,none,[20,25],[]⟩,⟨.mv (.t 1),some 18,(some (17,false)),[20,25],[]⟩,⟨.mv (.t 5),some 19,(some (17,false)),[20,25],[]⟩,⟨.callv (.c (.clo 28 [] [])) [(.t 18),(.t 19)],some 20,(some (17,false)),[25],[]⟩,⟨.un .not (.t 20),some 21,(some (17,false)),[25],[]⟩,⟨.pick (.t 17) (.c (.bool true)) (.t 21),some 22,none,[25],[]⟩,⟨.mv (.t 22),some 23,none,[25],[]⟩,⟨.mv (.t 5),some 24,(some (23,false)),[25],[]⟩,⟨.callv (.c (.clo 29 [] [])) [(.t 24)],some 25,(some (23,false)),[],[]⟩,⟨.un .not (.t 25),some 26,(some (23,false)),[],[]⟩,⟨.pick (.t 23) (.c (.bool true)) (.t 26),some 27,none,[],[]⟩,⟨.mv (.t 27),some 28,none,[],[]⟩,⟨.mv (.t 1),some 29,(some (28,false)),[],[]⟩,⟨.len false (.t 29),some 30,(some (28,false)),[],[]⟩,⟨.faddr 3 (.t 2),some 31,(some (28,false)),[],[]⟩,⟨.load 1 false (.t 31),some 32,(some (28,false)),[],[]⟩,⟨.bin .gtr (.t 30) (.t 32),some 33,(some (28,false)),[],[]⟩,⟨.pick (.t 28) (.c (.bool true)) (.t 33),some 34,none,[],[]⟩]
def y22:Reg:=⟨[],zhi,[20,25],[],false⟩
def y21:Reg:=⟨[],[⟨.mv (.c (.bool false)),some 4,none,[],[]⟩],[],[],false⟩
def y20:Reg:=⟨[],[⟨.mv (.c (.int .i64 0)),some 7,none,[],[]⟩],[],[],false⟩
def zhh:List ROp:=[⟨.mv (.t 7),some 35,none,[],[]⟩,⟨.mv (.t 5),some 36,none,[],[]⟩,⟨.len false (.t 36),some 37,none,[],[]⟩,⟨.bin .lss (.t 35) (.t 37),some 38,none,[],[]⟩]
def y1z:Reg:=⟨[],zhh,[],[],false⟩
def zhg:List ROp:=[⟨.mv (.t 5),some 41,none,[8],[]⟩,⟨.mv (.t 7),some 42,none,[8],[]⟩,⟨.iaddr 14 (.t 41) (.t 42),some 43,none,[8],[]⟩,⟨.load 14 true (.t 43),some 44,none,[8],[]⟩,⟨.alloc 14 69 (.agg [(.int .i64 0),(.int .i64 0),(.sl []),(.sl []),(.str ⟨#[]⟩),(.bool false),(.int .i64 0),(.int .i64 0),(.sl []),(.sl []),(.str ⟨#[]⟩),(.str ⟨#[]⟩),(.bool false),(.sl [])]),some 8,none,[],[]⟩,⟨.store 14 (.t 8) (.t 44),none,none,[],[]⟩]
def y1y:Reg:=⟨[],zhg,[8],[],false⟩
def zhf:List ROp:=[⟨.load 5 true (.t 2),some 45,none,[48,52],[]⟩,⟨.faddr 0 (.t 8),some 46,none,[48,52],[]⟩,⟨.load 10 true (.t 46),some 47,none,[48,52],[]⟩,⟨.callv (.c (.clo 30 [] [])) [(.t 45),(.t 47)],some 48,none,[52],[]⟩,⟨.un .not (.t 48),some 49,none,[52],[]⟩,⟨.mv (.t 49),some 50,none,[52],[]⟩,⟨.load 14 true (.t 8),some 51,(some (50,false)),[52],[]⟩,⟨.callv (.c (.clo 31 [] [])) [(.t 51)],some 52,(some (50,false)),[],[]⟩,⟨.un .not (.t 52),some 53,(some (50,false)),[],[]⟩,⟨.pick (.t 50) (.c (.bool true)) (.t 53),some 54,none,[],[]⟩,⟨.mv (.t 54),some 55,none,[],[]⟩,⟨.faddr 0 (.t 8),some 56,(some (55,false)),[],[]⟩,⟨.faddr 0 (.t 56),some 57,(some (55,false)),[],[]⟩,⟨.load 1 false (.t 57),some 58,(some (55,false)),[],[]⟩,⟨.faddr 3 (.t 2),some 59,(some (55,false)),[],[]⟩,⟨.load 1 false (.t 59),some 60,(some (55,false)),[],[]⟩,⟨.bin .geq (.t 58) (.t 60),some 61,(some (55,false)),[],[]⟩,⟨.pick (.t 55) (.c (.bool true)) (.t 61),some 62,none,[],[]⟩]
def y1x:Reg:=⟨[],zhf,[48,52],[],false⟩
def y1w:Reg:=⟨[],[⟨.mv (.c (.bool false)),some 4,none,[],[]⟩],[],[],false⟩
def y1v:Reg:=⟨[],[⟨.mv (.c (.int .i64 0)),some 9,none,[],[]⟩],[],[],false⟩
def zbd:List ROp:=[⟨.mv (.t 9),some 63,none,[],[]⟩,⟨.faddr 13 (.t 8),some 64,none,[],[]⟩,⟨.load 1 false (.t 64),some 65,none,[],[]⟩,⟨.len false (.t 65),some 66,none,[],[]⟩,⟨.bin .lss (.t 63) (.t 66),some 67,none,[],[]⟩]
def zs0:Reg:=⟨[],zbd,[],[],false⟩
def zel:List ROp:=[⟨.faddr 13 (.t 8),some 70,none,[],[]⟩,⟨.load 1 false (.t 70),some 71,none,[],[]⟩,⟨.mv (.t 9),some 72,none,[],[]⟩,⟨.iaddr 6 (.t 71) (.t 72),some 73,none,[],[]⟩,⟨.faddr 0 (.t 73),some 74,none,[],[]⟩,⟨.load 1 false (.t 74),some 75,none,[],[]⟩,⟨.faddr 0 (.t 8),some 76,none,[],[]⟩,⟨.faddr 7 (.t 76),some 77,none,[],[]⟩,⟨.load 1 false (.t 77),some 78,none,[],[]⟩]
def zrz:Reg:=⟨zel,[⟨.bin .leq (.t 75) (.t 78),some 79,none,[],[]⟩],[],[],true⟩
def zry:Reg:=⟨[],[⟨.mv (.c (.bool false)),some 4,none,[],[]⟩],[],[],false⟩
def zbc:List ROp:=[⟨.mv (.t 9),some 68,none,[],[]⟩,⟨.bin .add (.t 68) (.c (.int .i64 1)),some 69,none,[],[]⟩,⟨.mv (.t 69),some 9,none,[],[]⟩]
def zrx:Reg:=⟨[],zbc,[],[],false⟩
def z8u:IR:=(.seq (.seq (.reg zs0)
 (.cond (.t 67) .skip
 (.exit 2)))
 (.seq (.block 3 (.seq (.reg zrz)
 (.cond (.t 79) (.seq (.reg zry)
 .ret)
 .skip)))
 (.reg zrx)))
def zbb:List ROp:=[⟨.mv (.t 7),some 39,none,[],[]⟩,⟨.bin .add (.t 39) (.c (.int .i64 1)),some 40,none,[],[]⟩,⟨.mv (.t 40),some 7,none,[],[]⟩]
def zrw:Reg:=⟨[],zbb,[],[],false⟩
def zkn:IR:=(.seq (.seq (.reg y1z)
 (.cond (.t 38) .skip
 (.exit 0)))
 (.seq (.block 1 (.seq (.reg y1y)
 (.seq (.seq (.reg y1x)
 (.cond (.t 62) (.seq (.reg y1w)
 .ret)
 .skip))
 (.seq (.reg y1v)
 (.block 2 (.loop z8u))))))
 (.reg zrw)))
def zrv:Reg:=⟨[],[⟨.mv (.c (.bool true)),some 4,none,[],[]⟩],[],[],false⟩
def yfk:IR:=(.seq (.reg y24)
 (.seq (.reg y23)
 (.seq (.seq (.reg y22)
 (.cond (.t 34) (.seq (.reg y21)
 .ret)
 .skip))
 (.seq (.seq (.reg y20)
 (.block 0 (.loop zkn)))
 (.seq (.reg zrv)
 .ret)))))
def y0b:List RDesc:=[(.tmp 4)]
theorem e_sound_0:EqR y24 [⟨.box 5 23 (.t 0),some 2,none,[],[]⟩,⟨.mv (.c (.bool false)),some 4,none,[],[]⟩] [2]:=fun _ _ _=>rfl
theorem e_sound_1:EqR y23 zhj [12]:=fun _ _ _=>rfl
theorem e_sound_2:EqR y22 zhi [20,25]:=fun _ _ _=>rfl
theorem e_sound_3:EqR y21 [⟨.mv (.c (.bool false)),some 4,none,[],[]⟩] []:=fun _ _ _=>rfl
theorem e_sound_4:EqR y20 [⟨.mv (.c (.int .i64 0)),some 7,none,[],[]⟩] []:=fun _ _ _=>rfl
theorem e_sound_5:EqR y1z zhh []:=fun _ _ _=>rfl
theorem e_sound_6:EqR y1y zhg [8]:=fun _ _ _=>rfl
theorem e_sound_7:EqR y1x zhf [48,52]:=fun _ _ _=>rfl
theorem e_sound_8:EqR y1w [⟨.mv (.c (.bool false)),some 4,none,[],[]⟩] []:=fun _ _ _=>rfl
theorem e_sound_9:EqR y1v [⟨.mv (.c (.int .i64 0)),some 9,none,[],[]⟩] []:=fun _ _ _=>rfl
theorem e_sound_10:EqR zs0 zbd []:=fun _ _ _=>rfl
theorem e_sound_11 (C:FuncId->List AV->AV->Prop) (σ:St) (K:St->Prop):z0k C zrz σ K = z08 C [] [⟨.bin .leq (.t 75) (.t 78),some 79,none,[],[]⟩] zel (σ.kills []) K:=rfl
theorem e_sound_12:EqR zry [⟨.mv (.c (.bool false)),some 4,none,[],[]⟩] []:=fun _ _ _=>rfl
theorem e_sound_13:EqR zrx zbc []:=fun _ _ _=>rfl
theorem e_sound_15:EqR zrw zbb []:=fun _ _ _=>rfl
theorem e_sound_17:EqR zrv [⟨.mv (.c (.bool true)),some 4,none,[],[]⟩] []:=fun _ _ _=>rfl
theorem fn_sound {args:List AV} {r:AV} (ha:args.length.ble Tryz.f11.ntmps = true) (h:run (AFn Tryz.prog) yfk (endQ y0b r) (z0b args)):AFn Tryz.prog 11 args r :=
 AFn.of_code (pv:=false) (hint:=fun _=>[]) (c:=Tryz.f11.body.getD .skip) (by kernel_rfl) (by kernel_rfl) Tryz.func11 (by kernel_rfl) (by kernel_rfl) (by kernel_rfl) (of_decide_eq_true (by kernel_rfl)) (Nat.le_of_ble_eq_true ha) (Nat.le_of_ble_eq_true (by kernel_rfl)) (z0c h)
/-! ### percolate/percolateref28.Tree -/
def zqw:Reg:=⟨[],[⟨.box 5 23 (.t 0),some 3,none,[],[]⟩,⟨.mv (.c (.bool false)),some 6,none,[],[]⟩],[3],[],false⟩
def zan:List ROp:=[⟨.load 5 true (.t 3),some 8,none,[9,19],[]⟩,⟨.callv (.c (.clo 9 [] [])) [(.t 8)],some 9,none,[19],[]⟩,⟨.un .not (.t 9),some 10,none,[19],[]⟩,⟨.mv (.t 10),some 11,none,[19],[]⟩,⟨.mv (.t 1),some 12,(some (11,false)),[19],[]⟩,⟨.len false (.t 12),some 13,(some (11,false)),[19],[]⟩,⟨.bin .eql (.t 13) (.c (.int .i64 0)),some 14,(some (11,false)),[19],[]⟩,⟨.pick (.t 11) (.c (.bool true)) (.t 14),some 15,none,[19],[]⟩,⟨.mv (.t 15),some 16,none,[19],[]⟩,⟨.mv (.t 1),some 17,(some (16,false)),[19],[]⟩,⟨.mv (.t 2),some 18,(some (16,false)),[19],[]⟩,⟨.callv (.c (.clo 10 [] [])) [(.t 17),(.t 18),(.c (.int .i64 2000))],some 19,(some (16,false)),[],[]⟩,⟨.un .not (.t 19),some 20,(some (16,false)),[],[]⟩,⟨.pick (.t 16) (.c (.bool true)) (.t 20),some 21,none,[],[]⟩]
def zqv:Reg:=⟨[],zan,[9,19],[],false⟩
def zqu:Reg:=⟨[],[⟨.mv (.c (.bool false)),some 6,none,[],[]⟩],[],[],false⟩
def zqt:Reg:=⟨[],[⟨.mv (.c (.int .i64 0)),some 7,none,[],[]⟩],[],[],false⟩
def zam:List ROp:=[⟨.mv (.t 7),some 22,none,[],[]⟩,⟨.mv (.t 1),some 23,none,[],[]⟩,⟨.len false (.t 23),some 24,none,[],[]⟩,⟨.bin .lss (.t 22) (.t 24),some 25,none,[],[]⟩]
def zqs:Reg:=⟨[],zam,[],[],false⟩
def zal:List ROp:=[⟨.mv (.t 1),some 28,none,[],[]⟩,⟨.mv (.t 7),some 29,none,[],[]⟩,⟨.iaddr 10 (.t 28) (.t 29),some 30,none,[],[]⟩,⟨.faddr 0 (.t 30),some 31,none,[],[]⟩,⟨.load 1 false (.t 31),some 32,none,[],[]⟩,⟨.mv (.t 7),some 33,none,[],[]⟩,⟨.bin .neq (.t 32) (.t 33),some 34,none,[],[]⟩,⟨.mv (.t 34),some 35,none,[],[]⟩,⟨.mv (.t 1),some 36,(some (35,false)),[],[]⟩,⟨.mv (.t 7),some 37,(some (35,false)),[],[]⟩,⟨.iaddr 10 (.t 36) (.t 37),some 38,(some (35,false)),[],[]⟩,⟨.faddr 7 (.t 38),some 39,(some (35,false)),[],[]⟩,⟨.load 1 false (.t 39),some 40,(some (35,false)),[],[]⟩,⟨.bin .gtr (.t 40) (.c (.int .i64 1099511627776)),some 41,(some (35,false)),[],[]⟩,⟨.pick (.t 35) (.c (.bool true)) (.t 41),some 42,none,[],[]⟩]
def zqr:Reg:=⟨[],zal,[],[],false⟩
def zqq:Reg:=⟨[],[⟨.mv (.c (.bool false)),some 6,none,[],[]⟩],[],[],false⟩
def zak:List ROp:=[⟨.mv (.t 7),some 26,none,[],[]⟩,⟨.bin .add (.t 26) (.c (.int .i64 1)),some 27,none,[],[]⟩,⟨.mv (.t 27),some 7,none,[],[]⟩]
def zqp:Reg:=⟨[],zak,[],[],false⟩
def zkc:IR:=(.seq (.seq (.reg zqs)
 (.cond (.t 25) .skip
 (.exit 0)))
 (.seq (.block 1 (.seq (.reg zqr)
 (.cond (.t 42) (.seq (.reg zqq)
 .ret)
 .skip)))
 (.reg zqp)))
def zaj:List ROp:=[⟨.load 5 true (.t 3),some 43,none,[45],[]⟩,⟨.mv (.t 1),some 44,none,[45],[]⟩,⟨.callv (.c (.clo 11 [] [])) [(.t 43),(.t 44)],some 45,none,[],[]⟩,⟨.mv (.t 45),some 6,none,[],[]⟩]
def zqo:Reg:=⟨[],zaj,[45],[],false⟩
def y6k:IR:=(.seq (.reg zqw)
 (.seq (.seq (.reg zqv)
 (.cond (.t 21) (.seq (.reg zqu)
 .ret)
 .skip))
 (.seq (.seq (.reg zqt)
 (.block 0 (.loop zkc)))
 (.seq (.reg zqo)
 .ret))))
def zpx:List RDesc:=[(.tmp 6)]
theorem e_tree28_0:EqR zqw [⟨.box 5 23 (.t 0),some 3,none,[],[]⟩,⟨.mv (.c (.bool false)),some 6,none,[],[]⟩] [3]:=fun _ _ _=>rfl
theorem e_tree28_1:EqR zqv zan [9,19]:=fun _ _ _=>rfl
theorem e_tree28_2:EqR zqu [⟨.mv (.c (.bool false)),some 6,none,[],[]⟩] []:=fun _ _ _=>rfl
theorem e_tree28_3:EqR zqt [⟨.mv (.c (.int .i64 0)),some 7,none,[],[]⟩] []:=fun _ _ _=>rfl
theorem e_tree28_4:EqR zqs zam []:=fun _ _ _=>rfl
theorem e_tree28_5:EqR zqr zal []:=fun _ _ _=>rfl
theorem e_tree28_6:EqR zqq [⟨.mv (.c (.bool false)),some 6,none,[],[]⟩] []:=fun _ _ _=>rfl
theorem e_tree28_7:EqR zqp zak []:=fun _ _ _=>rfl
theorem e_tree28_9:EqR zqo zaj [45]:=fun _ _ _=>rfl
theorem fn_tree28 {args:List AV} {r:AV} (ha:args.length.ble Tryz.f4.ntmps = true) (h:run (AFn Tryz.prog) y6k (endQ zpx r) (z0b args)):AFn Tryz.prog 4 args r :=
 AFn.of_code (pv:=false) (hint:=fun _=>[]) (c:=Tryz.f4.body.getD .skip) (by kernel_rfl) (by kernel_rfl) Tryz.func4 (by kernel_rfl) (by kernel_rfl) (by kernel_rfl) (of_decide_eq_true (by kernel_rfl)) (Nat.le_of_ble_eq_true ha) (Nat.le_of_ble_eq_true (by kernel_rfl)) (z0c h)
attribute [local go_sem ↓] yfk
attribute [local go_sem] y0b e_sound_0 e_sound_1 zhj e_sound_2 zhi e_sound_3 e_sound_4 e_sound_5 zhh e_sound_6 zhg e_sound_7 zhf e_sound_8 e_sound_9 e_sound_10 zbd e_sound_11 zel e_sound_12 e_sound_13 zbc e_sound_15 zbb e_sound_17
attribute [local go_sem ↓] y6k
attribute [local go_sem] zpx e_tree28_0 e_tree28_1 zan e_tree28_2 e_tree28_3 e_tree28_4 zam e_tree28_5 zal e_tree28_6 e_tree28_7 zak e_tree28_9 zaj
theorem zdw {l:List Nd} (hl:l.length≤200) (hn:∀ n,n ∈ l->n.Lt):∀ (f:Nat) (out:List Seat) (i:Nat),z9h out->out.length≤10000->z9h (z50 l f out i).1∧(z50 l f out i).1.length≤10000
 | 0,out,i,h,hlen=>⟨h,hlen⟩
 | f + 1,out,i,h,hlen=>by
  rw [z50]
  split
  ·exact ⟨h,hlen⟩
  ·rename_i x hx
   have hk:=za3 hn (h i x hx) x.n.kids 0
   have hap:=zjz hn h hx x.n.kids
   have hnk:=(h i x hx).lt.nkid
   split
   ·exact ⟨h,hlen⟩
   ·have hle:(out ++ (z2c l x 0 x.n.kids).1).length≤10000:=by rw [List.length_append]; omega
    split
    ·exact zdw hl hn f out (i + 1) h hlen
    ·split
     ·exact ⟨h,hlen⟩
     ·split
      ·exact zdw hl hn f _ (i + 1) hap hle
      ·exact ⟨hap,hle⟩
theorem seatsF_ok {l:List Nd} (hl:l.length≤200) (hn:∀ n,n ∈ l->n.Lt) (root:Int):z9h (z5j l root).1∧(z5j l root).1.length≤10000:=by
 unfold z5j
 split
 ·refine zdw hl hn _ _ _ ?_ (by simp)
  intro i x hx
  cases i with
  | zero=>cases hx; exact ⟨zgx hn root,⟨Nat.zero_le _,Nat.zero_le _⟩,fun m hm=>(by cases hm),Nat.zero_le _⟩
  | succ i=>simp at hx
 ·exact ⟨fun i x hx=>by simp at hx,Nat.zero_le _⟩
def lateB (x:Seat) (m:Msg):Bool:=decide (x.n.seen < m.stamp)
def stB (c:Cfg) (x:Seat):Bool:=ndB c x.n && zne x && decide (x.n.slot < c.slots) && x.ms.all (lateB x)
def yck (c:Cfg) (l:List Nd):Bool:=(z5j l 0).2 && onceB l (z5j l 0).1 && z67 (z5j l 0).1 && decide ((l.length:Int)≤c.slots) && (z5j l 0).1.all (stB c)
def sdInv (c:Cfg) (s:List Seat) (R:Bool) (k:Nat) (σ:St):Prop :=
 ∃ i:Nat,i≤s.length∧k = s.length - i∧σ.T 2 = .ptr 2 0 0∧σ.H 2 = some ⟨5,23,[c.a],0⟩∧σ.T 5 = .sl (s.map Seat.a)∧σ.T 7 = .int .i64 i∧(s.drop i).all (stB c) = R
def sd2Inv (c:Cfg) (s:List Seat) (i:Nat) (x:Seat) (R:Bool) (k:Nat) (σ:St):Prop :=
 ∃ j:Nat,j≤x.ms.length∧k = x.ms.length - j∧σ.T 2 = .ptr 2 0 0∧σ.H 2 = some ⟨5,23,[c.a],0⟩∧σ.T 5 = .sl (s.map Seat.a)∧σ.T 7 = .int .i64 i ∧
  σ.T 8 = .ptr 8 0 0∧σ.H 8 = some ⟨14,69,[x.a],0⟩∧σ.T 9 = .int .i64 j∧(x.ms.drop j).all (lateB x) = R
set_option maxHeartbeats 2000000 in
theorem late_loop (c:Cfg) (s:List Seat) (i:Nat) (x:Seat) (b:Nat) (hb:b≤100000000) (hx0:SeatOk x b) (R:Bool) (Q:XK->St->Prop)
  (hEnd:∀ σ,R = true->σ.T 2 = .ptr 2 0 0->σ.H 2 = some ⟨5,23,[c.a],0⟩->σ.T 5 = .sl (s.map Seat.a)->σ.T 7 = .int .i64 i->Q (.exit 2) σ)
  (hRet:∀ σ,R = false->σ.T 4 = .bool false->Q .ret σ) (k:Nat) (σ:St) (hI:sd2Inv c s i x R k σ) :
  run (AFn Tryz.prog) z8u (z30 (fun σ'=>∃ m,m < k∧sd2Inv c s i x R m σ') Q) σ:=by
 obtain ⟨j,hj,rfl,t2,h2,t5,t7,t8,h8,t9,hr⟩:=hI
 simp only [z8u]
 have h8':=h8
 simp only [Seat.a] at h8'
 have hnm:=hx0.nms
 by_cases hlt:j < x.ms.length
 case neg =>
  have hlt':¬ (j:Int) < (x.ms.length:Int):=by omega
  rw [List.drop_eq_nil_of_le (by omega),List.all_nil] at hr
  subst hr
  simp (maxSteps:=9^7) only [go_sem,↓reduceIte,reduceCtorEq,Nat.reduceEqDiff,Nat.reduceBEq,Nat.reduceAdd,Nat.reduceSub,Nat.reduceMul,Nat.reduceLT,Nat.reduceLeDiff,Nat.reduceBNe,Int.reduceBEq,Int.reduceBNe,Int.reduceLT,Int.reduceLE,t2,h2,t5,t7,t8,h8',t9,hlt',List.length_map]
  refine hEnd _ rfl ?_ ?_ ?_ ?_
  iterate 4 focus ((simp (maxSteps:=9^7) only [go_sem,↓reduceIte,reduceCtorEq,Nat.reduceEqDiff,Nat.reduceBEq,Nat.reduceAdd,Nat.reduceSub,Nat.reduceMul,Nat.reduceLT,Nat.reduceLeDiff,Nat.reduceBNe,Int.reduceBEq,Int.reduceBNe,Int.reduceLT,Int.reduceLE,t2,h2,t5,t7]) <;> rfl)
 have hlt':(j:Int) < (x.ms.length:Int):=by omega
 obtain ⟨y,hy⟩:=z0i hlt
 have hgy:=z0o (f:=Msg.a) hy
 simp only [Msg.a] at hgy
 have hw:=z1j (j:=j) (by omega)
 rw [z0h hy,List.all_cons] at hr
 have hbb:lateB x y = decide (x.n.seen < y.stamp):=rfl
 rw [hbb] at hr
 by_cases hs:y.stamp≤x.n.seen
 ·rw [decide_eq_false (by omega),Bool.false_and] at hr
  subst hr
  simp (maxSteps:=9^7) only [go_sem,↓reduceIte,reduceCtorEq,Nat.reduceEqDiff,Nat.reduceBEq,Nat.reduceAdd,Nat.reduceSub,Nat.reduceMul,Nat.reduceLT,Nat.reduceLeDiff,Nat.reduceBNe,Int.reduceBEq,Int.reduceBNe,Int.reduceLT,Int.reduceLE,t2,h2,t5,t7,t8,h8',t9,hlt',hgy,hs,List.length_map,Int.toNat_natCast]
  all_goals (repeat refine And.intro (by omega) ?_)
  refine hRet _ rfl ?_
  simp (maxSteps:=9^7) only [go_sem,↓reduceIte,reduceCtorEq,Nat.reduceEqDiff,Nat.reduceBEq,Nat.reduceAdd,Nat.reduceSub,Nat.reduceMul,Nat.reduceLT,Nat.reduceLeDiff,Nat.reduceBNe,Int.reduceBEq,Int.reduceBNe,Int.reduceLT,Int.reduceLE]
 ·rw [decide_eq_true (by omega),Bool.true_and] at hr
  simp (maxSteps:=9^7) only [go_sem,↓reduceIte,reduceCtorEq,Nat.reduceEqDiff,Nat.reduceBEq,Nat.reduceAdd,Nat.reduceSub,Nat.reduceMul,Nat.reduceLT,Nat.reduceLeDiff,Nat.reduceBNe,Int.reduceBEq,Int.reduceBNe,Int.reduceLT,Int.reduceLE,t2,h2,t5,t7,t8,h8',t9,hlt',hgy,hs,hw,List.length_map,Int.toNat_natCast]
  (repeat refine And.intro (by omega) ?_)
  refine ⟨x.ms.length - (j + 1),by omega,j + 1,by omega,rfl,?_,?_,?_,?_,?_,?_,?_,hr⟩
  iterate 7 focus ((simp (maxSteps:=9^7) only [go_sem,↓reduceIte,reduceCtorEq,Nat.reduceEqDiff,Nat.reduceBEq,Nat.reduceAdd,Nat.reduceSub,Nat.reduceMul,Nat.reduceLT,Nat.reduceLeDiff,Nat.reduceBNe,Int.reduceBEq,Int.reduceBNe,Int.reduceLT,Int.reduceLE,t2,h2,t5,t7,t8,h8,hw]) <;> rfl)
set_option maxHeartbeats 4000000 in
theorem sound_ok (c:Cfg) (l:List Nd) (hl:l.length≤200) (hn:∀ n,n ∈ l->n.Lt):AFn Tryz.prog 11 [c.a,.sl (l.map Nd.a)] (.bool (yck c l)):=by
 refine fn_sound rfl ?_
 have cS:=seats_ok l 0 hl hn
 obtain ⟨hok,hlen⟩:=seatsF_ok hl hn 0
 unfold yck
 generalize (z5j l 0).1 = s at *
 generalize (z5j l 0).2 = b1 at *
 have cO:=onceT_ok l s (by omega) (by omega)
 have cL:=linked_ok s (by omega)
 generalize onceB l s = b2 at *
 generalize z67 s = b3 at *
 obtain ⟨R,hR⟩:∃ R,s.all (stB c) = R:=⟨_,rfl⟩
 rw [hR]
 cases b1
 ·(repeat (first | simp (maxSteps:=9^7) only [go_sem,↓reduceIte,reduceCtorEq,Nat.reduceEqDiff,Nat.reduceBEq,Nat.reduceAdd,Nat.reduceSub,Nat.reduceMul,Nat.reduceLT,Nat.reduceLeDiff,Nat.reduceBNe,Int.reduceBEq,Int.reduceBNe,Int.reduceLT,Int.reduceLE] | refine z01 (cS) ?_ | refine z00 (cS) ?_ | refine z01 (cO) ?_ | refine z00 (cO) ?_ | refine z01 (cL) ?_ | refine z00 (cL) ?_ | refine And.intro (by omega) ?_ | refine And.intro (fun d hd=>by (repeat (rcases hd with rfl | hd; · exact ⟨rfl,rfl⟩)); cases hd) ?_))
 cases b2
 ·(repeat (first | simp (maxSteps:=9^7) only [go_sem,↓reduceIte,reduceCtorEq,Nat.reduceEqDiff,Nat.reduceBEq,Nat.reduceAdd,Nat.reduceSub,Nat.reduceMul,Nat.reduceLT,Nat.reduceLeDiff,Nat.reduceBNe,Int.reduceBEq,Int.reduceBNe,Int.reduceLT,Int.reduceLE] | refine z01 (cS) ?_ | refine z00 (cS) ?_ | refine z01 (cO) ?_ | refine z00 (cO) ?_ | refine z01 (cL) ?_ | refine z00 (cL) ?_ | refine And.intro (by omega) ?_ | refine And.intro (fun d hd=>by (repeat (rcases hd with rfl | hd; · exact ⟨rfl,rfl⟩)); cases hd) ?_))
 cases b3
 ·(repeat (first | simp (maxSteps:=9^7) only [go_sem,↓reduceIte,reduceCtorEq,Nat.reduceEqDiff,Nat.reduceBEq,Nat.reduceAdd,Nat.reduceSub,Nat.reduceMul,Nat.reduceLT,Nat.reduceLeDiff,Nat.reduceBNe,Int.reduceBEq,Int.reduceBNe,Int.reduceLT,Int.reduceLE] | refine z01 (cS) ?_ | refine z00 (cS) ?_ | refine z01 (cO) ?_ | refine z00 (cO) ?_ | refine z01 (cL) ?_ | refine z00 (cL) ?_ | refine And.intro (by omega) ?_ | refine And.intro (fun d hd=>by (repeat (rcases hd with rfl | hd; · exact ⟨rfl,rfl⟩)); cases hd) ?_))
 by_cases q4:(l.length:Int)≤c.slots
 case neg =>
  have q4':c.slots < (l.length:Int):=by omega
  rw [decide_eq_false q4]
  (repeat (first | simp (maxSteps:=9^7) only [go_sem,↓reduceIte,reduceCtorEq,Nat.reduceEqDiff,Nat.reduceBEq,Nat.reduceAdd,Nat.reduceSub,Nat.reduceMul,Nat.reduceLT,Nat.reduceLeDiff,Nat.reduceBNe,Int.reduceBEq,Int.reduceBNe,Int.reduceLT,Int.reduceLE,List.length_map,q4'] | refine z01 (cS) ?_ | refine z00 (cS) ?_ | refine z01 (cO) ?_ | refine z00 (cO) ?_ | refine z01 (cL) ?_ | refine z00 (cL) ?_ | refine And.intro (by omega) ?_ | refine And.intro (fun d hd=>by (repeat (rcases hd with rfl | hd; · exact ⟨rfl,rfl⟩)); cases hd) ?_))
 have q4':¬ c.slots < (l.length:Int):=by omega
 rw [decide_eq_true q4]
 (repeat (first | simp (maxSteps:=9^7) only [go_sem,↓reduceIte,reduceCtorEq,Nat.reduceEqDiff,Nat.reduceBEq,Nat.reduceAdd,Nat.reduceSub,Nat.reduceMul,Nat.reduceLT,Nat.reduceLeDiff,Nat.reduceBNe,Int.reduceBEq,Int.reduceBNe,Int.reduceLT,Int.reduceLE,List.length_map,q4'] | refine z01 (cS) ?_ | refine z00 (cS) ?_ | refine z01 (cO) ?_ | refine z00 (cO) ?_ | refine z01 (cL) ?_ | refine z00 (cL) ?_ | refine And.intro (by omega) ?_ | refine And.intro (fun d hd=>by (repeat (rcases hd with rfl | hd; · exact ⟨rfl,rfl⟩)); cases hd) ?_))
 clear cS cO cL q4 q4'
 refine z0d (sdInv c s R) (k:=s.length) ⟨0,by omega,rfl,?_,?_,?_,?_,hR⟩ ?_
 iterate 4 focus ((simp (maxSteps:=9^7) only [go_sem,↓reduceIte,reduceCtorEq,Nat.reduceEqDiff,Nat.reduceBEq,Nat.reduceAdd,Nat.reduceSub,Nat.reduceMul,Nat.reduceLT,Nat.reduceLeDiff,Nat.reduceBNe,Int.reduceBEq,Int.reduceBNe,Int.reduceLT,Int.reduceLE]) <;> rfl)
 clear hR
 rintro k σ ⟨i,hi,rfl,t2,h2,t5,t7,hr⟩
 simp only [zkn]
 by_cases hlt:i < s.length
 case neg =>
  have hlt':¬ (i:Int) < (s.length:Int):=by omega
  rw [List.drop_eq_nil_of_le (by omega),List.all_nil] at hr
  subst hr
  simp (maxSteps:=9^7) only [go_sem,↓reduceIte,reduceCtorEq,Nat.reduceEqDiff,Nat.reduceBEq,Nat.reduceAdd,Nat.reduceSub,Nat.reduceMul,Nat.reduceLT,Nat.reduceLeDiff,Nat.reduceBNe,Int.reduceBEq,Int.reduceBNe,Int.reduceLT,Int.reduceLE,t2,h2,t5,t7,hlt',List.length_map]
 have hlt':(i:Int) < (s.length:Int):=by omega
 obtain ⟨x,hx⟩:=z0i hlt
 have hgx:=z0o (f:=Seat.a) hx
 simp only [Seat.a] at hgx
 have h2':=h2
 simp only [Cfg.a] at h2'
 have hw:=z1j (j:=i) (by omega)
 have hx0:=hok i x hx
 have cN:=right21_ok c x.n hx0.lt
 have cP:=placed_ok x _ hx0
 rw [z0h hx,List.all_cons] at hr
 have hb:stB c x = (ndB c x.n && zne x && decide (x.n.slot < c.slots) && x.ms.all (lateB x)):=rfl
 rw [hb] at hr
 clear hb
 generalize ndB c x.n = e1 at *
 generalize zne x = e2 at *
 cases e1
 ·simp only [Bool.false_and] at hr
  subst hr
  (repeat (first | simp (maxSteps:=9^7) only [go_sem,↓reduceIte,reduceCtorEq,Nat.reduceEqDiff,Nat.reduceBEq,Nat.reduceAdd,Nat.reduceSub,Nat.reduceMul,Nat.reduceLT,Nat.reduceLeDiff,Nat.reduceBNe,Int.reduceBEq,Int.reduceBNe,Int.reduceLT,Int.reduceLE,t2,h2',t5,t7,hlt',hgx,List.length_map,Int.toNat_natCast] | refine z01 (cN) ?_ | refine z00 (cN) ?_ | refine z01 (cP) ?_ | refine z00 (cP) ?_ | refine And.intro (by omega) ?_ | refine And.intro (fun d hd=>by (repeat (rcases hd with rfl | hd; · exact ⟨rfl,rfl⟩)); cases hd) ?_))
 cases e2
 ·simp only [Bool.and_false,Bool.false_and] at hr
  subst hr
  (repeat (first | simp (maxSteps:=9^7) only [go_sem,↓reduceIte,reduceCtorEq,Nat.reduceEqDiff,Nat.reduceBEq,Nat.reduceAdd,Nat.reduceSub,Nat.reduceMul,Nat.reduceLT,Nat.reduceLeDiff,Nat.reduceBNe,Int.reduceBEq,Int.reduceBNe,Int.reduceLT,Int.reduceLE,t2,h2',t5,t7,hlt',hgx,List.length_map,Int.toNat_natCast] | refine z01 (cN) ?_ | refine z00 (cN) ?_ | refine z01 (cP) ?_ | refine z00 (cP) ?_ | refine And.intro (by omega) ?_ | refine And.intro (fun d hd=>by (repeat (rcases hd with rfl | hd; · exact ⟨rfl,rfl⟩)); cases hd) ?_))
 by_cases q5:x.n.slot < c.slots
 case neg =>
  have q5':c.slots≤x.n.slot:=by omega
  rw [decide_eq_false q5] at hr
  simp only [Bool.and_false,Bool.false_and] at hr
  subst hr
  (repeat (first | simp (maxSteps:=9^7) only [go_sem,↓reduceIte,reduceCtorEq,Nat.reduceEqDiff,Nat.reduceBEq,Nat.reduceAdd,Nat.reduceSub,Nat.reduceMul,Nat.reduceLT,Nat.reduceLeDiff,Nat.reduceBNe,Int.reduceBEq,Int.reduceBNe,Int.reduceLT,Int.reduceLE,t2,h2',t5,t7,hlt',hgx,q5',List.length_map,Int.toNat_natCast] | refine z01 (cN) ?_ | refine z00 (cN) ?_ | refine z01 (cP) ?_ | refine z00 (cP) ?_ | refine And.intro (by omega) ?_ | refine And.intro (fun d hd=>by (repeat (rcases hd with rfl | hd; · exact ⟨rfl,rfl⟩)); cases hd) ?_))
 have q5':¬ c.slots≤x.n.slot:=by omega
 rw [decide_eq_true q5] at hr
 simp only [Bool.true_and] at hr
 (repeat (first | simp (maxSteps:=9^7) only [go_sem,↓reduceIte,reduceCtorEq,Nat.reduceEqDiff,Nat.reduceBEq,Nat.reduceAdd,Nat.reduceSub,Nat.reduceMul,Nat.reduceLT,Nat.reduceLeDiff,Nat.reduceBNe,Int.reduceBEq,Int.reduceBNe,Int.reduceLT,Int.reduceLE,t2,h2',t5,t7,hlt',hgx,q5',List.length_map,Int.toNat_natCast] | refine z01 (cN) ?_ | refine z00 (cN) ?_ | refine z01 (cP) ?_ | refine z00 (cP) ?_ | refine And.intro (by omega) ?_ | refine And.intro (fun d hd=>by (repeat (rcases hd with rfl | hd; · exact ⟨rfl,rfl⟩)); cases hd) ?_))
 obtain ⟨RL,hL⟩:∃ r,x.ms.all (lateB x) = r:=⟨_,rfl⟩
 rw [hL] at hr
 refine z0d (sd2Inv c s i x RL) (k:=x.ms.length) ⟨0,by omega,rfl,?_,?_,?_,?_,?_,?_,?_,hL⟩ (late_loop c s i x (2000 * i) (by omega) hx0 RL _ ?_ ?_)
 iterate 7 focus ((simp (maxSteps:=9^7) only [go_sem,↓reduceIte,reduceCtorEq,Nat.reduceEqDiff,Nat.reduceBEq,Nat.reduceAdd,Nat.reduceSub,Nat.reduceMul,Nat.reduceLT,Nat.reduceLeDiff,Nat.reduceBNe,Int.reduceBEq,Int.reduceBNe,Int.reduceLT,Int.reduceLE,t2,h2,t5,t7]) <;> rfl)
 ·intro σ hk t2 h2 t5 t7
  subst hk
  rw [Bool.true_and] at hr
  simp (maxSteps:=9^7) only [go_sem,↓reduceIte,reduceCtorEq,Nat.reduceEqDiff,Nat.reduceBEq,Nat.reduceAdd,Nat.reduceSub,Nat.reduceMul,Nat.reduceLT,Nat.reduceLeDiff,Nat.reduceBNe,Int.reduceBEq,Int.reduceBNe,Int.reduceLT,Int.reduceLE,t2,h2,t5,t7,hw]
  refine ⟨s.length - (i + 1),by omega,i + 1,by omega,rfl,?_,?_,?_,?_,hr⟩
  iterate 4 focus ((simp (maxSteps:=9^7) only [go_sem,↓reduceIte,reduceCtorEq,Nat.reduceEqDiff,Nat.reduceBEq,Nat.reduceAdd,Nat.reduceSub,Nat.reduceMul,Nat.reduceLT,Nat.reduceLeDiff,Nat.reduceBNe,Int.reduceBEq,Int.reduceBNe,Int.reduceLT,Int.reduceLE,t2,h2,t5,hw]) <;> rfl)
 ·intro σ hk t4
  subst hk
  rw [Bool.false_and] at hr
  subst hr
  simp (maxSteps:=9^7) only [go_sem,↓reduceIte,reduceCtorEq,Nat.reduceEqDiff,Nat.reduceBEq,Nat.reduceAdd,Nat.reduceSub,Nat.reduceMul,Nat.reduceLT,Nat.reduceLeDiff,Nat.reduceBNe,Int.reduceBEq,Int.reduceBNe,Int.reduceLT,Int.reduceLE,t4]
theorem lt_of {n:Nd} (ok:n.ok) (h:n.light 2000 = true):n.Lt:=by
 unfold Nd.light at h
 simp only [Bool.and_eq_true,decide_eq_true_eq] at h
 obtain ⟨⟨⟨⟨h1,h2⟩,h3⟩,h4⟩,h5⟩:=h
 have l1:=z4z (f:=Par.bulk) (fun x=>by unfold Par.bulk; omega) n.rows
 have l2:=z4z (f:=z1o) (fun x=>by unfold z1o; omega) n.pivots
 have l4:=z4z (f:=Msg.bulkN) (fun x=>by unfold Msg.bulkN; omega) n.msgs
 refine ⟨ok.level,fun x hx=>?_,by omega,by omega,by omega,fun m hm=>?_,by omega,fun p hp=>?_,by omega⟩
 ·have:=z4y (f:=z1o) hx
  have e:z1o x = x.size + 1:=rfl
  omega
 ·have:=z4y (f:=Msg.bulkN) hm
  have e:m.bulkN = 1 + m.key.size + m.hi.size + m.val.size:=rfl
  exact ⟨by omega,by omega,by omega⟩
 ·have:=z4y (f:=Par.bulk) hp
  have e:p.bulk = 1 + p.key.size + p.val.size:=rfl
  omega
def seqB (l:List Nd):Nat->Bool
 | i=>match l with
  | []=>true
  | n :: m=>decide (n.slot = i) && decide (n.seen≤1099511627776) && seqB m (i + 1)
def treeB (c:Cfg) (l:List Nd) (most:Int):Bool:=cfgB c && decide (l.length ≠ 0) && zwy l most 2000 && seqB l 0 && yck c l
def trInv (c:Cfg) (l:List Nd) (R:Bool) (k:Nat) (σ:St):Prop :=
 ∃ i:Nat,i≤l.length∧k = l.length - i∧σ.T 3 = .ptr 3 0 0∧σ.H 3 = some ⟨5,23,[c.a],0⟩∧σ.T 1 = .sl (l.map Nd.a)∧σ.T 7 = .int .i64 i∧seqB (l.drop i) i = R
set_option maxHeartbeats 4000000 in
theorem tree_ok (c:Cfg) (l:List Nd) (most:Int) (hm:most≤200) (hs:∀ x,x ∈ l->x.ok) (hl:l.length≤281474976710656):AFn Tryz.prog 4 [c.a,.sl (l.map Nd.a),.int .i64 most] (.bool (treeB c l most)):=by
 refine fn_tree28 rfl ?_
 have cC:=right25_ok c
 have cL:=light_ok l most 2000 (by omega) (by omega) hs hl
 unfold treeB
 generalize cfgB c = b1 at *
 cases b1
 ·(repeat (first | simp (maxSteps:=9^7) only [go_sem,↓reduceIte,reduceCtorEq,Nat.reduceEqDiff,Nat.reduceBEq,Nat.reduceAdd,Nat.reduceSub,Nat.reduceMul,Nat.reduceLT,Nat.reduceLeDiff,Nat.reduceBNe,Int.reduceBEq,Int.reduceBNe,Int.reduceLT,Int.reduceLE,List.length_map] | refine z01 (cC) ?_ | refine z00 (cC) ?_ | refine z01 (cL) ?_ | refine z00 (cL) ?_ | refine And.intro (by omega) ?_ | refine And.intro (fun d hd=>by (repeat (rcases hd with rfl | hd; · exact ⟨rfl,rfl⟩)); cases hd) ?_))
 by_cases q2:l.length = 0
 ·have q2':((l.length:Int) == 0) = true:=by simp [q2]
  rw [decide_eq_false (fun h=>h q2)]
  (repeat (first | simp (maxSteps:=9^7) only [go_sem,↓reduceIte,reduceCtorEq,Nat.reduceEqDiff,Nat.reduceBEq,Nat.reduceAdd,Nat.reduceSub,Nat.reduceMul,Nat.reduceLT,Nat.reduceLeDiff,Nat.reduceBNe,Int.reduceBEq,Int.reduceBNe,Int.reduceLT,Int.reduceLE,List.length_map,q2'] | refine z01 (cC) ?_ | refine z00 (cC) ?_ | refine z01 (cL) ?_ | refine z00 (cL) ?_ | refine And.intro (by omega) ?_ | refine And.intro (fun d hd=>by (repeat (rcases hd with rfl | hd; · exact ⟨rfl,rfl⟩)); cases hd) ?_))
 have q2':((l.length:Int) == 0) = false:=beq_eq_false_iff_ne.2 (by omega)
 rw [decide_eq_true q2]
 cases hL:zwy l most 2000
 ·rw [hL] at cL
  (repeat (first | simp (maxSteps:=9^7) only [go_sem,↓reduceIte,reduceCtorEq,Nat.reduceEqDiff,Nat.reduceBEq,Nat.reduceAdd,Nat.reduceSub,Nat.reduceMul,Nat.reduceLT,Nat.reduceLeDiff,Nat.reduceBNe,Int.reduceBEq,Int.reduceBNe,Int.reduceLT,Int.reduceLE,List.length_map,q2'] | refine z01 (cC) ?_ | refine z00 (cC) ?_ | refine z01 (cL) ?_ | refine z00 (cL) ?_ | refine And.intro (by omega) ?_ | refine And.intro (fun d hd=>by (repeat (rcases hd with rfl | hd; · exact ⟨rfl,rfl⟩)); cases hd) ?_))
 rw [hL] at cL
 have hL2:=hL
 unfold zwy at hL2
 rw [Bool.and_eq_true,decide_eq_true_eq,List.all_eq_true] at hL2
 have hlt:∀ n,n ∈ l->n.Lt:=fun n hn=>lt_of (hs n hn) (hL2.2 n hn)
 have cS:=sound_ok c l (by have:=hL2.1; omega) hlt
 generalize yck c l = bs at *
 obtain ⟨R,hR⟩:∃ R,seqB l 0 = R:=⟨_,rfl⟩
 rw [hR]
 (repeat (first | simp (maxSteps:=9^7) only [go_sem,↓reduceIte,reduceCtorEq,Nat.reduceEqDiff,Nat.reduceBEq,Nat.reduceAdd,Nat.reduceSub,Nat.reduceMul,Nat.reduceLT,Nat.reduceLeDiff,Nat.reduceBNe,Int.reduceBEq,Int.reduceBNe,Int.reduceLT,Int.reduceLE,List.length_map,q2'] | refine z01 (cC) ?_ | refine z00 (cC) ?_ | refine z01 (cL) ?_ | refine z00 (cL) ?_ | refine And.intro (by omega) ?_ | refine And.intro (fun d hd=>by (repeat (rcases hd with rfl | hd; · exact ⟨rfl,rfl⟩)); cases hd) ?_))
 refine z0d (trInv c l R) (k:=l.length) ⟨0,by omega,rfl,?_,?_,?_,?_,hR⟩ ?_
 iterate 4 focus ((simp (maxSteps:=9^7) only [go_sem,↓reduceIte,reduceCtorEq,Nat.reduceEqDiff,Nat.reduceBEq,Nat.reduceAdd,Nat.reduceSub,Nat.reduceMul,Nat.reduceLT,Nat.reduceLeDiff,Nat.reduceBNe,Int.reduceBEq,Int.reduceBNe,Int.reduceLT,Int.reduceLE]) <;> rfl)
 clear hR cC cL q2'
 rintro k σ ⟨i,hi,rfl,t3,h3,t1,t7,hr⟩
 simp only [zkc]
 have h3':=h3
 simp only [Cfg.a] at h3'
 by_cases hlt2:i < l.length
 case neg =>
  have hlt':¬ (i:Int) < (l.length:Int):=by omega
  rw [List.drop_eq_nil_of_le (by omega),seqB] at hr
  subst hr
  (repeat (first | simp (maxSteps:=9^7) only [go_sem,↓reduceIte,reduceCtorEq,Nat.reduceEqDiff,Nat.reduceBEq,Nat.reduceAdd,Nat.reduceSub,Nat.reduceMul,Nat.reduceLT,Nat.reduceLeDiff,Nat.reduceBNe,Int.reduceBEq,Int.reduceBNe,Int.reduceLT,Int.reduceLE,t3,h3',t1,t7,hlt',List.length_map] | refine z01 (cS) ?_ | refine z00 (cS) ?_ | refine And.intro (by omega) ?_ | refine And.intro (fun d hd=>by (repeat (rcases hd with rfl | hd; · exact ⟨rfl,rfl⟩)); cases hd) ?_))
 have hlt':(i:Int) < (l.length:Int):=by omega
 obtain ⟨x,hx⟩:=z0i hlt2
 have hgx:=z0o (f:=Nd.a) hx
 simp only [Nd.a] at hgx
 have hw:=z1j (j:=i) (by omega)
 rw [z0h hx,seqB] at hr
 by_cases q5:x.slot = (i:Int)
 case neg =>
  have q5':(x.slot != (i:Int)) = true:=by simp [q5]
  rw [decide_eq_false q5,Bool.false_and,Bool.false_and] at hr
  subst hr
  simp (maxSteps:=9^7) only [go_sem,↓reduceIte,reduceCtorEq,Nat.reduceEqDiff,Nat.reduceBEq,Nat.reduceAdd,Nat.reduceSub,Nat.reduceMul,Nat.reduceLT,Nat.reduceLeDiff,Nat.reduceBNe,Int.reduceBEq,Int.reduceBNe,Int.reduceLT,Int.reduceLE,t3,h3',t1,t7,hlt',hgx,q5',List.length_map,Int.toNat_natCast]
  all_goals omega
 have q5':(x.slot != (i:Int)) = false:=by simp [q5]
 rw [decide_eq_true q5] at hr
 by_cases q6:x.seen≤1099511627776
 case neg =>
  have q6':1099511627776 < x.seen:=by omega
  rw [decide_eq_false q6,Bool.and_false,Bool.false_and] at hr
  subst hr
  simp (maxSteps:=9^7) only [go_sem,↓reduceIte,reduceCtorEq,Nat.reduceEqDiff,Nat.reduceBEq,Nat.reduceAdd,Nat.reduceSub,Nat.reduceMul,Nat.reduceLT,Nat.reduceLeDiff,Nat.reduceBNe,Int.reduceBEq,Int.reduceBNe,Int.reduceLT,Int.reduceLE,t3,h3',t1,t7,hlt',hgx,q5',q6',List.length_map,Int.toNat_natCast]
  all_goals omega
 have q6':¬ 1099511627776 < x.seen:=by omega
 rw [decide_eq_true q6,Bool.true_and,Bool.true_and] at hr
 simp (maxSteps:=9^7) only [go_sem,↓reduceIte,reduceCtorEq,Nat.reduceEqDiff,Nat.reduceBEq,Nat.reduceAdd,Nat.reduceSub,Nat.reduceMul,Nat.reduceLT,Nat.reduceLeDiff,Nat.reduceBNe,Int.reduceBEq,Int.reduceBNe,Int.reduceLT,Int.reduceLE,t3,h3',t1,t7,hlt',hgx,q5',q6',hw,List.length_map,Int.toNat_natCast]
 (repeat refine And.intro (by omega) ?_)
 refine ⟨l.length - (i + 1),by omega,i + 1,by omega,rfl,?_,?_,?_,?_,hr⟩
 iterate 4 focus ((simp (maxSteps:=9^7) only [go_sem,↓reduceIte,reduceCtorEq,Nat.reduceEqDiff,Nat.reduceBEq,Nat.reduceAdd,Nat.reduceSub,Nat.reduceMul,Nat.reduceLT,Nat.reduceLeDiff,Nat.reduceBNe,Int.reduceBEq,Int.reduceBNe,Int.reduceLT,Int.reduceLE,t3,h3,t1,hw]) <;> rfl)
end
end Go.Proofs.YthpbokjnfloeoaaGreatDoor
