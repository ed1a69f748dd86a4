/-
  Part 17 of a proof: HsH, RyT, RyU, RyW, RyY, RyV.
-/
import Derived.Deep.RegionLaw
import Derived.Lib.SliceRun
import Derived.Lib.AppendZerosOnto
import Derived.Lib.Overlaps
import Derived.Laws.IdiomCopy
import Derived.Laws.Externs
import Derived.Test.YtolocaankfcjiaaRR16
set_option linter.unusedVariables false
set_option linter.unusedSimpArgs false
set_option maxRecDepth 100000
namespace Go.Proofs.Ytolocaankfcjiaa
section
/-
 Histories: are there few events,of few bytes: walked.
-/
open Go.RowKit
attribute [local go_sem ↓] z0s z0g
/-! ### percolate/percolateref07.Long -/
def r_l7_0:Reg:=⟨[],[⟨.box 6 26 (.t 0),some 2,none,[],[]⟩,⟨.mv (.c (.bool false)),some 4,none,[],[]⟩],[2],[],false⟩
def t_l7_1:List ROp:=[⟨.faddr 1 (.t 2),some 5,none,[],[]⟩,⟨.load 1 false (.t 5),some 6,none,[],[]⟩,⟨.len true (.t 6),some 7,none,[],[]⟩,⟨.mv (.t 1),some 8,none,[],[]⟩,⟨.bin .leq (.t 7) (.t 8),some 9,none,[],[]⟩,⟨.mv (.t 9),some 10,none,[],[]⟩,⟨.faddr 2 (.t 2),some 11,(some (10,true)),[],[]⟩,⟨.load 1 false (.t 11),some 12,(some (10,true)),[],[]⟩,⟨.len true (.t 12),some 13,(some (10,true)),[],[]⟩,⟨.mv (.t 1),some 14,(some (10,true)),[],[]⟩,⟨.bin .leq (.t 13) (.t 14),some 15,(some (10,true)),[],[]⟩,⟨.pick (.t 10) (.t 15) (.c (.bool false)),some 16,none,[],[]⟩,⟨.mv (.t 16),some 17,none,[],[]⟩,⟨.faddr 4 (.t 2),some 18,(some (17,true)),[],[]⟩,⟨.load 1 false (.t 18),some 19,(some (17,true)),[],[]⟩,⟨.len true (.t 19),some 20,(some (17,true)),[],[]⟩,⟨.mv (.t 1),some 21,(some (17,true)),[],[]⟩,⟨.bin .leq (.t 20) (.t 21),some 22,(some (17,true)),[],[]⟩,⟨.pick (.t 17) (.t 22) (.c (.bool false)),some 23,none,[],[]⟩,⟨.mv (.t 23),some 4,none,[],[]⟩]
def r_l7_1:Reg:=⟨[],t_l7_1,[],[],false⟩
def ir_l7:IR:=(.seq (.reg r_l7_0)
 (.seq (.reg r_l7_1)
 .ret))
def res_l7:List RDesc:=[(.tmp 4)]
theorem e_l7_0:EqR r_l7_0 [⟨.box 6 26 (.t 0),some 2,none,[],[]⟩,⟨.mv (.c (.bool false)),some 4,none,[],[]⟩] [2]:=fun _ _ _=>rfl
theorem e_l7_1:EqR r_l7_1 t_l7_1 []:=fun _ _ _=>rfl
theorem fn_l7 {args:List AV} {r:AV} (ha:args.length.ble Try.f27.ntmps = true) (h:run (AFn Try.prog) ir_l7 (endQ res_l7 r) (z0b args)):AFn Try.prog 27 args r :=
 AFn.of_code (pv:=false) (hint:=fun _=>[]) (c:=Try.f27.body.getD .skip) (by kernel_rfl) (by kernel_rfl) Try.func27 (by kernel_rfl) (by kernel_rfl) (by kernel_rfl) (of_decide_eq_true (by kernel_rfl)) (Nat.le_of_ble_eq_true ha) (Nat.le_of_ble_eq_true (by kernel_rfl)) (z09 h)
/-! ### percolate/percolateref38.Light -/
def r_rLt_0:Reg:=⟨[],[⟨.mv (.c (.bool false)),some 6,none,[],[]⟩],[],[],false⟩
def zn0:List ROp:=[⟨.mv (.t 0),some 8,none,[],[]⟩,⟨.len false (.t 8),some 9,none,[],[]⟩,⟨.mv (.t 1),some 10,none,[],[]⟩,⟨.bin .gtr (.t 9) (.t 10),some 11,none,[],[]⟩]
def r_rLt_1:Reg:=⟨[],zn0,[],[],false⟩
def r_rLt_2:Reg:=⟨[],[⟨.mv (.c (.bool false)),some 6,none,[],[]⟩],[],[],false⟩
def r_rLt_3:Reg:=⟨[],[⟨.mv (.c (.int .i64 0)),some 7,none,[],[]⟩],[],[],false⟩
def zmz:List ROp:=[⟨.mv (.t 7),some 12,none,[],[]⟩,⟨.mv (.t 0),some 13,none,[],[]⟩,⟨.len false (.t 13),some 14,none,[],[]⟩,⟨.bin .lss (.t 12) (.t 14),some 15,none,[],[]⟩]
def r_rLt_4:Reg:=⟨[],zmz,[],[],false⟩
def zmy:List ROp:=[⟨.mv (.t 0),some 18,none,[24,45],[]⟩,⟨.mv (.t 7),some 19,none,[24,45],[]⟩,⟨.iaddr 15 (.t 18) (.t 19),some 20,none,[24,45],[]⟩,⟨.faddr 1 (.t 20),some 21,none,[24,45],[]⟩,⟨.load 6 true (.t 21),some 22,none,[24,45],[]⟩,⟨.mv (.t 2),some 23,none,[24,45],[]⟩,⟨.callv (.c (.clo 27 [] [])) [(.t 22),(.t 23)],some 24,none,[45],[]⟩,⟨.un .not (.t 24),some 25,none,[45],[]⟩,⟨.mv (.t 25),some 26,none,[45],[]⟩,⟨.mv (.t 0),some 27,(some (26,false)),[45],[]⟩,⟨.mv (.t 7),some 28,(some (26,false)),[45],[]⟩,⟨.iaddr 15 (.t 27) (.t 28),some 29,(some (26,false)),[45],[]⟩,⟨.faddr 7 (.t 29),some 30,(some (26,false)),[45],[]⟩,⟨.faddr 2 (.t 30),some 31,(some (26,false)),[45],[]⟩,⟨.load 1 false (.t 31),some 32,(some (26,false)),[45],[]⟩,⟨.len true (.t 32),some 33,(some (26,false)),[45],[]⟩,⟨.mv (.t 2),some 34,(some (26,false)),[45],[]⟩,⟨.bin .gtr (.t 33) (.t 34),some 35,(some (26,false)),[45],[]⟩,⟨.pick (.t 26) (.c (.bool true)) (.t 35),some 36,none,[45],[]⟩,⟨.mv (.t 36),some 37,none,[45],[]⟩,⟨.mv (.t 0),some 38,(some (37,false)),[45],[]⟩,⟨.mv (.t 7),some 39,(some (37,false)),[45],[]⟩,⟨.iaddr 15 (.t 38) (.t 39),some 40,(some (37,false)),[45],[]⟩,⟨.faddr 7 (.t 40),some 41,(some (37,false)),[45],[]⟩,⟨.faddr 3 (.t 41),some 42,(some (37,false)),[45],[]⟩,⟨.load 1 false (.t 42),some 43,(some (37,false)),[45],[]⟩,⟨.mv (.t 2),some 44,(some (37,false)),[45],[]⟩,⟨.callv (.c (.clo 28 [] [])) [(.t 43),(.t 44)],some 45,(some (37,false)),[],[]⟩,⟨.un .not (.t 45),some 46,(some (37,false)),[],[]⟩,⟨.pick (.t 37) (.c (.bool true)) (.t 46),some 47,none,[],[]⟩]
def r_rLt_5:Reg:=⟨[],zmy,[24,45],[],false⟩
def r_rLt_6:Reg:=⟨[],[⟨.mv (.c (.bool false)),some 6,none,[],[]⟩],[],[],false⟩
def zmx:List ROp:=[⟨.mv (.t 7),some 16,none,[],[]⟩,⟨.bin .add (.t 16) (.c (.int .i64 1)),some 17,none,[],[]⟩,⟨.mv (.t 17),some 7,none,[],[]⟩]
def r_rLt_7:Reg:=⟨[],zmx,[],[],false⟩
def ztr:IR:=(.seq (.seq (.reg r_rLt_4)
 (.cond (.t 15) .skip
 (.exit 0)))
 (.seq (.block 1 (.seq (.reg r_rLt_5)
 (.cond (.t 47) (.seq (.reg r_rLt_6)
 .ret)
 .skip)))
 (.reg r_rLt_7)))
def r_rLt_9:Reg:=⟨[],[⟨.mv (.c (.bool true)),some 6,none,[],[]⟩],[],[],false⟩
def ir_rLt:IR:=(.seq (.reg r_rLt_0)
 (.seq (.seq (.reg r_rLt_1)
 (.cond (.t 11) (.seq (.reg r_rLt_2)
 .ret)
 .skip))
 (.seq (.seq (.reg r_rLt_3)
 (.block 0 (.loop ztr)))
 (.seq (.reg r_rLt_9)
 .ret))))
def res_rLt:List RDesc:=[(.tmp 6)]
theorem e_rLt_0:EqR r_rLt_0 [⟨.mv (.c (.bool false)),some 6,none,[],[]⟩] []:=fun _ _ _=>rfl
theorem e_rLt_1:EqR r_rLt_1 zn0 []:=fun _ _ _=>rfl
theorem e_rLt_2:EqR r_rLt_2 [⟨.mv (.c (.bool false)),some 6,none,[],[]⟩] []:=fun _ _ _=>rfl
theorem e_rLt_3:EqR r_rLt_3 [⟨.mv (.c (.int .i64 0)),some 7,none,[],[]⟩] []:=fun _ _ _=>rfl
theorem e_rLt_4:EqR r_rLt_4 zmz []:=fun _ _ _=>rfl
theorem e_rLt_5:EqR r_rLt_5 zmy [24,45]:=fun _ _ _=>rfl
theorem e_rLt_6:EqR r_rLt_6 [⟨.mv (.c (.bool false)),some 6,none,[],[]⟩] []:=fun _ _ _=>rfl
theorem e_rLt_7:EqR r_rLt_7 zmx []:=fun _ _ _=>rfl
theorem e_rLt_9:EqR r_rLt_9 [⟨.mv (.c (.bool true)),some 6,none,[],[]⟩] []:=fun _ _ _=>rfl
theorem fn_rLt {args:List AV} {r:AV} (ha:args.length.ble Try.f5.ntmps = true) (h:run (AFn Try.prog) ir_rLt (endQ res_rLt r) (z0b args)):AFn Try.prog 5 args r :=
 AFn.of_code (pv:=false) (hint:=fun _=>[]) (c:=Try.f5.body.getD .skip) (by kernel_rfl) (by kernel_rfl) Try.func5 (by kernel_rfl) (by kernel_rfl) (by kernel_rfl) (of_decide_eq_true (by kernel_rfl)) (Nat.le_of_ble_eq_true ha) (Nat.le_of_ble_eq_true (by kernel_rfl)) (z09 h)
attribute [local go_sem ↓] ir_l7
attribute [local go_sem] res_l7 e_l7_0 e_l7_1 t_l7_1
attribute [local go_sem ↓] ir_rLt
attribute [local go_sem] res_rLt e_rLt_0 e_rLt_1 zn0 e_rLt_2 e_rLt_3 e_rLt_4 zmz e_rLt_5 zmy e_rLt_6 e_rLt_7 zmx e_rLt_9
def opL (o:Opr) (n:Int):Bool:=decide ((o.key.size:Int)≤n) && (decide ((o.hi.size:Int)≤n) && decide ((o.val.size:Int)≤n))
theorem l7_ok (o:Opr) (n:Int):AFn Try.prog 27 [o.a,.int .i64 n] (.bool (opL o n)):=by
 refine fn_l7 rfl ?_
 unfold opL
 by_cases c1:(o.key.size:Int)≤n
 ·rw [decide_eq_true c1,Bool.true_and]
  by_cases c2:(o.hi.size:Int)≤n
  ·rw [decide_eq_true c2,Bool.true_and]
   by_cases c3:(o.val.size:Int)≤n
   ·rw [decide_eq_true c3]
    simp (maxSteps:=9^7) only [go_sem,↓reduceIte,reduceCtorEq,Nat.reduceEqDiff,Nat.reduceBEq,Nat.reduceAdd,Nat.reduceSub,Nat.reduceMul,Nat.reduceLT,Nat.reduceLeDiff,Nat.reduceBNe,Int.reduceBEq,Int.reduceBNe,Int.reduceLT,Int.reduceLE,Par.a,Opr.a,Ans.a,nul,c1,c2,c3]
   ·rw [decide_eq_false c3]
    simp (maxSteps:=9^7) only [go_sem,↓reduceIte,reduceCtorEq,Nat.reduceEqDiff,Nat.reduceBEq,Nat.reduceAdd,Nat.reduceSub,Nat.reduceMul,Nat.reduceLT,Nat.reduceLeDiff,Nat.reduceBNe,Int.reduceBEq,Int.reduceBNe,Int.reduceLT,Int.reduceLE,Par.a,Opr.a,Ans.a,nul,c1,c2,c3]
  ·rw [decide_eq_false c2,Bool.false_and]
   simp (maxSteps:=9^7) only [go_sem,↓reduceIte,reduceCtorEq,Nat.reduceEqDiff,Nat.reduceBEq,Nat.reduceAdd,Nat.reduceSub,Nat.reduceMul,Nat.reduceLT,Nat.reduceLeDiff,Nat.reduceBNe,Int.reduceBEq,Int.reduceBNe,Int.reduceLT,Int.reduceLE,Par.a,Opr.a,Ans.a,nul,c1,c2]
 ·rw [decide_eq_false c1,Bool.false_and]
  simp (maxSteps:=9^7) only [go_sem,↓reduceIte,reduceCtorEq,Nat.reduceEqDiff,Nat.reduceBEq,Nat.reduceAdd,Nat.reduceSub,Nat.reduceMul,Nat.reduceLT,Nat.reduceLeDiff,Nat.reduceBNe,Int.reduceBEq,Int.reduceBNe,Int.reduceLT,Int.reduceLE,Par.a,Opr.a,Ans.a,nul,c1]
def evL (n:Int) (e:Evt):Bool:=opL e.op n && (decide ((e.ans.val.size:Int)≤n) && decide ((sumN Par.bulk e.ans.prs:Int)≤n))
def zf6 (l:List Evt) (n most:Int):Bool:=decide ((l.length:Int)≤n) && l.all (evL most)
def rLtInv (l:List Evt) (n most:Int) (R:Bool) (k:Nat) (σ:St):Prop :=
 ∃ j:Nat,j≤l.length∧k = l.length - j∧σ.T 0 = .sl (l.map Evt.a)∧σ.T 2 = .int .i64 most∧σ.T 7 = .int .i64 j∧(l.drop j).all (evL most) = R
set_option maxHeartbeats 2000000 in
theorem rLt_ok (l:List Evt) (n most:Int) (h1:0≤most) (h2:most≤1000000) (hs:∀ x,x ∈ l->x.ok) (hl:l.length≤281474976710656) :
  AFn Try.prog 5 [.sl (l.map Evt.a),.int .i64 n,.int .i64 most] (.bool (zf6 l n most)):=by
 refine fn_rLt rfl ?_
 unfold zf6
 by_cases hn:(l.length:Int)≤n
 case neg =>
  have hn':n < (l.length:Int):=by omega
  rw [decide_eq_false hn,Bool.false_and]
  simp (maxSteps:=9^7) only [go_sem,↓reduceIte,reduceCtorEq,Nat.reduceEqDiff,Nat.reduceBEq,Nat.reduceAdd,Nat.reduceSub,Nat.reduceMul,Nat.reduceLT,Nat.reduceLeDiff,Nat.reduceBNe,Int.reduceBEq,Int.reduceBNe,Int.reduceLT,Int.reduceLE,Par.a,Opr.a,Ans.a,nul,hn',List.length_map]
 have hn':¬ n < (l.length:Int):=by omega
 rw [decide_eq_true hn,Bool.true_and]
 obtain ⟨R,hR⟩:∃ R,l.all (evL most) = R:=⟨_,rfl⟩
 rw [hR]
 simp (maxSteps:=9^7) only [go_sem,↓reduceIte,reduceCtorEq,Nat.reduceEqDiff,Nat.reduceBEq,Nat.reduceAdd,Nat.reduceSub,Nat.reduceMul,Nat.reduceLT,Nat.reduceLeDiff,Nat.reduceBNe,Int.reduceBEq,Int.reduceBNe,Int.reduceLT,Int.reduceLE,Par.a,Opr.a,Ans.a,nul,hn',List.length_map]
 refine z0f (rLtInv l n most R) (k:=l.length) ⟨0,by omega,rfl,?_,?_,?_,hR⟩ ?_
 iterate 3 focus ((simp (maxSteps:=9^7) only [go_sem,↓reduceIte,reduceCtorEq,Nat.reduceEqDiff,Nat.reduceBEq,Nat.reduceAdd,Nat.reduceSub,Nat.reduceMul,Nat.reduceLT,Nat.reduceLeDiff,Nat.reduceBNe,Int.reduceBEq,Int.reduceBNe,Int.reduceLT,Int.reduceLE,Par.a,Opr.a,Ans.a,nul]) <;> rfl)
 clear hR hn hn'
 rintro k σ ⟨j,hj,rfl,t0,t2,t7,hr⟩
 simp only [ztr]
 by_cases hlt:j < l.length
 case neg =>
  have hlt':¬ (j:Int) < (l.length:Int):=by omega
  rw [List.drop_eq_nil_of_le (by omega),List.all_nil] at hr
  subst hr
  simp (maxSteps:=9^7) only [go_sem,↓reduceIte,reduceCtorEq,Nat.reduceEqDiff,Nat.reduceBEq,Nat.reduceAdd,Nat.reduceSub,Nat.reduceMul,Nat.reduceLT,Nat.reduceLeDiff,Nat.reduceBNe,Int.reduceBEq,Int.reduceBNe,Int.reduceLT,Int.reduceLE,Par.a,Opr.a,Ans.a,nul,t0,t2,t7,hlt',List.length_map]
 have hlt':(j:Int) < (l.length:Int):=by omega
 obtain ⟨x,hx⟩:=z1w hlt
 have hgx:=z1b (f:=Evt.a) hx
 have hxo:=hs x (List.mem_of_getElem? hx)
 have c1:=l7_ok x.op most
 have c2:=rLong9_ok x.ans.prs most h1 h2 (fun m hm=>by have:=hxo.ans.prs.2 m hm; exact ⟨this.key,this.val⟩) hxo.ans.prs.1
 simp only [Evt.a] at hgx
 simp only [Opr.a] at c1
 have hw:=z5s (j:=j) (by omega)
 rw [z9b hx,List.all_cons] at hr
 have hb:evL most x = (opL x.op most && (decide ((x.ans.val.size:Int)≤most) && decide ((sumN Par.bulk x.ans.prs:Int)≤most))):=rfl
 rw [hb] at hr
 generalize decide ((sumN Par.bulk x.ans.prs:Int)≤most) = b3 at *
 generalize opL x.op most = b1 at *
 cases b1
 ·simp only [Bool.false_and] at hr
  subst hr
  (repeat (first | simp (maxSteps:=9^7) only [go_sem,↓reduceIte,reduceCtorEq,Nat.reduceEqDiff,Nat.reduceBEq,Nat.reduceAdd,Nat.reduceSub,Nat.reduceMul,Nat.reduceLT,Nat.reduceLeDiff,Nat.reduceBNe,Int.reduceBEq,Int.reduceBNe,Int.reduceLT,Int.reduceLE,Par.a,Opr.a,Ans.a,nul,t0,t2,t7,hlt',hgx,hlt,List.length_map,Int.toNat_natCast] | refine z01 (c1) ?_ | refine z00 (c1) ?_ | refine z01 (c2) ?_ | refine z00 (c2) ?_ | refine And.intro (by omega) ?_ | refine And.intro (fun d hd=>by (repeat (rcases hd with rfl | hd; · exact ⟨rfl,rfl⟩)); cases hd) ?_))
 by_cases q:(x.ans.val.size:Int)≤most
 ·have q':¬ most < (x.ans.val.size:Int):=by omega
  rw [decide_eq_true q] at hr
  cases b3
  ·simp only [Bool.and_false,Bool.false_and] at hr
   subst hr
   (repeat (first | simp (maxSteps:=9^7) only [go_sem,↓reduceIte,reduceCtorEq,Nat.reduceEqDiff,Nat.reduceBEq,Nat.reduceAdd,Nat.reduceSub,Nat.reduceMul,Nat.reduceLT,Nat.reduceLeDiff,Nat.reduceBNe,Int.reduceBEq,Int.reduceBNe,Int.reduceLT,Int.reduceLE,Par.a,Opr.a,Ans.a,nul,t0,t2,t7,hlt',hgx,hlt,q',List.length_map,Int.toNat_natCast] | refine z01 (c1) ?_ | refine z00 (c1) ?_ | refine z01 (c2) ?_ | refine z00 (c2) ?_ | refine And.intro (by omega) ?_ | refine And.intro (fun d hd=>by (repeat (rcases hd with rfl | hd; · exact ⟨rfl,rfl⟩)); cases hd) ?_))
  ·simp only [Bool.true_and] at hr
   (repeat (first | simp (maxSteps:=9^7) only [go_sem,↓reduceIte,reduceCtorEq,Nat.reduceEqDiff,Nat.reduceBEq,Nat.reduceAdd,Nat.reduceSub,Nat.reduceMul,Nat.reduceLT,Nat.reduceLeDiff,Nat.reduceBNe,Int.reduceBEq,Int.reduceBNe,Int.reduceLT,Int.reduceLE,Par.a,Opr.a,Ans.a,nul,t0,t2,t7,hlt',hgx,hlt,q',hw,List.length_map,Int.toNat_natCast] | refine z01 (c1) ?_ | refine z00 (c1) ?_ | refine z01 (c2) ?_ | refine z00 (c2) ?_ | refine And.intro (by omega) ?_ | refine And.intro (fun d hd=>by (repeat (rcases hd with rfl | hd; · exact ⟨rfl,rfl⟩)); cases hd) ?_))
   refine ⟨l.length - (j + 1),by omega,j + 1,by omega,rfl,?_,?_,?_,hr⟩
   iterate 3 focus ((simp (maxSteps:=9^7) only [go_sem,↓reduceIte,reduceCtorEq,Nat.reduceEqDiff,Nat.reduceBEq,Nat.reduceAdd,Nat.reduceSub,Nat.reduceMul,Nat.reduceLT,Nat.reduceLeDiff,Nat.reduceBNe,Int.reduceBEq,Int.reduceBNe,Int.reduceLT,Int.reduceLE,Par.a,Opr.a,Ans.a,nul,t0,t2,hw]) <;> rfl)
 ·have q':most < (x.ans.val.size:Int):=by omega
  rw [decide_eq_false q] at hr
  simp only [Bool.false_and,Bool.and_false] at hr
  subst hr
  (repeat (first | simp (maxSteps:=9^7) only [go_sem,↓reduceIte,reduceCtorEq,Nat.reduceEqDiff,Nat.reduceBEq,Nat.reduceAdd,Nat.reduceSub,Nat.reduceMul,Nat.reduceLT,Nat.reduceLeDiff,Nat.reduceBNe,Int.reduceBEq,Int.reduceBNe,Int.reduceLT,Int.reduceLE,Par.a,Opr.a,Ans.a,nul,t0,t2,t7,hlt',hgx,hlt,q',List.length_map,Int.toNat_natCast] | refine z01 (c1) ?_ | refine z00 (c1) ?_ | refine z01 (c2) ?_ | refine z00 (c2) ?_ | refine And.intro (by omega) ?_ | refine And.intro (fun d hd=>by (repeat (rcases hd with rfl | hd; · exact ⟨rfl,rfl⟩)); cases hd) ?_))
  all_goals omega
end
section
/-
 The law of replays,once the code's answer is known: walked.
-/
open Go.RowKit
attribute [local go_sem ↓] z0s z0g
/-! ### percolate/percolatelaw40.ReplayRuns -/
def zl0:Reg:=⟨[],[⟨.mv (.c (.bool false)),some 2,none,[],[]⟩],[],[],false⟩
def zax:List ROp:=[⟨.mv (.t 0),some 13,none,[14],[]⟩,⟨.callv (.c (.clo 5 [] [])) [(.t 13),(.c (.int .i64 40)),(.c (.int .i64 300))],some 14,none,[],[]⟩,⟨.un .not (.t 14),some 15,none,[],[]⟩]
def zkz:Reg:=⟨[],zax,[14],[],false⟩
def zky:Reg:=⟨[],[⟨.callv (.c (.clo 20 [] [])) [],some 16,none,[],[]⟩,⟨.mv (.t 16),some 2,none,[],[]⟩],[16],[],false⟩
def zkx:Reg:=⟨[],[⟨.mknil 2 58,some 3,none,[],[]⟩],[3],[],false⟩
def zkw:Reg:=⟨[],[⟨.mv (.c (.bool true)),some 4,none,[],[]⟩],[],[],false⟩
def zaw:List ROp:=[⟨.mv (.t 0),some 17,none,[18],[]⟩,⟨.callv (.c (.clo 17 [] [])) [(.t 17)],some 18,none,[],[]⟩,⟨.len false (.t 18),some 19,none,[],[]⟩,⟨.mv (.c (.int .i64 0)),some 20,none,[],[]⟩]
def zkv:Reg:=⟨[],zaw,[18],[],false⟩
def zku:Reg:=⟨[],[⟨.bin .lss (.t 20) (.t 19),some 21,none,[],[]⟩],[],[],false⟩
def zav:List ROp:=[⟨.iaddr 15 (.t 18) (.t 20),some 22,none,[6],[]⟩,⟨.load 15 true (.t 22),some 23,none,[6],[]⟩,⟨.alloc 15 32 (.agg [(.int .i64 0),(.int .i64 0),(.str ⟨#[]⟩),(.str ⟨#[]⟩),(.bool false),(.str ⟨#[]⟩),(.int .i64 0),(.int .i64 0),(.bool false),(.str ⟨#[]⟩),(.sl []),(.int .i64 0),(.int .i64 0),(.int .i64 0),(.bool false)]),some 6,none,[],[]⟩,⟨.store 15 (.t 6) (.t 23),none,none,[],[]⟩]
def zkt:Reg:=⟨[],zav,[6],[],false⟩
def zau:List ROp:=[⟨.mv (.t 3),some 25,none,[27],[]⟩,⟨.load 15 true (.t 6),some 26,none,[27],[]⟩,⟨.callv (.c (.clo 21 [] [])) [(.t 25),(.t 26)],some 27,none,[],[]⟩,⟨.mv (.t 27),some 24,none,[],[]⟩,⟨.ext 0 (.t 24),some 28,none,[],[]⟩,⟨.ext 1 (.t 24),some 29,none,[],[]⟩,⟨.mv (.t 28),some 7,none,[],[]⟩,⟨.mv (.t 29),some 8,none,[],[]⟩]
def zks:Reg:=⟨[],zau,[27],[],false⟩
def zat:List ROp:=[⟨.mv (.t 3),some 31,none,[33],[]⟩,⟨.load 15 true (.t 6),some 32,none,[33],[]⟩,⟨.callv (.c (.clo 22 [] [])) [(.t 31),(.t 32)],some 33,none,[],[]⟩,⟨.mv (.t 33),some 30,none,[],[]⟩,⟨.ext 0 (.t 30),some 34,none,[],[]⟩,⟨.ext 1 (.t 30),some 35,none,[],[]⟩,⟨.mv (.t 34),some 9,none,[],[]⟩,⟨.mv (.t 35),some 10,none,[],[]⟩]
def zkr:Reg:=⟨[],zat,[33],[],false⟩
def z8o:List ROp:=[⟨.mv (.t 8),some 36,none,[44],[]⟩,⟨.mv (.t 10),some 37,none,[44],[]⟩,⟨.beq true (.t 36) (.t 37),some 38,none,[44],[]⟩,⟨.mv (.t 38),some 39,none,[44],[]⟩,⟨.mv (.t 8),some 40,(some (39,false)),[44],[]⟩,⟨.mv (.t 40),some 41,(some (39,false)),[44],[]⟩,⟨.mv (.t 9),some 42,(some (41,true)),[44],[]⟩,⟨.mv (.t 7),some 43,(some (41,true)),[44],[]⟩,⟨.callv (.c (.clo 23 [] [])) [(.t 42),(.t 43)],some 44,(some (41,true)),[],[]⟩,⟨.un .not (.t 44),some 45,(some (41,true)),[],[]⟩,⟨.pick (.t 41) (.t 45) (.c (.bool false)),some 46,(some (39,false)),[],[]⟩,⟨.pick (.t 39) (.c (.bool true)) (.t 46),some 47,none,[],[]⟩,⟨.mv (.t 47),some 48,none,[],[]⟩,⟨.mv (.t 8),some 49,(some (48,false)),[],[]⟩,⟨.un .not (.t 49),some 50,(some (48,false)),[],[]⟩,⟨.mv (.t 50),some 51,(some (48,false)),[],[]⟩,⟨.mv (.t 9),some 52,(some (51,true)),[],[]⟩,⟨.len false (.t 52),some 53,(some (51,true)),[],[]⟩,⟨.bin .gtr (.t 53) (.c (.int .i64 0)),some 54,(some (51,true)),[],[]⟩,⟨.pick (.t 51) (.t 54) (.c (.bool false)),some 55,(some (48,false)),[],[]⟩,⟨.pick (.t 48) (.c (.bool true)) (.t 55),some 56,none,[],[]⟩]
def zex:Reg:=⟨[],z8o,[44],[],false⟩
def zew:Reg:=⟨[],[⟨.mv (.c (.bool false)),some 2,none,[],[]⟩],[],[],false⟩
def zev:Reg:=⟨[],[⟨.mv (.t 8),some 57,none,[],[]⟩,⟨.mv (.t 57),some 4,none,[],[]⟩],[],[],false⟩
def zeu:Reg:=⟨[],[⟨.mv (.t 8),some 58,none,[],[]⟩,⟨.un .not (.t 58),some 59,none,[],[]⟩],[],[],false⟩
def zet:Reg:=⟨[],[⟨.mv (.t 7),some 60,none,[],[]⟩,⟨.mv (.t 60),some 3,none,[],[]⟩],[],[],false⟩
def zes:Reg:=⟨[],[⟨.bin .add (.t 20) (.c (.int .i64 1)),some 61,none,[],[]⟩,⟨.mv (.t 61),some 20,none,[],[]⟩],[],[],false⟩
def zbw:IR:=(.seq (.reg zku)
 (.seq (.cond (.t 21) .skip
 (.exit 0))
 (.seq (.block 1 (.seq (.reg zkt)
 (.seq (.reg zks)
 (.seq (.reg zkr)
 (.seq (.seq (.reg zex)
 (.cond (.t 56) (.seq (.reg zew)
 .ret)
 .skip))
 (.seq (.reg zev)
 (.seq (.seq (.reg zeu)
 (.cond (.t 59) (.exit 0)
 .skip))
 (.reg zet))))))))
 (.reg zes))))
def z8n:List ROp:=[⟨.mv (.t 0),some 63,none,[64],[]⟩,⟨.callv (.c (.clo 24 [] [])) [(.t 63)],some 64,none,[],[]⟩,⟨.mv (.t 64),some 62,none,[],[]⟩,⟨.ext 0 (.t 62),some 65,none,[],[]⟩,⟨.ext 1 (.t 62),some 66,none,[],[]⟩,⟨.mv (.t 65),some 11,none,[],[]⟩,⟨.mv (.t 66),some 12,none,[],[]⟩]
def zer:Reg:=⟨[],z8n,[64],[],false⟩
def z8m:List ROp:=[⟨.mv (.t 12),some 67,none,[83,89,91,95],[]⟩,⟨.mv (.t 4),some 68,none,[83,89,91,95],[]⟩,⟨.beq false (.t 67) (.t 68),some 69,none,[83,89,91,95],[]⟩,⟨.mv (.t 69),some 70,none,[83,89,91,95],[]⟩,⟨.mv (.t 12),some 71,(some (70,true)),[83,89,91,95],[]⟩,⟨.un .not (.t 71),some 72,(some (70,true)),[83,89,91,95],[]⟩,⟨.mv (.t 72),some 73,(some (70,true)),[83,89,91,95],[]⟩,⟨.mv (.t 11),some 74,(some (73,true)),[83,89,91,95],[]⟩,⟨.len false (.t 74),some 75,(some (73,true)),[83,89,91,95],[]⟩,⟨.bin .eql (.t 75) (.c (.int .i64 0)),some 76,(some (73,true)),[83,89,91,95],[]⟩,⟨.pick (.t 73) (.t 76) (.c (.bool false)),some 77,(some (70,true)),[83,89,91,95],[]⟩,⟨.mv (.t 77),some 78,(some (70,true)),[83,89,91,95],[]⟩,⟨.mv (.t 12),some 79,(some (78,false)),[83,89,91,95],[]⟩,⟨.mv (.t 79),some 80,(some (78,false)),[83,89,91,95],[]⟩,⟨.mv (.t 11),some 81,(some (80,true)),[83,89,91,95],[]⟩,⟨.mv (.t 3),some 82,(some (80,true)),[83,89,91,95],[]⟩,⟨.callv (.c (.clo 23 [] [])) [(.t 81),(.t 82)],some 83,(some (80,true)),[89,91,95],[]⟩,⟨.pick (.t 80) (.t 83) (.c (.bool false)),some 84,(some (78,false)),[89,91,95],[]⟩,⟨.pick (.t 78) (.c (.bool true)) (.t 84),some 85,(some (70,true)),[89,91,95],[]⟩,⟨.pick (.t 70) (.t 85) (.c (.bool false)),some 86,none,[89,91,95],[]⟩,⟨.mv (.t 86),some 87,none,[89,91,95],[]⟩,⟨.mv (.t 0),some 88,(some (87,true)),[89,91,95],[]⟩,⟨.callv (.c (.clo 25 [] [])) [(.t 88)],some 89,(some (87,true)),[91,95],[]⟩,⟨.mv (.t 0),some 90,(some (87,true)),[91,95],[]⟩,⟨.callv (.c (.clo 26 [] [])) [(.t 90)],some 91,(some (87,true)),[95],[]⟩,⟨.beq false (.t 89) (.t 91),some 92,(some (87,true)),[95],[]⟩,⟨.pick (.t 87) (.t 92) (.c (.bool false)),some 93,none,[95],[]⟩,⟨.mv (.t 93),some 94,none,[95],[]⟩,⟨.callv (.c (.clo 20 [] [])) [],some 95,(some (94,true)),[],[]⟩,⟨.pick (.t 94) (.t 95) (.c (.bool false)),some 96,none,[],[]⟩,⟨.mv (.t 96),some 2,none,[],[]⟩]
def zeq:Reg:=⟨[],z8m,[83,89,91,95],[],false⟩
def zxp:IR:=(.seq (.reg zl0)
 (.seq (.seq (.reg zkz)
 (.cond (.t 15) (.seq (.reg zky)
 .ret)
 .skip))
 (.seq (.reg zkx)
 (.seq (.reg zkw)
 (.seq (.seq (.reg zkv)
 (.block 0 (.loop zbw)))
 (.seq (.reg zer)
 (.seq (.reg zeq)
 .ret)))))))
def zj1:List RDesc:=[(.tmp 2)]
theorem e_law40_0:EqR zl0 [⟨.mv (.c (.bool false)),some 2,none,[],[]⟩] []:=fun _ _ _=>rfl
theorem e_law40_1:EqR zkz zax [14]:=fun _ _ _=>rfl
theorem e_law40_2:EqR zky [⟨.callv (.c (.clo 20 [] [])) [],some 16,none,[],[]⟩,⟨.mv (.t 16),some 2,none,[],[]⟩] [16]:=fun _ _ _=>rfl
theorem e_law40_3:EqR zkx [⟨.mknil 2 58,some 3,none,[],[]⟩] [3]:=fun _ _ _=>rfl
theorem e_law40_4:EqR zkw [⟨.mv (.c (.bool true)),some 4,none,[],[]⟩] []:=fun _ _ _=>rfl
theorem e_law40_5:EqR zkv zaw [18]:=fun _ _ _=>rfl
theorem e_law40_6:EqR zku [⟨.bin .lss (.t 20) (.t 19),some 21,none,[],[]⟩] []:=fun _ _ _=>rfl
theorem e_law40_7:EqR zkt zav [6]:=fun _ _ _=>rfl
theorem e_law40_8:EqR zks zau [27]:=fun _ _ _=>rfl
theorem e_law40_9:EqR zkr zat [33]:=fun _ _ _=>rfl
theorem e_law40_10:EqR zex z8o [44]:=fun _ _ _=>rfl
theorem e_law40_11:EqR zew [⟨.mv (.c (.bool false)),some 2,none,[],[]⟩] []:=fun _ _ _=>rfl
theorem e_law40_12:EqR zev [⟨.mv (.t 8),some 57,none,[],[]⟩,⟨.mv (.t 57),some 4,none,[],[]⟩] []:=fun _ _ _=>rfl
theorem e_law40_13:EqR zeu [⟨.mv (.t 8),some 58,none,[],[]⟩,⟨.un .not (.t 58),some 59,none,[],[]⟩] []:=fun _ _ _=>rfl
theorem e_law40_14:EqR zet [⟨.mv (.t 7),some 60,none,[],[]⟩,⟨.mv (.t 60),some 3,none,[],[]⟩] []:=fun _ _ _=>rfl
theorem e_law40_15:EqR zes [⟨.bin .add (.t 20) (.c (.int .i64 1)),some 61,none,[],[]⟩,⟨.mv (.t 61),some 20,none,[],[]⟩] []:=fun _ _ _=>rfl
theorem e_law40_17:EqR zer z8n [64]:=fun _ _ _=>rfl
theorem e_law40_18:EqR zeq z8m [83,89,91,95]:=fun _ _ _=>rfl
theorem fn_law40 {args:List AV} {r:AV} (ha:args.length.ble Try.f4.ntmps = true) (h:run (AFn Try.prog) zxp (endQ zj1 r) (z0b args)):AFn Try.prog 4 args r :=
 AFn.of_code (pv:=false) (hint:=fun _=>[]) (c:=Try.f4.body.getD .skip) (by kernel_rfl) (by kernel_rfl) Try.func4 (by kernel_rfl) (by kernel_rfl) (by kernel_rfl) (of_decide_eq_true (by kernel_rfl)) (Nat.le_of_ble_eq_true ha) (Nat.le_of_ble_eq_true (by kernel_rfl)) (z09 h)
attribute [local go_sem ↓] zxp
attribute [local go_sem] zj1 e_law40_0 e_law40_1 zax e_law40_2 e_law40_3 e_law40_4 e_law40_5 zaw e_law40_6 e_law40_7 zav e_law40_8 zau e_law40_9 zat e_law40_10 z8o e_law40_11 e_law40_12 e_law40_13 e_law40_14 e_law40_15 e_law40_17 z8n e_law40_18 z8m
theorem zcw:∀ l:List Par,eqPs l l = true
 | []=>rfl
 | x :: l=>by rw [eqPs,zcw l]; simp [eqP]
def l40I (l p:List Evt) (R:List Par × Bool) (k:Nat) (σ:St):Prop :=
 ∃ (i:Nat) (m:List Par),i≤p.length∧k = p.length - i∧MapOk i m∧runF m (p.drop i) = R∧σ.T 0 = .sl (l.map Evt.a)∧(σ.T 3 = .sl (m.map Par.a)∨(m = []∧σ.T 3 = .rs 3 0 0∧σ.H 3 = some ⟨2,58,[],0⟩))∧σ.T 4 = .bool true∧σ.T 18 = .rs 18 0 p.length∧σ.H 18 = some ⟨15,32,p.map Evt.a,0⟩∧σ.T 19 = .int .i64 p.length∧σ.T 20 = .int .i64 i
theorem fit_same1 (m:List Par) (x:Evt) (h:(fitR m x).2 = true):fitC m x = fitR m x:=by
 unfold fitC; rw [h,if_pos rfl]
theorem fit_none (m:List Par) (x:Evt) (h:(fitR m x).2 = false):fitC m x = ([],false):=by
 unfold fitC; rw [h,if_neg (by decide)]
set_option maxHeartbeats 16000000 in
theorem law40_of (hDo:DoAll) (aw:AFn Try.prog 20 [] (.bool true)) (l:List Evt) (hs:∀ x,x ∈ l->x.ok) (hl:l.length≤281474976710656) (few:zf6 l 40 300 = true->l.length≤40∧∀ e,e ∈ l->EvFew e):AFn Try.prog 4 [.sl (l.map Evt.a)] (.bool true):=by
 refine fn_law40 rfl ?_
 have cL:=rLt_ok l 40 300 (by decide) (by decide) hs hl
 cases hL:zf6 l 40 300 with
 | false =>
  rw [hL] at cL
  (repeat (first | simp (maxSteps:=9^7) only [go_sem,↓reduceIte,reduceCtorEq,Nat.reduceEqDiff,Nat.reduceBEq,Nat.reduceAdd,Nat.reduceSub,Nat.reduceMul,Nat.reduceLT,Nat.reduceLeDiff,Nat.reduceBNe,Int.reduceBEq,Int.reduceBNe,Int.reduceLT,Int.reduceLE,Par.a,nul,Evt.a,List.map_nil] | refine z01 (cL) ?_ | refine z00 (cL) ?_ | refine z01 (aw) ?_ | refine z00 (aw) ?_ | refine And.intro (by omega) ?_ | refine And.intro (fun d hd=>by (repeat (rcases hd with rfl | hd; · exact ⟨rfl,rfl⟩)); cases hd) ?_))
 | true =>
  rw [hL] at cL
  obtain ⟨hl40,hf⟩:=few hL
  have c:=rPts_ok l (by omega)
  have cR:=hRn_of hDo l (by omega) hf
  have cA:=hAp_ok l (by omega)
  have cB:=rAp_ok l (by omega)
  rw [apart_same] at cA
  have pm:∀ e,e ∈ ptsF l->e ∈ l:=fun e he=>by
   unfold ptsF at he
   have:=(Stab.mem (z1p Evt.point (l.filter Evt.done))).1 he
   exact (List.mem_filter.1 this).1
  have pl:(ptsF l).length≤l.length:=by unfold ptsF; rw [z0d]; exact List.length_filter_le _ _
  generalize z56 l = A at *
  generalize ptsF l = p at *
  obtain ⟨R,hR⟩:∃ R,runF [] p = R:=⟨_,rfl⟩
  rw [hR] at cR
  (repeat (first | simp (maxSteps:=9^7) only [go_sem,↓reduceIte,reduceCtorEq,Nat.reduceEqDiff,Nat.reduceBEq,Nat.reduceAdd,Nat.reduceSub,Nat.reduceMul,Nat.reduceLT,Nat.reduceLeDiff,Nat.reduceBNe,Int.reduceBEq,Int.reduceBNe,Int.reduceLT,Int.reduceLE,Par.a,nul,Evt.a,List.map_nil,List.length_map] | refine z01 (cL) ?_ | refine z00 (cL) ?_ | refine z01 (c) ?_ | refine z00 (c) ?_ | refine And.intro (by omega) ?_ | refine And.intro (fun d hd=>by (repeat (rcases hd with rfl | hd; · exact ⟨rfl,rfl⟩)); cases hd) ?_))
  refine z0f (l40I l p R) (k:=p.length) ⟨0,[],Nat.zero_le _,rfl,⟨List.Pairwise.nil,fun p hp=>by (cases hp),Nat.zero_le _⟩,hR,?_,.inr ⟨rfl,?_,?_⟩,?_,?_,?_,?_,?_⟩ ?_
  iterate 8 focus ((simp (maxSteps:=9^7) only [go_sem,↓reduceIte,reduceCtorEq,Nat.reduceEqDiff,Nat.reduceBEq,Nat.reduceAdd,Nat.reduceSub,Nat.reduceMul,Nat.reduceLT,Nat.reduceLeDiff,Nat.reduceBNe,Int.reduceBEq,Int.reduceBNe,Int.reduceLT,Int.reduceLE,Par.a,nul,Evt.a,List.map_nil,List.length_map]) <;> rfl)
  clear hR c cL
  rintro k σ ⟨i,m,hi,rfl,hM,hR,t0,t3,t4,t18,h18,t19,t20⟩
  simp only [zbw]
  have bA:(A == A) = true:=beq_self_eq_true A
  have zz:(((0:Nat):Int) == 0) = true:=rfl
  have hml:m.length≤40:=by have:=hM.len; omega
  by_cases hlt:i < p.length
  case neg =>
   have hlt':¬ (i:Int) < (p.length:Int):=by omega
   have e:p.drop i = []:=List.drop_eq_nil_of_le (by omega)
   rw [e,runF] at hR
   subst hR
   have c6:=r9s_ok m m (by omega) (by omega)
   rw [zcw] at c6
   simp only at cR
   rcases t3 with t3 | ⟨rfl,t3,h3⟩
   ·(repeat (first | simp (maxSteps:=9^7) only [go_sem,↓reduceIte,reduceCtorEq,Nat.reduceEqDiff,Nat.reduceBEq,Nat.reduceAdd,Nat.reduceSub,Nat.reduceMul,Nat.reduceLT,Nat.reduceLeDiff,Nat.reduceBNe,Int.reduceBEq,Int.reduceBNe,Int.reduceLT,Int.reduceLE,Par.a,nul,Evt.a,List.map_nil,t0,t3,t4,t19,t20,hlt',bA,List.length_map] | refine z01 (cR) ?_ | refine z00 (cR) ?_ | refine z01 (c6) ?_ | refine z00 (c6) ?_ | refine z01 (cA) ?_ | refine z00 (cA) ?_ | refine z01 (cB) ?_ | refine z00 (cB) ?_ | refine z01 (aw) ?_ | refine z00 (aw) ?_ | refine And.intro (by omega) ?_ | refine And.intro (fun d hd=>by (repeat (rcases hd with rfl | hd; · exact ⟨rfl,rfl⟩)); cases hd) ?_))
   ·(repeat (first | simp (maxSteps:=9^7) only [go_sem,↓reduceIte,reduceCtorEq,Nat.reduceEqDiff,Nat.reduceBEq,Nat.reduceAdd,Nat.reduceSub,Nat.reduceMul,Nat.reduceLT,Nat.reduceLeDiff,Nat.reduceBNe,Int.reduceBEq,Int.reduceBNe,Int.reduceLT,Int.reduceLE,Par.a,nul,Evt.a,List.map_nil,t0,t3,h3,t4,t19,t20,hlt',bA,List.length_map,List.take_nil,List.drop_nil] | refine z01 (cR) ?_ | refine z00 (cR) ?_ | refine z01 (c6) ?_ | refine z00 (c6) ?_ | refine z01 (cA) ?_ | refine z00 (cA) ?_ | refine z01 (cB) ?_ | refine z00 (cB) ?_ | refine z01 (aw) ?_ | refine z00 (aw) ?_ | refine And.intro (by omega) ?_ | refine And.intro (fun d hd=>by (repeat (rcases hd with rfl | hd; · exact ⟨rfl,rfl⟩)); cases hd) ?_))
  have hlt':(i:Int) < (p.length:Int):=by omega
  obtain ⟨x,hx⟩:=z1w hlt
  have hge:=z1b (f:=Evt.a) hx
  simp only [Evt.a] at hge
  have hw:=z5s (j:=i) (by omega)
  have z0:(0:Int)≤(i:Int):=Int.natCast_nonneg i
  have dk:p.drop i = x :: p.drop (i + 1):=by rw [List.drop_eq_getElem_cons hlt,(List.getElem?_eq_some_iff.1 hx).2]
  have hxf:=hf x (pm x (List.mem_of_getElem? hx))
  rw [dk,runF] at hR
  have c7:=rF37_ok m x hM.ord (by omega) hxf.key hxf.hi hxf.val hxf.prs hM.few
  have c8:=rpF_of m x (hDo m x.op ⟨hM.ord,hM.few,by omega⟩ hxf.key hxf.hi hxf.val) (by omega) hxf.prs
  have hM':=hM.fit hxf
  simp only [Evt.a] at c7 c8
  cases hk:(fitR m x).2 with
  | false =>
   have e:=fit_none m x hk
   rw [e] at c8 hR
   rw [hk] at c7
   generalize (fitR m x).1 = nx at *
   rw [if_neg (by decide)] at hR
   subst hR
   simp only at cR c8
   rcases t3 with t3 | ⟨rfl,t3,h3⟩
   ·(repeat (first | simp (maxSteps:=9^7) only [go_sem,↓reduceIte,reduceCtorEq,Nat.reduceEqDiff,Nat.reduceBEq,Nat.reduceAdd,Nat.reduceSub,Nat.reduceMul,Nat.reduceLT,Nat.reduceLeDiff,Nat.reduceBNe,Int.reduceBEq,Int.reduceBNe,Int.reduceLT,Int.reduceLE,Par.a,nul,Evt.a,List.map_nil,t0,t3,t4,t18,h18,t19,t20,hlt,hlt',hge,z0,zz,bA,List.length_map,Int.toNat_natCast,Nat.zero_add] | refine z01 (c7) ?_ | refine z00 (c7) ?_ | refine z01 (c8) ?_ | refine z00 (c8) ?_ | refine z01 (cR) ?_ | refine z00 (cR) ?_ | refine z01 (cA) ?_ | refine z00 (cA) ?_ | refine z01 (cB) ?_ | refine z00 (cB) ?_ | refine z01 (aw) ?_ | refine z00 (aw) ?_ | refine And.intro (by omega) ?_ | refine And.intro (fun d hd=>by (repeat (rcases hd with rfl | hd; · exact ⟨rfl,rfl⟩)); cases hd) ?_))
   ·(repeat (first | simp (maxSteps:=9^7) only [go_sem,↓reduceIte,reduceCtorEq,Nat.reduceEqDiff,Nat.reduceBEq,Nat.reduceAdd,Nat.reduceSub,Nat.reduceMul,Nat.reduceLT,Nat.reduceLeDiff,Nat.reduceBNe,Int.reduceBEq,Int.reduceBNe,Int.reduceLT,Int.reduceLE,Par.a,nul,Evt.a,List.map_nil,t0,t3,h3,t4,t18,h18,t19,t20,hlt,hlt',hge,z0,zz,bA,List.length_map,Int.toNat_natCast,Nat.zero_add,List.take_nil,List.drop_nil] | refine z01 (c7) ?_ | refine z00 (c7) ?_ | refine z01 (c8) ?_ | refine z00 (c8) ?_ | refine z01 (cR) ?_ | refine z00 (cR) ?_ | refine z01 (cA) ?_ | refine z00 (cA) ?_ | refine z01 (cB) ?_ | refine z00 (cB) ?_ | refine z01 (aw) ?_ | refine z00 (aw) ?_ | refine And.intro (by omega) ?_ | refine And.intro (fun d hd=>by (repeat (rcases hd with rfl | hd; · exact ⟨rfl,rfl⟩)); cases hd) ?_))
  | true =>
   have e:=fit_same1 m x hk
   rw [e] at c8 hR hM'
   rw [hk] at c7 c8 hR
   generalize (fitR m x).1 = nx at *
   rw [if_pos rfl] at hR
   have hnl:nx.length≤41:=by have:=hM'.len; omega
   have c9:=r9s_ok nx nx (by omega) (by omega)
   rw [zcw] at c9
   rcases t3 with t3 | ⟨rfl,t3,h3⟩
   ·(repeat (first | simp (maxSteps:=9^7) only [go_sem,↓reduceIte,reduceCtorEq,Nat.reduceEqDiff,Nat.reduceBEq,Nat.reduceAdd,Nat.reduceSub,Nat.reduceMul,Nat.reduceLT,Nat.reduceLeDiff,Nat.reduceBNe,Int.reduceBEq,Int.reduceBNe,Int.reduceLT,Int.reduceLE,Par.a,nul,Evt.a,List.map_nil,t0,t3,t4,t18,h18,t19,t20,hlt,hlt',hge,hw,z0,List.length_map,Int.toNat_natCast,Nat.zero_add] | refine z01 (c7) ?_ | refine z00 (c7) ?_ | refine z01 (c8) ?_ | refine z00 (c8) ?_ | refine z01 (c9) ?_ | refine z00 (c9) ?_ | refine And.intro (by omega) ?_ | refine And.intro (fun d hd=>by (repeat (rcases hd with rfl | hd; · exact ⟨rfl,rfl⟩)); cases hd) ?_))
    refine ⟨p.length - (i + 1),by omega,i + 1,nx,by omega,rfl,hM',hR,?_,.inl ?_,?_,?_,?_,?_,?_⟩
    iterate 7 focus ((simp (maxSteps:=9^7) only [go_sem,↓reduceIte,reduceCtorEq,Nat.reduceEqDiff,Nat.reduceBEq,Nat.reduceAdd,Nat.reduceSub,Nat.reduceMul,Nat.reduceLT,Nat.reduceLeDiff,Nat.reduceBNe,Int.reduceBEq,Int.reduceBNe,Int.reduceLT,Int.reduceLE,Par.a,nul,Evt.a,List.map_nil,t0,t18,h18,t19,hw]) <;> rfl)
   ·(repeat (first | simp (maxSteps:=9^7) only [go_sem,↓reduceIte,reduceCtorEq,Nat.reduceEqDiff,Nat.reduceBEq,Nat.reduceAdd,Nat.reduceSub,Nat.reduceMul,Nat.reduceLT,Nat.reduceLeDiff,Nat.reduceBNe,Int.reduceBEq,Int.reduceBNe,Int.reduceLT,Int.reduceLE,Par.a,nul,Evt.a,List.map_nil,t0,t3,h3,t4,t18,h18,t19,t20,hlt,hlt',hge,hw,z0,List.length_map,Int.toNat_natCast,Nat.zero_add,List.take_nil,List.drop_nil] | refine z01 (c7) ?_ | refine z00 (c7) ?_ | refine z01 (c8) ?_ | refine z00 (c8) ?_ | refine z01 (c9) ?_ | refine z00 (c9) ?_ | refine And.intro (by omega) ?_ | refine And.intro (fun d hd=>by (repeat (rcases hd with rfl | hd; · exact ⟨rfl,rfl⟩)); cases hd) ?_))
    refine ⟨p.length - (i + 1),by omega,i + 1,nx,by omega,rfl,hM',hR,?_,.inl ?_,?_,?_,?_,?_,?_⟩
    iterate 7 focus ((simp (maxSteps:=9^7) only [go_sem,↓reduceIte,reduceCtorEq,Nat.reduceEqDiff,Nat.reduceBEq,Nat.reduceAdd,Nat.reduceSub,Nat.reduceMul,Nat.reduceLT,Nat.reduceLeDiff,Nat.reduceBNe,Int.reduceBEq,Int.reduceBNe,Int.reduceLT,Int.reduceLE,Par.a,nul,Evt.a,List.map_nil,t0,t18,h18,t19,hw]) <;> rfl)
end
section
/-
 The law of replays: light events are few enough. No program.
-/
open Go.RowKit
theorem few40 {l:List Evt} (hL:zf6 l 40 300 = true):l.length≤40∧∀ e,e ∈ l->EvFew e:=by
 unfold zf6 at hL
 rw [Bool.and_eq_true,decide_eq_true_eq,List.all_eq_true] at hL
 refine ⟨by omega,fun e he=>?_⟩
 have h:=hL.2 e he
 unfold evL opL at h
 simp only [Bool.and_eq_true,decide_eq_true_eq] at h
 obtain ⟨⟨h1,h2,h3⟩,h4,h5⟩:=h
 have h6:=zrz (f:=Par.bulk) (fun p=>by unfold Par.bulk; omega) e.ans.prs
 exact ⟨by omega,by omega,by omega,by omega⟩
end
section
/-
 The library's deletion and insertion of one pair,over the model.
-/
open Go.RowKit
/-- a row's cells are these pairs -/
def z21 (cs:Array Value) (l:List Par):Prop:=∀ (i:Nat) (x:Par),l[i]? = some x->cs[i * 2]? = some (.string x.key)∧cs[i * 2 + 1]? = some (.string x.val)
def vals:List Par->List Value
 | []=>[]
 | x :: l=>.string x.key :: .string x.val :: vals l
theorem z0x:∀ l:List Par,(vals l).length = l.length * 2
 | []=>rfl
 | x :: l=>by simp only [vals,List.length_cons,z0x l]; omega
theorem zfm:∀ {l:List Par} {i:Nat} {x:Par},l[i]? = some x->(vals l)[i * 2]? = some (.string x.key)∧(vals l)[i * 2 + 1]? = some (.string x.val)
 | y :: l,0,x,h=>by cases h; exact ⟨rfl,rfl⟩
 | y :: l,i + 1,x,h=>by
  have:=zfm (l:=l) (i:=i) (x:=x) (by simpa using h)
  rw [show (i + 1) * 2 = i * 2 + 1 + 1 by omega]
  simpa [vals] using this
theorem z57:∀ {l:List Par} {u:Value},u ∈ vals l->u.oneCell' = true
 | x :: l,u,h=>by
  rcases List.mem_cons.1 h with h | h
  ·rw [h]; rfl
  ·rcases List.mem_cons.1 h with h | h
   ·rw [h]; rfl
   ·exact z57 h
theorem z21.get {cs:Array Value} {l:List Par} (h:z21 cs l) {j:Nat} {u:Value} (hu:(vals l)[j]? = some u):cs[j]? = some u:=by
 have hj:=(List.getElem?_eq_some_iff.1 hu).1
 rw [z0x] at hj
 obtain ⟨i,hi⟩:∃ i,j / 2 = i:=⟨_,rfl⟩
 have hx:l[i]? = some (l[i]'(by omega)):=List.getElem?_eq_getElem _
 obtain ⟨a1,a2⟩:=h _ _ hx
 obtain ⟨b1,b2⟩:=zfm hx
 rcases (by omega:j = i * 2∨j = i * 2 + 1) with e | e
 ·subst e
  rw [b1] at hu; rw [a1,hu]
 ·subst e
  rw [b2] at hu; rw [a2,hu]
theorem z21.of {cs:Array Value} {l:List Par} (h:∀ j,j < l.length * 2->cs[j]? = (vals l)[j]?):z21 cs l:=fun i x hx=>by
 have hi:=(List.getElem?_eq_some_iff.1 hx).1
 obtain ⟨b1,b2⟩:=zfm hx
 exact ⟨by rw [h _ (by omega)]; exact b1,by rw [h _ (by omega)]; exact b2⟩
theorem z6a:∀ (a b:List Par),vals (a ++ b) = vals a ++ vals b
 | [],b=>rfl
 | x :: a,b=>by simp only [List.cons_append,vals,z6a a b]
theorem z5v:∀ (l:List Par) (i:Nat),vals (l.take i) = (vals l).take (i * 2)
 | [],i=>by simp [vals]
 | x :: l,0=>rfl
 | x :: l,i + 1=>by
  rw [show (i + 1) * 2 = i * 2 + 1 + 1 by omega]
  simp only [List.take_succ_cons,vals,z5v l i]
theorem z4t:∀ (l:List Par) (i:Nat),vals (l.drop i) = (vals l).drop (i * 2)
 | [],i=>by simp [vals]
 | x :: l,0=>rfl
 | x :: l,i + 1=>by
  rw [show (i + 1) * 2 = i * 2 + 1 + 1 by omega]
  simp only [List.drop_succ_cons,vals,z4t l i]
/-- a call has written into the block g alone -/
structure Ate (g:Option Nat) (w w':World):Prop where
 os:w'.os = w.os
 tape:w'.tape = w.tape
 output:w'.output = w.output
 size:w.heap.size≤w'.heap.size
 oth:∀ k,k < w.heap.size->g ≠ some k->w'.heap[k]? = w.heap[k]?
/-- a slice of these pairs,in the block g or in a new one -/
def z9p (g:Option Nat) (w w':World) (v:Value) (l:List Par):Prop :=
 ∃ b cap cs,v = .slice (some ⟨b,0,none⟩) l.length cap∧l.length≤cap∧cap≤maxLen∧(g = some b∨w.heap.size≤b)∧w'.heap[b]? = some (.cells cs 58 (0,0))∧z21 cs l
theorem Ate.row {g:Nat} {w:World} (cs:Array Value):Ate (some g) w (w.drew.setRow g cs) :=
 ⟨rfl,rfl,rfl,by simp,fun k hk hne=>setRow_other w.drew g k cs (fun e=>hne (by rw [e]))⟩
/-- cells set one by one are a row laid anew -/
theorem zih {w:World} (g o:Nat) (t:TypeId) (vs:List Value) (cs:Array Value) (hg:w.heap[g]? = some (.cells cs t (0,0))) (hl:o + vs.length≤cs.size) (h1:∀ v,v ∈ vs->v.oneCell' = true) :
  w.setCells g o vs = w.setRow g (cs.toList.take o ++ vs ++ cs.toList.drop (o + vs.length)).toArray:=by
 have a1:=run_storeCells_at (P:=Try.prog) g o t vs 0 cs w hg (by omega) h1
 have a2:=run_storeCells_cells (P:=Try.prog) g o vs 0 w (fun j hj=>by rw [z16 hg,Nat.add_zero,Array.getElem?_eq_getElem (by omega)]; rfl) (fun j hj=>by simp [World.frozen?,hg]) h1
 rw [a2] at a1
 simp only [Nat.add_zero,Result.ok.injEq,true_and] at a1
 exact a1
theorem z6i:(Try.prog.info? 58).map (fun i=>(i.zero,i.size,i.bytes)) = some (some (.agg #[.string ⟨#[]⟩,.string ⟨#[]⟩]),2,32):=by kernel_rfl
set_option maxRecDepth 100000 in
set_option maxHeartbeats 4000000 in
theorem delete_any (g cap i:Nat) (cs:Array Value) (l:List Par) (w:World) (hg:w.heap[g]? = some (.cells cs 58 (0,0))) (hcap:cap * 2 = cs.size) (hn:l.length≤cap) (hmax:cap≤maxLen) (hrow:z21 cs l) (hi:i < l.length) :
  Calls Try.prog 83 #[.slice (some ⟨g,0,none⟩) l.length cap,.int .i64 (i:Int),.int .i64 ((i + 1:Nat):Int)] w fun e w'=>∃ v,e = .returned v∧Ate (some g) w w'∧z9p (some g) w w' v (l.take i ++ l.drop (i + 1)):=by
 obtain ⟨n,hnn⟩:∃ n,l.length = n:=⟨_,rfl⟩
 rw [hnn] at hn hi ⊢
 have hm:cap≤9223372036854775807:=hmax
 obtain ⟨i0,hi0,hz0,hzs,hzb⟩:=info_parts z6i
 have ht28:=Try.underlying28
 have u28:=run_underlying ht28
 -- the cells that are moved to the left
 obtain ⟨news,hnews⟩:∃ news,news = vals (l.drop (i + 1)):=⟨_,rfl⟩
 have hlen:news.length = (n - (i + 1)) * 2:=by rw [hnews,z0x,List.length_drop,hnn]
 have hget:∀ t u,news[t]? = some u->cs[(i + 1) * 2 + t]? = some u:=by
  intro t u hu
  rw [hnews,z4t,List.getElem?_drop] at hu
  exact hrow.get hu
 obtain ⟨A,hA,hsrc⟩:∃ A:Addr,(if cap = i + 1 then (some (⟨g,0,none⟩:Addr)) else some ⟨g,(i + 1) * 2,none⟩) = some A∧Hid (∀ t u,news[t]? = some u->w.drew.cell? (A.add t) = some u):=by
  by_cases h:cap = i + 1
  ·refine ⟨⟨g,0,none⟩,by simp [h],fun t u hu=>?_⟩
   have:=(List.getElem?_eq_some_iff.1 hu).1
   omega
  ·refine ⟨⟨g,(i + 1) * 2,none⟩,by simp [h],fun t u hu=>?_⟩
   rw [z22]
   show w.cell? _ = _
   rw [z16 hg]
   exact hget t u hu
 have s1:Hid (news.length = (n - (i + 1)) * 2):=hlen
 have s2:Hid (∀ u ∈ news,u.oneCell' = true):=fun u hu=>by rw [hnews] at hu; exact z57 hu
 have s3:Hid (∀ t,t < news.length->(w.drew.cell? ⟨g,0 + i * 2 + t,none⟩).isSome = true∧w.drew.frozen? ⟨g,0 + i * 2 + t,none⟩ = false):=by
  intro t ht
  refine ⟨?_,?_⟩
  ·show (w.cell? _).isSome = true
   rw [z16 hg,Array.getElem?_eq_getElem (by omega)]; rfl
  ·show w.frozen? _ = false
   simp [World.frozen?,hg]
 obtain ⟨cs1,hcs1⟩:∃ cs1,(cs.toList.take (0 + i * 2) ++ news ++ cs.toList.drop (0 + i * 2 + news.length)).toArray = cs1:=⟨_,rfl⟩
 have hsc:=zih (w:=w.drew) g (0 + i * 2) 58 news cs hg (by omega) s2.out
 rw [hcs1] at hsc
 obtain ⟨W1,hW1⟩:∃ W1,W1 = w.drew.setCells g (0 + i * 2) news:=⟨_,rfl⟩
 have hg1:W1.heap[g]? = some (.cells cs1 58 (0,0)):=by rw [hW1,hsc]; exact setRow_heap w.drew g cs cs1 _ (0,0) hg
 have hl1:(cs.toList.take (0 + i * 2)).length = i * 2:=by rw [List.length_take,Array.length_toList]; omega
 have hc1s:cs1.size = cs.size:=by
  rw [← hcs1]
  simp only [List.size_toArray,List.length_append,hl1,List.length_drop,Array.length_toList,hlen]; omega
 have hlow:∀ q,q < (n - 1) * 2->cs1[q]? = (vals (l.take i ++ l.drop (i + 1)))[q]?:=by
  intro q hq
  rw [z6a,z5v,← hnews,← hcs1,List.getElem?_toArray]
  have hv:((vals l).take (i * 2)).length = i * 2:=by rw [List.length_take,z0x]; omega
  rcases Nat.lt_or_ge q (i * 2) with h1 | h1
  ·rw [List.append_assoc,List.getElem?_append_left (by omega),List.getElem?_append_left (by omega),List.getElem?_take,List.getElem?_take,if_pos (by omega),if_pos h1,Array.getElem?_toList]
   have:q < (vals l).length:=by rw [z0x]; omega
   rw [List.getElem?_eq_getElem this]
   exact hrow.get (List.getElem?_eq_getElem this)
  ·rw [List.getElem?_append_left (by rw [List.length_append,hl1]; omega),List.getElem?_append_right (by omega),List.getElem?_append_right (by omega),hl1,hv]
 have hcl:∀ ty,(Builtin.clear_ #[28] ty #[.slice (some ⟨g,(i + (n - (i + 1))) * 2,none⟩) (n - (i + (n - (i + 1)))) (cap - (i + (n - (i + 1))))]).run Try.prog W1 = .ok (.tuple #[]) (W1.setRow g (cs1.toList.take ((n - 1) * 2) ++ (madeCells (Value.agg #[.string ⟨#[]⟩,.string ⟨#[]⟩]).cells (1 * 2)).toList ++ cs1.toList.drop ((n - 1) * 2 + 1 * 2)).toArray):=by
  intro ty
  have:=zb5 (P:=Try.prog) (w:=W1) 28 58 ty i0 _ ht28 hi0 hz0 g ((n - 1) * 2) 1 (cap - (n - 1)) cs1 58 hg1 (by show (n - 1) * 2 + 1 * 2≤cs1.size; omega) (by decide)
  rw [show i + (n - (i + 1)) = n - 1 by omega,show n - (n - 1) = 1 by omega]
  exact this
 obtain ⟨cs2,hcs2⟩:∃ cs2,(cs1.toList.take ((n - 1) * 2) ++ (madeCells (Value.agg #[.string ⟨#[]⟩,.string ⟨#[]⟩]).cells (1 * 2)).toList ++ cs1.toList.drop ((n - 1) * 2 + 1 * 2)).toArray = cs2:=⟨_,rfl⟩
 have hlow2:∀ q,q < (n - 1) * 2->cs2[q]? = cs1[q]?:=by
  intro q hq
  rw [← hcs2,List.getElem?_toArray,List.append_assoc,List.getElem?_append_left (by rw [List.length_take,Array.length_toList]; omega),List.getElem?_take,if_pos hq,Array.getElem?_toList]
 rw [hcs2] at hcl
 have hW:Hid (W1 = w.drew.setCells g (0 + i * 2) news):=hW1
 have hSC:Hid (w.drew.setCells g (0 + i * 2) news = w.drew.setRow g cs1):=hsc
 have hG1:=Lib.hid hg1
 have hG:=Lib.hid hg
 have hL1:=Lib.hid hlow
 have hL2:=Lib.hid hlow2
 have hNN:=Lib.hid hnn
 have hic:i≤cap:=by omega
 have hjc:i + 1≤cap:=by omega
 have hne:¬ (i:Int) = ((i + 1:Nat):Int):=by omega
 have hb1:(0:Int)≤(i:Int) + 1:=by omega
 have hb2:(i:Int) + 1≤(n:Int):=by omega
 clear hW1 hsc hg1 hg hlow hlow2 hget hnews hlen hcs1 hcs2 hc1s hl1 hrow hnn
 go_enter Try.func83,Try.ntmps83
 go_wp2_with fail
 go_region_law (refine step_append_room rfl (.tmp 22) (.tmp 25) 28 rfl 58 i0 2 ht28 hi0 hzs g 0 i cap (by simp [Act.eval,Act.put]) A (n - (i + 1)) (cap - (i + 1)) news (by simp [Act.eval,Act.put,hA]) s1.out hsrc.out s2.out (by omega) s3.out ?_; rw [← hW.out])
 go_wp2
 go_ret
 have hl':(l.take i ++ l.drop (i + 1)).length = i + (n - (i + 1)):=by rw [List.length_append,List.length_take,List.length_drop,hNN.out]; omega
 have e:W1.setRow g cs2 = w.drew.setRow g cs2:=by rw [hW.out,hSC.out,setRow_setRow]
 refine ⟨_,rfl,by rw [e]; exact Ate.row cs2,g,cap,cs2,by rw [hl']; rfl,by rw [hl']; omega,hmax,.inl rfl,by rw [e]; exact setRow_heap w.drew g cs cs2 _ (0,0) hG.out,z21.of fun q hq=>?_⟩
 rw [hl'] at hq
 rw [hL2.out q (by omega)]
 exact hL1.out q (by omega)
end
section
/-
 The library's insertion of one pair,over the model.
-/
open Go.RowKit
section
variable {P:Program}
/-- copies between slices whose elements have some cells -/
theorem z6d {w:World} (t e ty:TypeId) (i:TypeInfo) (ht:P.underlying t = some (.slice e)) (hi:P.info? e = some i) (g o dLen dCap:Nat) (a:Addr) (sLen sCap:Nat) (cur:Array Value) (tt:TypeId) (news:List Value) (m:Nat) (hm:Nat.min sLen dLen = m)
  (hn:news.length = m * i.size) (hg:w.heap[g]? = some (.cells cur tt (0,0))) (hsrc:∀ j v,news[j]? = some v->w.cell? (a.add j) = some v) (hfit:o + news.length≤cur.size) (h1:∀ v,v ∈ news->v.oneCell' = true) :
  (Builtin.copy_ #[t,t] ty #[.slice (some ⟨g,o,none⟩) dLen dCap,.slice (some a) sLen sCap]).run P w = .ok (goInt m) (w.setRow g (cur.toList.take o ++ news ++ cur.toList.drop (o + news.length)).toArray):=by
 have hl:=run_loadCells_list (P:=P) w a news hsrc
 have hst:=run_storeCells_at P g o tt news 0 cur w hg (by omega) h1
 rw [hn] at hl
 simp only [Nat.add_zero] at hst
 simp [Builtin.copy_,run_underlying ht,Builtin.lenOf,Builtin.firstCells,sizeOf,typeInfo,hi,hm,hl,hst]
theorem z7g (w:World) {ops:Array Oper} {rest:List Oper} {o:Oper} {a:Act} {Q:Exit->Act->World->Prop} (hgd:o.guard = none) (d s:Operand) (t t':TypeId)
  (ho:o.op = .call { callee:=.builtin .copy,args:=#[d,s],argTypes:=#[t,t'] }) (v u:Value) (hd:a.eval d = v) (hs:a.eval s = u) {v':Value} {w':World}
  (hr:(Builtin.copy_ #[t,t'] o.type #[v,u]).run P w = .ok v' w') (h:wpList P ops Q rest (a.put o.dst v') w'):wpList P ops Q (o :: rest) a w :=
 wpList_plain hgd fun _ hK=>by
  unfold Oper.wp execOp
  simp only [ho,resolve,invoke,builtin,Sem.run_bind,Sem.run_pure,Result.andThen_ok,List.map_toArray,List.map_cons,List.map_nil,hd,hs,hr]
  exact hK _ _ h
theorem zb2 {ops:Array Oper} {o:Oper} {a:Act} {w:World} {K:Act->World->Prop} {Q:Exit->Act->World->Prop} {E:Prop}
  (hg:o.guard = none) (d x:Operand) (dT sT:TypeId) (hop:o.op = Op.call { callee:=Callee.builtin Builtin.copy,args:=#[d,x],argTypes:=#[dT,sT] })
  (v u:Value) (hd:a.eval d = v) (hx:a.eval x = u) {v':Value} {w':World} (hr:(Builtin.copy_ #[dT,sT] o.type #[v,u]).run P w = .ok v' w') (hK:K (a.put o.dst v') w') :
  if Region.wanted o (yielded ops a.tmps) = true then Oper.wp P o a w K Q else E:=by
 have hw:Region.wanted o (yielded ops a.tmps) = true:=by simp [Region.wanted,hg]
 rw [if_pos hw]
 unfold Oper.wp
 simp [execOp,hop,resolve,invoke,builtin,hd,hx,hr,Result.andThen]
 exact hK
end
theorem Ate.new {g:Option Nat} {w:World} (cs:Array Value) (t:TypeId):Ate g w (w.drew.alloc (.cells cs t (0,0))) :=
 ⟨rfl,rfl,rfl,by simp,fun k hk _=>Below.heap_alloc w.drew _ k hk⟩
theorem Ate.trans {g:Option Nat} {w w1 w2:World} (h:Ate g w w1) (k:Ate g w1 w2):Ate g w w2 :=
 ⟨k.os.trans h.os,k.tape.trans h.tape,k.output.trans h.output,Nat.le_trans h.size k.size,fun j hj hn=>(k.oth j (Nat.lt_of_lt_of_le hj h.size) hn).trans (h.oth j hj hn)⟩
/-- the block that was laid may be written -/
theorem Ate.newRow {g:Option Nat} {w w1:World} (h:Ate g w w1) {b:Nat} (hb:w.heap.size≤b) (cs:Array Value):Ate g w (w1.setRow b cs) :=
 ⟨h.os,h.tape,h.output,by have:=h.size; simpa using this,fun j hj hn=>by rw [setRow_other w1 b j cs (by omega)]; exact h.oth j hj hn⟩
theorem Ate.drew {g:Option Nat} {w w1:World} (h:Ate g w w1):Ate g w w1.drew:=⟨h.os,h.tape,h.output,h.size,h.oth⟩
theorem Ate.refl (g:Option Nat) (w:World):Ate g w w:=⟨rfl,rfl,rfl,Nat.le_refl _,fun _ _ _=>rfl⟩
theorem zlh {cq:Array Value} {p:Par} (h:z21 cq [p]) {w:World} {gq:Nat} (hg:w.heap[gq]? = some (.cells cq 58 (0,0))):∀ j u,(vals [p])[j]? = some u->w.cell? ((⟨gq,0,none⟩:Addr).add j) = some u:=fun j u hu=>by
 rw [z22,Nat.zero_add,z16 hg]
 exact h.get hu
set_option maxRecDepth 100000 in
set_option maxHeartbeats 4000000 in
theorem zqe (g cap gq capq:Nat) (cs cq:Array Value) (l:List Par) (p:Par) (w:World) (hg:w.heap[g]? = some (.cells cs 58 (0,0))) (hcap:cap * 2 = cs.size) (hn:l.length + 1≤cap) (hmax:cap≤maxLen) (hrow:z21 cs l)
  (hgq:w.heap[gq]? = some (.cells cq 58 (0,0))) (hrq:z21 cq [p]) :
  Calls Try.prog 82 #[.slice (some ⟨g,0,none⟩) l.length cap,.int .i64 (l.length:Int),.slice (some ⟨gq,0,none⟩) 1 capq] w fun e w'=>∃ v,e = .returned v∧Ate (some g) w w'∧z9p (some g) w w' v (l ++ [p]):=by
 obtain ⟨n,hnn⟩:∃ n,l.length = n:=⟨_,rfl⟩
 rw [hnn] at hn ⊢
 have hm:cap≤9223372036854775807:=hmax
 obtain ⟨i0,hi0,hz0,hzs,hzb⟩:=info_parts z6i
 have ht28:=Try.underlying28
 have u28:=run_underlying ht28
 obtain ⟨cs1,hcs1⟩:∃ cs1,(cs.toList.take (n * 2) ++ vals [p] ++ cs.toList.drop (n * 2 + 2)).toArray = cs1:=⟨_,rfl⟩
 have hra:∀ ty,(Builtin.append_ #[28,28] ty #[.slice (some ⟨g,0,none⟩) n cap,.slice (some ⟨gq,0,none⟩) 1 capq]).run Try.prog w = .ok (.slice (some ⟨g,0,none⟩) (n + 1) cap) (w.setRow g cs1):=by
  intro ty
  have:=z3i (P:=Try.prog) (w:=w) 28 ty 58 i0 ht28 hi0 g 0 n cap cs hg ⟨gq,0,none⟩ 1 capq (vals [p]) (by rw [hzs]; rfl) (zlh hrq hgq) (fun u hu=>z57 hu) hn (by rw [hzs,z0x,Nat.zero_add]; show n * 2 + 1 * 2≤cs.size; omega)
  rw [hzs,Nat.zero_mul,Nat.zero_add,show (vals [p]).length = 2 from rfl,hcs1] at this
  exact this
 have hl1:(cs.toList.take (n * 2)).length = n * 2:=by rw [List.length_take,Array.length_toList]; omega
 have hrow1:z21 cs1 (l ++ [p]):=by
  refine z21.of fun q hq=>?_
  rw [List.length_append,hnn] at hq
  have hq:q < (n + 1) * 2:=hq
  rw [← hcs1,List.getElem?_toArray,z6a,List.getElem?_append_left (by rw [List.length_append,hl1]; show q < n * 2 + 2; omega)]
  rcases Nat.lt_or_ge q (n * 2) with h1 | h1
  ·have hv:q < (vals l).length:=by rw [z0x,hnn]; exact h1
   rw [List.getElem?_append_left (by omega),List.getElem?_append_left hv,List.getElem?_take,if_pos h1,Array.getElem?_toList,List.getElem?_eq_getElem hv]
   exact hrow.get (List.getElem?_eq_getElem hv)
  ·rw [List.getElem?_append_right (by omega),List.getElem?_append_right (by rw [z0x,hnn]; exact h1),hl1,z0x,hnn]
 have hG:=Lib.hid hg
 have hR:=Lib.hid hrow1
 have hL:Hid ((l ++ [p]).length = n + 1):=by show _ = _; rw [List.length_append,hnn]; rfl
 have hMx:Hid (cap≤maxLen):=hmax
 clear hg hrow hrow1 hcs1 hl1 hgq hrq hnn hmax
 go_enter Try.func82,Try.ntmps82
 go_wp2_with (at_builtin; refine Lib.wpList_append_run _ rfl _ _ _ _ rfl _ _ rfl rfl _ _ (hra _) ?_)
 go_ret
 refine ⟨_,rfl,(Ate.refl _ _).trans ?_,g,cap,cs1,by rw [hL.out]; rfl,by rw [hL.out]; omega,hMx.out,.inl rfl,setRow_heap w g cs cs1 _ (0,0) hG.out,hR.out⟩
 exact ⟨rfl,rfl,rfl,by simp,fun k hk hne=>setRow_other w g k cs1 (fun e=>hne (by rw [e]))⟩
theorem wr_at {cs:Array Value} {news:List Value} {o:Nat} (h:o + news.length≤cs.size) (q:Nat) :
  ((cs.toList.take o ++ news ++ cs.toList.drop (o + news.length)).toArray)[q]? = if q < o then cs[q]? else if q < o + news.length then news[q - o]? else cs[q]?:=by
 have hl1:(cs.toList.take o).length = o:=by rw [List.length_take,Array.length_toList]; omega
 rw [List.getElem?_toArray]
 by_cases h1:q < o
 ·rw [if_pos h1,List.append_assoc,List.getElem?_append_left (by omega),List.getElem?_take,if_pos h1,Array.getElem?_toList]
 ·rw [if_neg h1]
  by_cases h2:q < o + news.length
  ·rw [if_pos h2,List.append_assoc,List.getElem?_append_right (by omega),hl1,List.getElem?_append_left (by omega)]
  ·rw [if_neg h2,List.getElem?_append_right (by rw [List.length_append]; omega),List.length_append,hl1,List.getElem?_drop,Array.getElem?_toList]
   congr 1; omega
theorem wr_size {cs:Array Value} {news:List Value} {o:Nat} (h:o + news.length≤cs.size):((cs.toList.take o ++ news ++ cs.toList.drop (o + news.length)).toArray).size = cs.size:=by
 simp only [List.size_toArray,List.length_append,List.length_take,List.length_drop,Array.length_toList]; omega
theorem ins_at {l:List Par} {p:Par} {i:Nat} (hi:i≤l.length) (q:Nat):(vals (l.take i ++ p :: l.drop i))[q]? = if q < i * 2 then (vals l)[q]? else if q < i * 2 + 2 then (vals [p])[q - i * 2]? else (vals l)[q - 2]?:=by
 have hv:((vals l).take (i * 2)).length = i * 2:=by rw [List.length_take,z0x]; omega
 rw [show l.take i ++ p :: l.drop i = l.take i ++ ([p] ++ l.drop i) from rfl,z6a,z6a,z5v,z4t]
 by_cases h1:q < i * 2
 ·rw [if_pos h1,List.getElem?_append_left (by omega),List.getElem?_take,if_pos h1]
 ·rw [if_neg h1,List.getElem?_append_right (by omega),hv]
  by_cases h2:q < i * 2 + 2
  ·rw [if_pos h2,List.getElem?_append_left (by show q - i * 2 < 2; omega)]
  ·rw [if_neg h2,List.getElem?_append_right (by show 2≤q - i * 2; omega),List.getElem?_drop]
   congr 1
   show i * 2 + (q - i * 2 - 2) = q - 2
   omega
theorem z21.all {cs:Array Value} {l:List Par} (h:z21 cs l) {q:Nat} (hq:q < l.length * 2):cs[q]? = (vals l)[q]?:=by
 have:q < (vals l).length:=by rw [z0x]; exact hq
 rw [List.getElem?_eq_getElem this]
 exact h.get (List.getElem?_eq_getElem this)
theorem src_at {cs:Array Value} {l:List Par} (h:z21 cs l) {w:World} {g:Nat} (hg:w.heap[g]? = some (.cells cs 58 (0,0))) (i:Nat):∀ j u,(vals (l.drop i))[j]? = some u->w.cell? ((⟨g,i * 2,none⟩:Addr).add j) = some u:=fun j u hu=>by
 rw [z22,z16 hg]
 rw [z4t,List.getElem?_drop] at hu
 exact h.get hu
set_option maxRecDepth 100000 in
set_option maxHeartbeats 4000000 in
theorem zqf (g cap gq capq:Nat) (cs cq:Array Value) (l:List Par) (p:Par) (w:World) (hg:w.heap[g]? = some (.cells cs 58 (0,0))) (hn:l.length = cap) (hL0:l.length≤1000000) (hrow:z21 cs l)
  (hgq:w.heap[gq]? = some (.cells cq 58 (0,0))) (hrq:z21 cq [p]) :
  Calls Try.prog 82 #[.slice (some ⟨g,0,none⟩) l.length cap,.int .i64 (l.length:Int),.slice (some ⟨gq,0,none⟩) 1 capq] w fun e w'=>∃ v,e = .returned v∧Ate (some g) w w'∧z9p (some g) w w' v (l ++ [p]):=by
 obtain ⟨n,hnn⟩:∃ n,l.length = n:=⟨_,rfl⟩
 rw [hnn] at hn hL0 ⊢
 subst hn
 obtain ⟨i0,hi0,hz0,hzs,hzb⟩:=info_parts z6i
 have ht28:=Try.underlying28
 have u28:=run_underlying ht28
 have hra0:=fun ty=>run_append_grow (P:=Try.prog) w 28 ty 58 i0 _ ht28 hi0 hz0 ⟨g,0,none⟩ n n (vals l) (by rw [hzs,z0x,hnn]) (fun j v hj=>by rw [z22,Nat.zero_add,z16 hg]; exact hrow.get hj) ⟨gq,0,none⟩ 1 capq (vals [p]) (by rw [hzs]; rfl) (zlh hrq hgq) (by omega) (by omega) (growslice_fits (by omega) (by rw [hzb]; omega))
 obtain ⟨G,hG⟩:∃ G,grownCap w (n + 1) n 58 = G:=⟨_,rfl⟩
 rw [hG] at hra0
 have hG1:n + 1≤G:=by rw [← hG]; exact grownCap_ge w _ _ _
 have hG2:G≤maxLen:=by rw [← hG]; exact grownCap_le_maxLen w _ _ _ (by unfold maxLen; omega)
 obtain ⟨cs1,hcs1⟩:∃ cs1,(vals l).toArray ++ (vals [p]).toArray ++ Builtin.zeroCells (Value.agg #[.string ⟨#[]⟩,.string ⟨#[]⟩]).cells (G - (n + 1)) = cs1:=⟨_,rfl⟩
 rw [hcs1] at hra0
 have hra:∀ ty,(Builtin.append_ #[28,28] ty #[.slice (some ⟨g,0,none⟩) n n,.slice (some ⟨gq,0,none⟩) 1 capq]).run Try.prog w = .ok (.slice (some ⟨w.heap.size,0,none⟩) (n + 1) G) (w.drew.alloc (.cells cs1 58)):=hra0
 have hrow1:z21 cs1 (l ++ [p]):=by
  refine z21.of fun q hq=>?_
  rw [List.length_append,hnn] at hq
  have hq:q < (n + 1) * 2:=hq
  rw [← hcs1,z6a,Array.getElem?_append_left (by simp only [Array.size_append,List.size_toArray,z0x,hnn]; show q < n * 2 + 1 * 2; omega)]
  simp only [List.append_toArray,List.getElem?_toArray]
 have hR:=Lib.hid hrow1
 have hL:Hid ((l ++ [p]).length = n + 1):=by show _ = _; rw [List.length_append,hnn]; rfl
 have hMx:=Lib.hid hG2
 clear hg hrow hrow1 hcs1 hgq hrq hnn hG hra0 hG2
 go_enter Try.func82,Try.ntmps82
 go_wp2_with (at_builtin; refine Lib.wpList_append_run _ rfl _ _ _ _ rfl _ _ rfl rfl _ _ (hra _) ?_)
 go_ret
 exact ⟨_,rfl,Ate.new _ _,w.heap.size,G,cs1,by rw [hL.out]; rfl,by rw [hL.out]; exact hG1,hMx.out,.inr (Nat.le_refl _),heap_alloc_new w _,hR.out⟩
set_option maxRecDepth 100000 in
set_option maxHeartbeats 4000000 in
theorem insEnd_nil (gq capq:Nat) (cq:Array Value) (p:Par) (w:World) (hgq:w.heap[gq]? = some (.cells cq 58 (0,0))) (hrq:z21 cq [p]) :
  Calls Try.prog 82 #[.slice none 0 0,.int .i64 0,.slice (some ⟨gq,0,none⟩) 1 capq] w fun e w'=>∃ v,e = .returned v∧Ate none w w'∧z9p none w w' v [p]:=by
 obtain ⟨i0,hi0,hz0,hzs,hzb⟩:=info_parts z6i
 have ht28:=Try.underlying28
 have u28:=run_underlying ht28
 have hra0:=fun ty=>run_append_nil (P:=Try.prog) w 28 ty 58 i0 _ ht28 hi0 hz0 ⟨gq,0,none⟩ 1 capq (vals [p]) (by rw [hzs]; rfl) (zlh hrq hgq) (by omega) (by omega) (by rw [hzb]; omega)
 obtain ⟨G,hG⟩:∃ G,grownCap w 1 0 58 = G:=⟨_,rfl⟩
 rw [hG] at hra0
 have hG1:1≤G:=by rw [← hG]; exact grownCap_ge w _ _ _
 have hG2:G≤maxLen:=by rw [← hG]; exact grownCap_le_maxLen w _ _ _ (by unfold maxLen; omega)
 obtain ⟨cs1,hcs1⟩:∃ cs1,(vals [p]).toArray ++ Builtin.zeroCells (Value.agg #[.string ⟨#[]⟩,.string ⟨#[]⟩]).cells (G - 1) = cs1:=⟨_,rfl⟩
 rw [hcs1] at hra0
 have hra:∀ ty,(Builtin.append_ #[28,28] ty #[.slice none 0 0,.slice (some ⟨gq,0,none⟩) 1 capq]).run Try.prog w = .ok (.slice (some ⟨w.heap.size,0,none⟩) 1 G) (w.drew.alloc (.cells cs1 58)):=hra0
 have hrow1:z21 cs1 [p]:=by
  refine z21.of fun q hq=>?_
  have hq:q < 1 * 2:=hq
  rw [← hcs1,Array.getElem?_append_left (by simp only [List.size_toArray,z0x]; exact hq),List.getElem?_toArray]
 have hR:=Lib.hid hrow1
 have hMx:=Lib.hid hG2
 clear hrow1 hcs1 hgq hrq hG hra0 hG2
 go_enter Try.func82,Try.ntmps82
 go_wp2_with (at_builtin; refine Lib.wpList_append_run _ rfl _ _ _ _ rfl _ _ rfl rfl _ _ (hra _) ?_)
 go_ret
 exact ⟨_,rfl,Ate.new _ _,w.heap.size,G,cs1,rfl,hG1,hMx.out,.inr (Nat.le_refl _),heap_alloc_new w _,hR.out⟩
set_option maxRecDepth 100000 in
set_option maxHeartbeats 4000000 in
theorem zqc (g cap i gq capq:Nat) (cs cq:Array Value) (l:List Par) (p:Par) (w:World) (hg:w.heap[g]? = some (.cells cs 58 (0,0))) (hcap:cap * 2 = cs.size) (hn:l.length + 1≤cap) (hmax:cap≤maxLen) (hrow:z21 cs l) (hi:i < l.length) (hL0:l.length≤1000000)
  (hgq:w.heap[gq]? = some (.cells cq 58 (0,0))) (hrq:z21 cq [p]) (hne:gq ≠ g) :
  Calls Try.prog 82 #[.slice (some ⟨g,0,none⟩) l.length cap,.int .i64 (i:Int),.slice (some ⟨gq,0,none⟩) 1 capq] w fun e w'=>∃ v,e = .returned v∧Ate (some g) w w'∧z9p (some g) w w' v (l.take i ++ p :: l.drop i):=by
 obtain ⟨n,hnn⟩:∃ n,l.length = n:=⟨_,rfl⟩
 rw [hnn] at hn hi hL0 ⊢
 have hm:cap≤9223372036854775807:=hmax
 obtain ⟨i0,hi0,hz0,hzs,hzb⟩:=info_parts z6i
 have ht28:=Try.underlying28
 have u28:=run_underlying ht28
 have hdl:(vals (l.drop i)).length = (n - i) * 2:=by rw [z0x,List.length_drop,hnn]
 have hov:∀ lb cb,(callFunc 89 #[.slice (some ⟨gq,0,none⟩) 1 capq,.slice (some ⟨g,(i + 1) * 2,none⟩) lb cb]).run Try.prog w = .ok (.value (.bool false)) w:=fun lb cb=>by
  rw [run_callFunc_extern Try.func89 (by kernel_rfl) (by kernel_rfl) (by kernel_rfl) (e:=Extern.SlicesOverlaps.overlaps #[28,28] #[4]) (by kernel_rfl),
   Lib.run_overlaps_apart w 28 4 58 ht28 2 (fun w=>by simp [sizeOf,typeInfo,hi0,hzs]) ⟨gq,0,none⟩ ⟨g,(i + 1) * 2,none⟩ 1 capq lb cb hne 58 58 cq.size cs.size (by simp [World.shape?,hgq]) (by simp [World.shape?,hg]) (by omega) (by simp [World.frozen?,hgq]) (by simp [World.frozen?,hgq])]
  rfl
 obtain ⟨cs1,hcs1⟩:∃ cs1,(cs.toList.take ((i + 1) * 2) ++ vals (l.drop i) ++ cs.toList.drop ((i + 1) * 2 + (vals (l.drop i)).length)).toArray = cs1:=⟨_,rfl⟩
 have hf1:(i + 1) * 2 + (vals (l.drop i)).length≤cs.size:=by omega
 have hcp1:∀ ty dc sc,(Builtin.copy_ #[28,28] ty #[.slice (some ⟨g,(i + 1) * 2,none⟩) (n - i) dc,.slice (some ⟨g,i * 2,none⟩) (n + 1 - i) sc]).run Try.prog w.drew = .ok (goInt ((n - i:Nat):Int)) (w.drew.setRow g cs1):=fun ty dc sc=>by
  have:=z6d (P:=Try.prog) (w:=w.drew) 28 58 ty i0 ht28 hi0 g ((i + 1) * 2) (n - i) dc ⟨g,i * 2,none⟩ (n + 1 - i) sc cs 58 (vals (l.drop i)) (n - i) (by simp only [Nat.min_def]; split <;> omega) (by rw [hzs]; exact hdl) hg (src_at hrow (w:=w.drew) hg i) hf1 (fun v hv=>z57 hv)
  rw [hcs1] at this
  exact this
 obtain ⟨W1,hW1⟩:∃ W1,w.drew.setRow g cs1 = W1:=⟨_,rfl⟩
 rw [hW1] at hcp1
 have hg1:W1.heap[g]? = some (.cells cs1 58 (0,0)):=by rw [← hW1]; exact setRow_heap w.drew g cs cs1 _ (0,0) hg
 have hgq1:W1.heap[gq]? = some (.cells cq 58 (0,0)):=by rw [← hW1]; exact (setRow_other w.drew g gq cs1 hne).trans hgq
 have hs1:cs1.size = cs.size:=by rw [← hcs1]; exact wr_size hf1
 obtain ⟨cs2,hcs2⟩:∃ cs2,(cs1.toList.take (i * 2) ++ vals [p] ++ cs1.toList.drop (i * 2 + (vals [p]).length)).toArray = cs2:=⟨_,rfl⟩
 have hf2:i * 2 + (vals [p]).length≤cs1.size:=by show i * 2 + 2≤cs1.size; omega
 have hcp2:∀ ty dc,(Builtin.copy_ #[28,28] ty #[.slice (some ⟨g,i * 2,none⟩) (n + 1 - i) dc,.slice (some ⟨gq,0,none⟩) 1 capq]).run Try.prog W1 = .ok (goInt (1:Nat)) (W1.setRow g cs2):=fun ty dc=>by
  have:=z6d (P:=Try.prog) (w:=W1) 28 58 ty i0 ht28 hi0 g (i * 2) (n + 1 - i) dc ⟨gq,0,none⟩ 1 capq cs1 58 (vals [p]) 1 (by simp only [Nat.min_def]; split <;> omega) (by rw [hzs]; rfl) hg1 (zlh hrq hgq1) hf2 (fun v hv=>z57 hv)
  rw [hcs2] at this
  exact this
 have hlen:(l.take i ++ p :: l.drop i).length = n + 1:=by rw [List.length_append,List.length_cons,List.length_take,List.length_drop,hnn]; omega
 have hrow2:z21 cs2 (l.take i ++ p :: l.drop i):=by
  refine z21.of fun q hq=>?_
  rw [hlen] at hq
  rw [ins_at (by omega),← hcs2,wr_at hf2,show (vals [p]).length = 2 from rfl]
  by_cases h1:q < i * 2
  ·rw [if_pos h1,if_pos h1,← hcs1,wr_at hf1,if_pos (by omega)]
   exact hrow.all (by omega)
  ·rw [if_neg h1,if_neg h1]
   by_cases h2:q < i * 2 + 2
   ·rw [if_pos h2,if_pos h2]
   ·rw [if_neg h2,if_neg h2,← hcs1,wr_at hf1,if_neg (by omega),if_pos (by omega),z4t,List.getElem?_drop]
    congr 1; omega
 have hAte:Ate (some g) w (W1.setRow g cs2):=by rw [← hW1,setRow_setRow]; exact Ate.row cs2
 have hg2:(W1.setRow g cs2).heap[g]? = some (.cells cs2 58 (0,0)):=setRow_heap W1 g cs1 cs2 _ (0,0) hg1
 have hR:=Lib.hid hrow2
 have hA:=Lib.hid hAte
 have hG2:=Lib.hid hg2
 have hL:=Lib.hid hlen
 have hMx:Hid (cap≤maxLen):=hmax
 have hz2:¬ ((i:Int) = (n:Int)):=by omega
 have hw1:IntKind.i64.wrap ((i:Int) + 1) = (i:Int) + 1:=by rw [IntKind.wrap_i64]; omega
 have hw2:IntKind.i64.wrap ((n:Int) + 1) = (n:Int) + 1:=by rw [IntKind.wrap_i64]; omega
 have hb1:(0:Int)≤(i:Int) + 1:=by omega
 have htn:((i:Int) + 1).toNat = i + 1:=by omega
 have htn2:((n:Int) + 1).toNat = n + 1:=by omega
 have hb2:¬ (cap = i + 1):=by omega
 have hb3:(i:Int)≤(n:Int) + 1:=by omega
 have hb4:¬ (cap = i):=by omega
 have hin:i≤n:=by omega
 have hb5:(i:Int) + 1≤(n:Int) + 1:=by omega
 have hb6:(0:Int)≤(n:Int) + 1:=by omega
 have hb7:(n:Int) + 1≤(cap:Int):=by omega
 have hb8:¬ ((cap:Int) < (n:Int) + 1):=by omega
 clear hg hrow hrow2 hcs1 hcs2 hgq hgq1 hrq hnn hmax hdl hf1 hf2 hs1 hW1 hg1 hg2 hAte hlen
 go_enter Try.func82,Try.ntmps82
 go_wp2_with (simp only [hov])
 go_region_law (refine zb2 rfl _ _ 28 28 rfl _ _ (by simp [Act.eval,Act.put]) (by simp [Act.eval,Act.put]) (hcp1 _ _ _) ?_)
 go_wp2_with (at_builtin; refine z7g _ rfl _ _ 28 28 rfl _ _ rfl rfl (hcp2 _ _) ?_)
 go_ret
 exact ⟨_,rfl,hA.out,g,cap,cs2,by rw [hL.out]; rfl,by rw [hL.out]; omega,hMx.out,.inl rfl,hG2.out,hR.out⟩
set_option maxRecDepth 100000 in
set_option maxHeartbeats 4000000 in
theorem zqd (g i gq capq:Nat) (cs cq:Array Value) (l:List Par) (p:Par) (w:World) (hg:w.heap[g]? = some (.cells cs 58 (0,0))) (hrow:z21 cs l) (hi:i < l.length) (hL0:l.length≤1000000)
  (hgq:w.heap[gq]? = some (.cells cq 58 (0,0))) (hrq:z21 cq [p]) :
  Calls Try.prog 82 #[.slice (some ⟨g,0,none⟩) l.length l.length,.int .i64 (i:Int),.slice (some ⟨gq,0,none⟩) 1 capq] w fun e w'=>∃ v,e = .returned v∧Ate (some g) w w'∧z9p (some g) w w' v (l.take i ++ p :: l.drop i):=by
 obtain ⟨n,hnn⟩:∃ n,l.length = n:=⟨_,rfl⟩
 rw [hnn] at hi hL0 ⊢
 obtain ⟨i0,hi0,hz0,hzs,hzb⟩:=info_parts z6i
 have ht28:=Try.underlying28
 have u28:=run_underlying ht28
 have hdl:(vals (l.drop i)).length = (n - i) * 2:=by rw [z0x,List.length_drop,hnn]
 have htl:(vals (l.take i)).length = i * 2:=by rw [z0x,List.length_take,hnn,Nat.min_eq_left (by omega)]
 have hgs:g < w.heap.size:=z4n hg
 have hgqs:gq < w.heap.size:=z4n hgq
 obtain ⟨b,hb⟩:∃ b,w.heap.size = b:=⟨_,rfl⟩
 have hold:(Builtin.firstCells i0.size i (.slice (some ⟨g,0,none⟩) i n)).run Try.prog w.drew = .ok (vals (l.take i)).toArray w.drew :=
  run_firstCells_some w.drew i0.size i ⟨g,0,none⟩ i n (vals (l.take i)) (by rw [hzs]; exact htl) (fun j v hj=>by
   rw [z22,Nat.zero_add]
   show w.cell? _ = _
   rw [z16 hg]
   rw [z5v,List.getElem?_take] at hj
   split at hj
   ·exact hrow.get hj
   ·cases hj)
 obtain ⟨G,hG⟩:∃ G,grownCap w (n + 1) n 58 = G:=⟨_,rfl⟩
 have hG1:n + 1≤G:=by rw [← hG]; exact grownCap_ge w _ _ _
 have hG2:G≤maxLen:=by rw [← hG]; exact grownCap_le_maxLen w _ _ _ (by unfold maxLen; omega)
 have hG3:G≤9223372036854775807:=hG2
 obtain ⟨cs0,hcs0⟩:∃ cs0,(vals (l.take i)).toArray ++ Builtin.zeroCells (Value.agg #[.string ⟨#[]⟩,.string ⟨#[]⟩]).cells (n + 1 - i) ++ Builtin.zeroCells (Value.agg #[.string ⟨#[]⟩,.string ⟨#[]⟩]).cells (G - (n + 1)) = cs0:=⟨_,rfl⟩
 have hrz:∀ ty,(Builtin.append_ #[28,3] ty #[.slice (some ⟨g,0,none⟩) i n,.int .i64 ((n:Int) + 1 - (i:Int))]).run Try.prog w = .ok (.slice (some ⟨b,0,none⟩) (n + 1) G) (w.drew.alloc (.cells cs0 58)):=by
  intro ty
  have h:=Lib.run_append_grow_zeros w 28 3 ty 58 i0 _ .i64 .i64 ht28 Try.underlying3 hi0 hz0 (some ⟨g,0,none⟩) i n (vals (l.take i)) hold (n + 1 - i) (by omega) (by omega) (by omega) (by omega) (by rw [hzb]; omega) (growslice_fits (by omega) (by rw [hzb]; omega))
  rw [show i + (n + 1 - i) = n + 1 by omega,hG,hb,hcs0] at h
  rw [show (n:Int) + 1 - (i:Int) = ((n + 1 - i:Nat):Int) by omega]
  exact h
 have hs0:cs0.size = G * 2:=by
  rw [← hcs0]
  simp only [Array.size_append,List.size_toArray,htl,size_zeroCells]
  show i * 2 + (n + 1 - i) * 2 + (G - (n + 1)) * 2 = G * 2
  omega
 have hc0:∀ q,q < i * 2->cs0[q]? = (vals l)[q]?:=by
  intro q hq
  rw [← hcs0,Array.append_assoc,Array.getElem?_append_left (by rw [List.size_toArray,htl]; exact hq),List.getElem?_toArray,z5v,List.getElem?_take,if_pos hq]
 obtain ⟨W1,hW1⟩:∃ W1,w.drew.alloc (.cells cs0 58) = W1:=⟨_,rfl⟩
 rw [hW1] at hrz
 have hA1:Ate (some g) w W1:=by rw [← hW1]; exact Ate.new _ _
 have hb1:W1.heap[b]? = some (.cells cs0 58 (0,0)):=by rw [← hW1,← hb]; exact heap_alloc_new w _
 have hg1:W1.heap[g]? = some (.cells cs 58 (0,0)):=by rw [← hW1]; exact (Below.heap_alloc w.drew _ g hgs).trans hg
 have hgq1:W1.heap[gq]? = some (.cells cq 58 (0,0)):=by rw [← hW1]; exact (Below.heap_alloc w.drew _ gq hgqs).trans hgq
 obtain ⟨cs1,hcs1⟩:∃ cs1,(cs0.toList.take (i * 2) ++ vals [p] ++ cs0.toList.drop (i * 2 + (vals [p]).length)).toArray = cs1:=⟨_,rfl⟩
 have hf1:i * 2 + (vals [p]).length≤cs0.size:=by show i * 2 + 2≤cs0.size; omega
 have hcp1:∀ ty dc,(Builtin.copy_ #[28,28] ty #[.slice (some ⟨b,i * 2,none⟩) (n + 1 - i) dc,.slice (some ⟨gq,0,none⟩) 1 capq]).run Try.prog W1 = .ok (goInt (1:Nat)) (W1.setRow b cs1):=fun ty dc=>by
  have:=z6d (P:=Try.prog) (w:=W1) 28 58 ty i0 ht28 hi0 b (i * 2) (n + 1 - i) dc ⟨gq,0,none⟩ 1 capq cs0 58 (vals [p]) 1 (by simp only [Nat.min_def]; split <;> omega) (by rw [hzs]; rfl) hb1 (zlh hrq hgq1) hf1 (fun v hv=>z57 hv)
  rw [hcs1] at this
  exact this
 obtain ⟨W2,hW2⟩:∃ W2,W1.setRow b cs1 = W2:=⟨_,rfl⟩
 rw [hW2] at hcp1
 have hs1:cs1.size = cs0.size:=by rw [← hcs1]; exact wr_size hf1
 have hA2:Ate (some g) w W2:=by rw [← hW2]; exact hA1.newRow (by omega) cs1
 have hb2:W2.heap[b]? = some (.cells cs1 58 (0,0)):=by rw [← hW2]; exact setRow_heap W1 b cs0 cs1 _ (0,0) hb1
 have hg2:W2.heap[g]? = some (.cells cs 58 (0,0)):=by rw [← hW2]; exact (setRow_other W1 b g cs1 (by omega)).trans hg1
 obtain ⟨cs2,hcs2⟩:∃ cs2,(cs1.toList.take ((i + 1) * 2) ++ vals (l.drop i) ++ cs1.toList.drop ((i + 1) * 2 + (vals (l.drop i)).length)).toArray = cs2:=⟨_,rfl⟩
 have hf2:(i + 1) * 2 + (vals (l.drop i)).length≤cs1.size:=by omega
 have hcp2:∀ ty dc sc,(Builtin.copy_ #[28,28] ty #[.slice (some ⟨b,(i + 1) * 2,none⟩) (n - i) dc,.slice (some ⟨g,i * 2,none⟩) (n - i) sc]).run Try.prog W2.drew = .ok (goInt ((n - i:Nat):Int)) (W2.drew.setRow b cs2):=fun ty dc sc=>by
  have:=z6d (P:=Try.prog) (w:=W2.drew) 28 58 ty i0 ht28 hi0 b ((i + 1) * 2) (n - i) dc ⟨g,i * 2,none⟩ (n - i) sc cs1 58 (vals (l.drop i)) (n - i) (Nat.min_self _) (by rw [hzs]; exact hdl) hb2 (src_at hrow (w:=W2.drew) hg2 i) hf2 (fun v hv=>z57 hv)
  rw [hcs2] at this
  exact this
 have hlen:(l.take i ++ p :: l.drop i).length = n + 1:=by rw [List.length_append,List.length_cons,List.length_take,List.length_drop,hnn]; omega
 have hrow2:z21 cs2 (l.take i ++ p :: l.drop i):=by
  refine z21.of fun q hq=>?_
  rw [hlen] at hq
  rw [ins_at (by omega),← hcs2,wr_at hf2]
  by_cases h1:q < i * 2
  ·rw [if_pos h1,if_pos (by omega),← hcs1,wr_at hf1,if_pos (by omega)]
   exact hc0 q h1
  ·rw [if_neg h1]
   by_cases h2:q < i * 2 + 2
   ·rw [if_pos h2,if_pos (by omega),← hcs1,wr_at hf1,if_neg h1,if_pos (by show q < i * 2 + 2; exact h2)]
   ·rw [if_neg h2,if_neg (by omega),if_pos (by omega),z4t,List.getElem?_drop]
    congr 1; omega
 have hA3:Ate (some g) w (W2.drew.setRow b cs2):=hA2.drew.newRow (by omega) cs2
 have hb3':(W2.drew.setRow b cs2).heap[b]? = some (.cells cs2 58 (0,0)):=setRow_heap W2.drew b cs1 cs2 _ (0,0) hb2
 have hR:=Lib.hid hrow2
 have hA:=Lib.hid hA3
 have hG4:=Lib.hid hb3'
 have hL:=Lib.hid hlen
 have hMx:=Lib.hid hG2
 have hBS:Hid (w.heap.size≤b):=by show _≤_; omega
 have hz2:¬ ((i:Int) = (n:Int)):=by omega
 have hw1:IntKind.i64.wrap ((i:Int) + 1) = (i:Int) + 1:=by rw [IntKind.wrap_i64]; omega
 have hw2:IntKind.i64.wrap ((n:Int) + 1) = (n:Int) + 1:=by rw [IntKind.wrap_i64]; omega
 have hw3:IntKind.i64.wrap ((n:Int) + 1 - (i:Int)) = (n:Int) + 1 - (i:Int):=by rw [IntKind.wrap_i64]; omega
 have hb1':(0:Int)≤(i:Int) + 1:=by omega
 have htn:((i:Int) + 1).toNat = i + 1:=by omega
 have hb2':¬ (n = i + 1 + 1)∨True:=.inr trivial
 have hGi:¬ (G = i):=by omega
 have hGim:¬ (G = i + 1):=by omega
 have hb4:¬ (n = i):=by omega
 have hin:i≤n:=by omega
 have hb5:(i:Int) + 1≤(n:Int) + 1:=by omega
 have hb8:(n:Int) < (n:Int) + 1:=by omega
 have hb9:(i:Int)≤(n:Int):=by omega
 have hb10:(i:Int)≤(n:Int) + 1:=by omega
 clear hg hrow hrow2 hcs0 hcs1 hcs2 hgq hgq1 hrq hnn hdl htl hgs hgqs hold hG hG2 hs0 hc0 hW1 hA1 hb1 hg1 hf1 hW2 hs1 hA2 hb2 hg2 hf2 hlen hA3 hb3' hb2'
 go_enter Try.func82,Try.ntmps82
 go_wp2_with (first
  | (at_builtin; refine Lib.wpList_append_run _ rfl _ _ _ _ rfl _ _ rfl rfl _ _ (hrz _) ?_)
  | (at_builtin; refine z7g _ rfl _ _ 28 28 rfl _ _ rfl rfl (hcp1 _ _) ?_))
 go_region_law (refine zb2 rfl _ _ 28 28 rfl _ _ (by simp [Act.eval,Act.put]) (by simp [Act.eval,Act.put]) (hcp2 _ _ _) ?_)
 go_wp2
 go_ret
 exact ⟨_,rfl,hA.out,b,G,cs2,by rw [hL.out]; rfl,by rw [hL.out]; omega,hMx.out,.inr hBS.out,hG4.out,hR.out⟩
end
section
/-
 Layer 9 on the plain machine: the pairs of some keys are struck: the library's search and its deletion,walked.
-/
open Go.RowKit
attribute [local go_sem ↓] z0s z0g
/-! ### slices.IndexFunc[[]percolate/api.Pair,percolate/api.Pair] -/
def r_iF_0:Reg:=⟨[],[⟨.mv (.c (.int .i64 0)),some 4,none,[],[]⟩],[],[],false⟩
def t_iF_1:List ROp:=[⟨.mv (.t 0),some 6,none,[],[]⟩,⟨.len false (.t 6),some 7,none,[],[]⟩,⟨.mv (.c (.int .i64 0)),some 8,none,[],[]⟩]
def r_iF_1:Reg:=⟨[],t_iF_1,[],[],false⟩
def r_iF_2:Reg:=⟨[],[⟨.bin .lss (.t 8) (.t 7),some 9,none,[],[]⟩],[],[],false⟩
def r_iF_3:Reg:=⟨[],[⟨.mv (.t 8),some 10,none,[],[]⟩,⟨.mv (.t 10),some 5,none,[],[]⟩],[],[],false⟩
def t_iF_4:List ROp:=[⟨.mv (.t 1),some 11,none,[16],[]⟩,⟨.mv (.t 0),some 12,none,[16],[]⟩,⟨.mv (.t 5),some 13,none,[16],[]⟩,⟨.iaddr 2 (.t 12) (.t 13),some 14,none,[16],[]⟩,⟨.load 2 true (.t 14),some 15,none,[16],[]⟩,⟨.callv (.t 11) [(.t 15)],some 16,none,[],[]⟩]
def r_iF_4:Reg:=⟨[],t_iF_4,[16],[],false⟩
def r_iF_5:Reg:=⟨[],[⟨.mv (.t 5),some 17,none,[],[]⟩,⟨.mv (.t 17),some 4,none,[],[]⟩],[],[],false⟩
def r_iF_6:Reg:=⟨[],[⟨.bin .add (.t 8) (.c (.int .i64 1)),some 18,none,[],[]⟩,⟨.mv (.t 18),some 8,none,[],[]⟩],[],[],false⟩
def r_iF_l7:IR:=(.seq (.reg r_iF_2)
 (.seq (.cond (.t 9) .skip
 (.exit 0))
 (.seq (.block 1 (.seq (.reg r_iF_3)
 (.seq (.reg r_iF_4)
 (.cond (.t 16) (.seq (.reg r_iF_5)
 .ret)
 .skip))))
 (.reg r_iF_6))))
def r_iF_8:Reg:=⟨[],[⟨.mv (.c (.int .i64 (-1))),some 4,none,[],[]⟩],[],[],false⟩
def ir_iF:IR:=(.seq (.reg r_iF_0)
 (.seq (.seq (.reg r_iF_1)
 (.block 0 (.loop r_iF_l7)))
 (.seq (.reg r_iF_8)
 .ret)))
def res_iF:List RDesc:=[(.tmp 4)]
theorem e_iF_0:EqR r_iF_0 [⟨.mv (.c (.int .i64 0)),some 4,none,[],[]⟩] []:=fun _ _ _=>rfl
theorem e_iF_1:EqR r_iF_1 t_iF_1 []:=fun _ _ _=>rfl
theorem e_iF_2:EqR r_iF_2 [⟨.bin .lss (.t 8) (.t 7),some 9,none,[],[]⟩] []:=fun _ _ _=>rfl
theorem e_iF_3:EqR r_iF_3 [⟨.mv (.t 8),some 10,none,[],[]⟩,⟨.mv (.t 10),some 5,none,[],[]⟩] []:=fun _ _ _=>rfl
theorem e_iF_4:EqR r_iF_4 t_iF_4 [16]:=fun _ _ _=>rfl
theorem e_iF_5:EqR r_iF_5 [⟨.mv (.t 5),some 17,none,[],[]⟩,⟨.mv (.t 17),some 4,none,[],[]⟩] []:=fun _ _ _=>rfl
theorem e_iF_6:EqR r_iF_6 [⟨.bin .add (.t 8) (.c (.int .i64 1)),some 18,none,[],[]⟩,⟨.mv (.t 18),some 8,none,[],[]⟩] []:=fun _ _ _=>rfl
theorem e_iF_8:EqR r_iF_8 [⟨.mv (.c (.int .i64 (-1))),some 4,none,[],[]⟩] []:=fun _ _ _=>rfl
theorem fnm_iF {args:List AV} {r:AV} {H H':Nat->Option Arr} (ha:args.length.ble Try.f87.ntmps = true) (h:run (AFn Try.prog) ir_iF (endM res_iF r H') (z77 args H)):MFn Try.prog 87 args H r H' :=
 MFn.of_code (pv:=false) (hint:=fun _=>[]) (c:=Try.f87.body.getD .skip) (by kernel_rfl) (by kernel_rfl) Try.func87 (by kernel_rfl) (by kernel_rfl) (by kernel_rfl) (of_decide_eq_true (by kernel_rfl)) (Nat.le_of_ble_eq_true ha) (Nat.le_of_ble_eq_true (by kernel_rfl)) (z09 h)
/-! ### slices.DeleteFunc[[]percolate/api.Pair,percolate/api.Pair] -/
def r_dF_0:Reg:=⟨[],[⟨.mknil 2 58,some 4,none,[],[]⟩],[4],[],false⟩
def r_dF_1:List XOp:=[(.op [] ⟨.mv (.t 0),some 8,none,[],[]⟩),(.op [] ⟨.mv (.t 1),some 9,none,[],[]⟩),(.wcall 10 (.c (.clo 87 [] [])) [(.t 8),(.t 9)]),(.op [] ⟨.mv (.t 10),some 5,none,[],[]⟩)]
def r_dF_2:Reg:=⟨[],[⟨.mv (.t 5),some 11,none,[],[]⟩,⟨.bin .eql (.t 11) (.c (.int .i64 (-1))),some 12,none,[],[]⟩],[],[],false⟩
def r_dF_3:Reg:=⟨[],[⟨.mv (.t 0),some 13,none,[],[]⟩,⟨.mv (.t 13),some 4,none,[],[]⟩],[],[],false⟩
def t_dF_4:List ROp:=[⟨.mv (.t 5),some 14,none,[],[]⟩,⟨.bin .add (.t 14) (.c (.int .i64 1)),some 15,none,[],[]⟩,⟨.mv (.t 15),some 6,none,[],[]⟩]
def r_dF_4:Reg:=⟨[],t_dF_4,[],[],false⟩
def t_dF_5:List ROp:=[⟨.mv (.t 6),some 16,none,[],[]⟩,⟨.mv (.t 0),some 17,none,[],[]⟩,⟨.len false (.t 17),some 18,none,[],[]⟩,⟨.bin .lss (.t 16) (.t 18),some 19,none,[],[]⟩]
def r_dF_5:Reg:=⟨[],t_dF_5,[],[],false⟩
def t_dF_6:List ROp:=[⟨.mv (.t 0),some 22,none,[7],[]⟩,⟨.mv (.t 6),some 23,none,[7],[]⟩,⟨.iaddr 2 (.t 22) (.t 23),some 24,none,[7],[]⟩,⟨.loadp 2 true (.t 24),some 25,none,[7],[]⟩,⟨.alloc 2 58 (.agg [(.str ⟨#[]⟩),(.str ⟨#[]⟩)]),some 7,none,[],[]⟩,⟨.store 2 (.t 7) (.t 25),none,none,[],[]⟩]
def r_dF_6:Reg:=⟨[],t_dF_6,[7],[],false⟩
def t_dF_7:List ROp:=[⟨.mv (.t 1),some 26,none,[28],[]⟩,⟨.loadp 2 true (.t 7),some 27,none,[28],[]⟩,⟨.callv (.t 26) [(.t 27)],some 28,none,[],[]⟩,⟨.un .not (.t 28),some 29,none,[],[]⟩]
def r_dF_7:Reg:=⟨[],t_dF_7,[28],[],false⟩
def t_dF_8:List ROp:=[⟨.mv (.t 0),some 30,none,[],[]⟩,⟨.mv (.t 5),some 31,none,[],[]⟩,⟨.loadp 2 true (.t 7),some 32,none,[],[]⟩,⟨.iaddr 2 (.t 30) (.t 31),some 33,none,[],[]⟩,⟨.store 2 (.t 33) (.t 32),none,none,[],[]⟩]
def r_dF_8:Reg:=⟨[],t_dF_8,[],[],false⟩
def t_dF_9:List ROp:=[⟨.mv (.t 5),some 34,none,[],[]⟩,⟨.bin .add (.t 34) (.c (.int .i64 1)),some 35,none,[],[]⟩,⟨.mv (.t 35),some 5,none,[],[]⟩]
def r_dF_9:Reg:=⟨[],t_dF_9,[],[],false⟩
def zot:List ROp:=[⟨.mv (.t 6),some 20,none,[],[]⟩,⟨.bin .add (.t 20) (.c (.int .i64 1)),some 21,none,[],[]⟩,⟨.mv (.t 21),some 6,none,[],[]⟩]
def r_dF_10:Reg:=⟨[],zot,[],[],false⟩
def zwa:IR:=(.seq (.seq (.reg r_dF_5)
 (.cond (.t 19) .skip
 (.exit 0)))
 (.seq (.block 1 (.seq (.reg r_dF_6)
 (.seq (.reg r_dF_7)
 (.cond (.t 29) (.seq (.reg r_dF_8)
 (.reg r_dF_9))
 .skip))))
 (.reg r_dF_10)))
def zos:List ROp:=[⟨.mv (.t 0),some 36,none,[],[]⟩,⟨.mv (.t 5),some 37,none,[],[]⟩,⟨.slc true 2 (.t 36) (some (.t 37)) none,some 38,none,[],[]⟩,⟨.copy 2 (.t 38) (.c (.agg [(.str ⟨#[]⟩),(.str ⟨#[]⟩)])),none,none,[],[]⟩]
def r_dF_12:Reg:=⟨[],zos,[],[],false⟩
def zor:List ROp:=[⟨.mv (.t 0),some 39,none,[],[]⟩,⟨.mv (.t 5),some 40,none,[],[]⟩,⟨.slc true 2 (.t 39) none (some (.t 40)),some 41,none,[],[]⟩,⟨.mv (.t 41),some 4,none,[],[]⟩]
def r_dF_13:Reg:=⟨[],zor,[],[],false⟩
def ir_dF (P:Program):IR:=(.seq (.reg r_dF_0)
 (.seq (.regx P r_dF_1)
 (.seq (.seq (.reg r_dF_2)
 (.cond (.t 12) (.seq (.reg r_dF_3)
 .ret)
 .skip))
 (.seq (.seq (.reg r_dF_4)
 (.block 0 (.loop zwa)))
 (.seq (.reg r_dF_12)
 (.seq (.reg r_dF_13)
 .ret))))))
def res_dF:List RDesc:=[(.tmp 4)]
theorem e_dF_0:EqR r_dF_0 [⟨.mknil 2 58,some 4,none,[],[]⟩] [4]:=fun _ _ _=>rfl
theorem e_dF_2:EqR r_dF_2 [⟨.mv (.t 5),some 11,none,[],[]⟩,⟨.bin .eql (.t 11) (.c (.int .i64 (-1))),some 12,none,[],[]⟩] []:=fun _ _ _=>rfl
theorem e_dF_3:EqR r_dF_3 [⟨.mv (.t 0),some 13,none,[],[]⟩,⟨.mv (.t 13),some 4,none,[],[]⟩] []:=fun _ _ _=>rfl
theorem e_dF_4:EqR r_dF_4 t_dF_4 []:=fun _ _ _=>rfl
theorem e_dF_5:EqR r_dF_5 t_dF_5 []:=fun _ _ _=>rfl
theorem e_dF_6:EqR r_dF_6 t_dF_6 [7]:=fun _ _ _=>rfl
theorem e_dF_7:EqR r_dF_7 t_dF_7 [28]:=fun _ _ _=>rfl
theorem e_dF_8:EqR r_dF_8 t_dF_8 []:=fun _ _ _=>rfl
theorem e_dF_9:EqR r_dF_9 t_dF_9 []:=fun _ _ _=>rfl
theorem e_dF_10:EqR r_dF_10 zot []:=fun _ _ _=>rfl
theorem e_dF_12:EqR r_dF_12 zos []:=fun _ _ _=>rfl
theorem e_dF_13:EqR r_dF_13 zor []:=fun _ _ _=>rfl
theorem fnm_dF {args:List AV} {r:AV} {H H':Nat->Option Arr} (ha:args.length.ble Try.f79.ntmps = true) (h:run (AFn Try.prog) (ir_dF Try.prog) (endM res_dF r H') (z77 args H)):MFn Try.prog 79 args H r H' :=
 MFn.of_code (pv:=true) (hint:=fun i=>if [1].contains i then [1] else []) (c:=Try.f79.body.getD .skip) (by kernel_rfl) (by kernel_rfl) Try.func79 (by kernel_rfl) (by kernel_rfl) (by kernel_rfl) (of_decide_eq_true (by kernel_rfl)) (Nat.le_of_ble_eq_true ha) (Nat.le_of_ble_eq_true (by kernel_rfl)) (z09 h)
attribute [local go_sem ↓] ir_iF
attribute [local go_sem] res_iF e_iF_0 e_iF_1 t_iF_1 e_iF_2 e_iF_3 e_iF_4 t_iF_4 e_iF_5 e_iF_6 e_iF_8
attribute [local go_sem ↓] ir_dF
attribute [local go_sem] res_dF e_dF_0 e_dF_2 e_dF_3 e_dF_4 t_dF_4 e_dF_5 t_dF_5 e_dF_6 t_dF_6 e_dF_7 t_dF_7 e_dF_8 t_dF_8 e_dF_9 t_dF_9 e_dF_10 zot e_dF_12 zos e_dF_13 zor r_dF_1
/-- an own slice of pairs -/
def ObjP (X:List Par):Option Arr:=some ⟨2,58,X.map Par.a,0⟩
def onlyP (H0 H:Nat->Option Arr) (r:Nat) (X:List Par):Prop:=(∀ q,q ≠ r->H (q + 1000) = H0 q)∧H (r + 1000) = ObjP X
/-- the test of keys,as a function's value -/
def clS (s:Spn):AV:=.clo 80 [] [.rp [.str s.lo,.str s.hi,.bool s.op]]
def idxI (s:Spn) (l:List Par):Int:=match l.findIdx? (fun x=>s.has x.key) with
 | some k=>(k:Int)
 | none=>-1
theorem idxI_none {s:Spn} {l:List Par} (h:∀ x,x ∈ l.take l.length->s.has x.key = false):idxI s l = -1:=by
 unfold idxI
 rw [List.findIdx?_eq_none_iff.2 (fun x hx=>h x (by rw [List.take_length]; exact hx))]
theorem idxI_some {s:Spn} {l:List Par} {i:Nat} {x:Par} (h:∀ x,x ∈ l.take i->s.has x.key = false) (hx:l[i]? = some x) (hp:s.has x.key = true):idxI s l = (i:Int):=by
 unfold idxI
 have hi:=(List.getElem?_eq_some_iff.1 hx).1
 have e:l.findIdx? (fun x=>s.has x.key) = some i:=by
  rw [List.findIdx?_eq_some_iff_getElem]
  refine ⟨hi,by rw [(List.getElem?_eq_some_iff.1 hx).2]; exact hp,fun j hj=>?_⟩
  rw [h _ (List.mem_iff_getElem?.2 ⟨j,by rw [List.getElem?_take,if_pos hj]; exact List.getElem?_eq_getElem (by omega)⟩)]
  simp
 rw [e]
def iFI (s:Spn) (H:Nat->Option Arr) (r:Nat) (l:List Par) (m:Nat) (σ:St):Prop :=
 ∃ i:Nat,i≤l.length∧m = l.length - i∧σ.T 0 = .rs (r + 1000) 0 l.length∧σ.T 1 = clS s∧σ.T 7 = .int .i64 l.length∧σ.T 8 = .int .i64 i∧onlyP H σ.H r l∧∀ x,x ∈ l.take i->s.has x.key = false
set_option maxHeartbeats 4000000 in
theorem iF_ok (s:Spn) (H:Nat->Option Arr) (r:Nat) (l:List Par) (hl:l.length≤1000000) (hr:H r = ObjP l) :
  MFn Try.prog 87 [.rs r 0 l.length,clS s] H (.int .i64 (idxI s l)) H:=by
 refine fnm_iF rfl ?_
 have hs:(H r).isSome = true:=by rw [hr]; rfl
 simp (maxSteps:=9^7) only [go_sem,↓reduceIte,reduceCtorEq,Nat.reduceEqDiff,Nat.reduceBEq,Nat.reduceAdd,Nat.reduceSub,Nat.reduceMul,Nat.reduceLT,Nat.reduceLeDiff,Nat.reduceBNe,Int.reduceBEq,Int.reduceBNe,Int.reduceLT,Int.reduceLE,evW,retM,Par.a,clS,sh,hs]
 refine z0f (iFI s H r l) (k:=l.length) ⟨0,Nat.zero_le _,rfl,?_,?_,?_,?_,?_,?_⟩ ?_
 iterate 4 focus ((simp (maxSteps:=9^7) only [go_sem,↓reduceIte,reduceCtorEq,Nat.reduceEqDiff,Nat.reduceBEq,Nat.reduceAdd,Nat.reduceSub,Nat.reduceMul,Nat.reduceLT,Nat.reduceLeDiff,Nat.reduceBNe,Int.reduceBEq,Int.reduceBNe,Int.reduceLT,Int.reduceLE,evW,retM,Par.a,clS,sh]) <;> rfl)
 ·refine ⟨fun q hq=>?_,?_⟩
  iterate 2 focus ((simp (maxSteps:=9^7) only [go_sem,↓reduceIte,reduceCtorEq,Nat.reduceEqDiff,Nat.reduceBEq,Nat.reduceAdd,Nat.reduceSub,Nat.reduceMul,Nat.reduceLT,Nat.reduceLeDiff,Nat.reduceBNe,Int.reduceBEq,Int.reduceBNe,Int.reduceLT,Int.reduceLE,evW,retM,Par.a,clS,hr]) <;> rfl)
 ·intro x hx; simp at hx
 rintro k σ ⟨i,hi,rfl,t0,t1,t7,t8,hH,hno⟩
 simp only [r_iF_l7]
 have hfin:∀ q,σ.H (q + 1000) = H q:=fun q=>by
  by_cases e:q = r
  ·rw [e,hH.2,hr]
  ·exact hH.1 q e
 by_cases hlt:i < l.length
 case neg =>
  have hlt':¬ (i:Int) < (l.length:Int):=by omega
  have e:i = l.length:=by omega
  subst e
  have e2:=idxI_none hno
  rw [e2]
  simp (maxSteps:=9^7) only [go_sem,↓reduceIte,reduceCtorEq,Nat.reduceEqDiff,Nat.reduceBEq,Nat.reduceAdd,Nat.reduceSub,Nat.reduceMul,Nat.reduceLT,Nat.reduceLeDiff,Nat.reduceBNe,Int.reduceBEq,Int.reduceBNe,Int.reduceLT,Int.reduceLE,evW,retM,Par.a,clS,t7,t8,hlt']
  exact hfin
 have hlt':(i:Int) < (l.length:Int):=by omega
 obtain ⟨x,hx⟩:∃ x,l[i]? = some x:=⟨_,List.getElem?_eq_getElem hlt⟩
 have hge:=atS (f:=Par.a) hx
 have hX2:=hH.2
 have c:=wo1_ok x s
 simp only [Par.a] at hge c
 unfold ObjP at hX2
 have z0:(0:Int)≤(i:Int):=Int.natCast_nonneg _
 have r16:(r + 1000 == 16) = false:=by simp
 have r16':¬ r + 1000 = 16:=by omega
 have wd:IntKind.i64.wrap ((i:Int) + 1) = ((i + 1:Nat):Int):=by rw [z0t (by omega)]; rfl
 cases hp:s.has x.key with
 | true =>
  have e2:=idxI_some hno hx hp
  rw [e2]
  rw [hp] at c
  (repeat (first | simp (maxSteps:=9^7) only [go_sem,↓reduceIte,reduceCtorEq,Nat.reduceEqDiff,Nat.reduceBEq,Nat.reduceAdd,Nat.reduceSub,Nat.reduceMul,Nat.reduceLT,Nat.reduceLeDiff,Nat.reduceBNe,Int.reduceBEq,Int.reduceBNe,Int.reduceLT,Int.reduceLE,evW,retM,Par.a,clS,t0,t1,t7,t8,hlt',hlt,hge,hX2,z0,r16,r16',clS,Int.toNat_natCast,List.length_map] | refine z01 (c) ?_ | refine z00 (c) ?_ | refine And.intro (by omega) ?_ | refine And.intro (fun d hd=>by (repeat (rcases hd with rfl | hd; · exact ⟨rfl,rfl⟩)); cases hd) ?_))
  exact hfin
 | false =>
  rw [hp] at c
  (repeat (first | simp (maxSteps:=9^7) only [go_sem,↓reduceIte,reduceCtorEq,Nat.reduceEqDiff,Nat.reduceBEq,Nat.reduceAdd,Nat.reduceSub,Nat.reduceMul,Nat.reduceLT,Nat.reduceLeDiff,Nat.reduceBNe,Int.reduceBEq,Int.reduceBNe,Int.reduceLT,Int.reduceLE,evW,retM,Par.a,clS,t0,t1,t7,t8,hlt',hlt,hge,hX2,z0,r16,r16',clS,wd,Int.toNat_natCast,List.length_map] | refine z01 (c) ?_ | refine z00 (c) ?_ | refine And.intro (by omega) ?_ | refine And.intro (fun d hd=>by (repeat (rcases hd with rfl | hd; · exact ⟨rfl,rfl⟩)); cases hd) ?_))
  refine ⟨l.length - (i + 1),by omega,i + 1,hlt,rfl,?_,?_,?_,?_,?_,?_⟩
  iterate 4 focus ((simp (maxSteps:=9^7) only [go_sem,↓reduceIte,reduceCtorEq,Nat.reduceEqDiff,Nat.reduceBEq,Nat.reduceAdd,Nat.reduceSub,Nat.reduceMul,Nat.reduceLT,Nat.reduceLeDiff,Nat.reduceBNe,Int.reduceBEq,Int.reduceBNe,Int.reduceLT,Int.reduceLE,evW,retM,Par.a,clS,t0,t1,t7,t8,wd]) <;> rfl)
  ·refine ⟨fun q hq=>?_,?_⟩
   ·have q16:¬ q + 1000 = 16:=by omega
    have:=hH.1 q hq
    simp (maxSteps:=9^7) only [go_sem,↓reduceIte,reduceCtorEq,Nat.reduceEqDiff,Nat.reduceBEq,Nat.reduceAdd,Nat.reduceSub,Nat.reduceMul,Nat.reduceLT,Nat.reduceLeDiff,Nat.reduceBNe,Int.reduceBEq,Int.reduceBNe,Int.reduceLT,Int.reduceLE,evW,retM,Par.a,clS,q16,this]
   ·have:=hH.2
    simp (maxSteps:=9^7) only [go_sem,↓reduceIte,reduceCtorEq,Nat.reduceEqDiff,Nat.reduceBEq,Nat.reduceAdd,Nat.reduceSub,Nat.reduceMul,Nat.reduceLT,Nat.reduceLeDiff,Nat.reduceBNe,Int.reduceBEq,Int.reduceBNe,Int.reduceLT,Int.reduceLE,evW,retM,Par.a,clS,r16',this]
  ·intro y hy
   rw [List.take_add_one,hx] at hy
   rcases List.mem_append.1 hy with h | h
   ·exact hno y h
   ·simp at h; rw [h]; exact hp
/-- what is kept -/
def z6m (s:Spn) (l:List Par):List Par:=l.filter fun x=>!s.has x.key
theorem z96 {s:Spn} {l:List Par} {j:Nat} {x:Par} (hx:l[j]? = some x):z6m s (l.take (j + 1)) = if s.has x.key then z6m s (l.take j) else z6m s (l.take j) ++ [x]:=by
 unfold z6m
 rw [List.take_add_one,hx,List.filter_append]
 cases h:s.has x.key <;> simp [h]
theorem zf8 {s:Spn} {l:List Par} (h:∀ x,x ∈ l->s.has x.key = false):z6m s l = l:=by
 unfold z6m
 rw [List.filter_eq_self]
 intro x hx
 rw [h x hx]; rfl
/-- how far the deletion is: the first i of X are what is kept of the first j -/
structure Kept1 (s:Spn) (l X:List Par) (i j:Nat):Prop where
 len:X.length = l.length
 ij:i < j
 jl:j≤l.length
 head:X.take i = z6m s (l.take j)
 tail:X.drop j = l.drop j
theorem Kept1.start {s:Spn} {l:List Par} {i:Nat} {x:Par} (h:∀ x,x ∈ l.take i->s.has x.key = false) (hx:l[i]? = some x) (hp:s.has x.key = true):Kept1 s l l i (i + 1) :=
 ⟨rfl,by omega,(List.getElem?_eq_some_iff.1 hx).1,by rw [z96 hx,if_pos hp,zf8 h],rfl⟩
theorem Kept1.at_ {s:Spn} {l X:List Par} {i j:Nat} (h:Kept1 s l X i j):X[j]? = l[j]?:=by
 have:=congrArg (fun z=>z[0]?) h.tail
 simpa [List.getElem?_drop] using this
theorem Kept1.skip {s:Spn} {l X:List Par} {i j:Nat} (h:Kept1 s l X i j) {x:Par} (hx:l[j]? = some x) (hp:s.has x.key = true):Kept1 s l X i (j + 1) :=
 ⟨h.len,by have:=h.ij; omega,(List.getElem?_eq_some_iff.1 hx).1,by rw [z96 hx,if_pos hp]; exact h.head,by
  have:=congrArg (List.drop 1) h.tail
  simpa [List.drop_drop] using this⟩
theorem Kept1.keep {s:Spn} {l X:List Par} {i j:Nat} (h:Kept1 s l X i j) {x:Par} (hx:l[j]? = some x) (hp:s.has x.key = false):Kept1 s l (X.set i x) (i + 1) (j + 1):=by
 have hj:=(List.getElem?_eq_some_iff.1 hx).1
 have hij:=h.ij
 have hl:=h.len
 refine ⟨by rw [List.length_set]; exact hl,by omega,hj,?_,?_⟩
 ·rw [z96 hx,if_neg (by rw [hp]; simp),← h.head,List.take_add_one,List.take_set_of_le (Nat.le_refl _),List.getElem?_set_self (by omega)]
  rfl
 ·rw [List.drop_set_of_lt (by omega)]
  have:=congrArg (List.drop 1) h.tail
  simpa [List.drop_drop] using this
def dFI (s:Spn) (H:Nat->Option Arr) (r:Nat) (l:List Par) (m:Nat) (σ:St):Prop :=
 ∃ (i j:Nat) (X:List Par),Kept1 s l X i j∧m = l.length - j∧σ.T 0 = .rs (r + 1000) 0 l.length∧σ.T 1 = clS s∧σ.T 5 = .int .i64 i∧σ.T 6 = .int .i64 j∧onlyP H σ.H r X
def nulP2:AV:=.agg [.str ⟨#[]⟩,.str ⟨#[]⟩]
set_option maxHeartbeats 8000000 in
theorem dF_ok (s:Spn) (H:Nat->Option Arr) (r:Nat) (l:List Par) (hl:l.length≤1000000) (hr:H r = ObjP l) :
  ∃ H',MFn Try.prog 79 [.rs r 0 l.length,clS s] H (.sl ((z6m s l).map Par.a)) H':=by
 have hs:(H r).isSome = true:=by rw [hr]; rfl
 cases hI:l.findIdx? (fun x=>s.has x.key) with
 | none =>
  have e1:idxI s l = -1:=by unfold idxI; rw [hI]
  have e2:z6m s l = l:=zf8 (fun x hx=>List.findIdx?_eq_none_iff.1 hI x hx)
  rw [e2]
  refine ⟨upd H r (some ⟨2,58,l.map Par.a,l.length⟩),fnm_dF rfl ?_⟩
  simp (maxSteps:=9^7) only [go_sem,↓reduceIte,reduceCtorEq,Nat.reduceEqDiff,Nat.reduceBEq,Nat.reduceAdd,Nat.reduceSub,Nat.reduceMul,Nat.reduceLT,Nat.reduceLeDiff,Nat.reduceBNe,Int.reduceBEq,Int.reduceBNe,Int.reduceLT,Int.reduceLE,evW,retM,Par.a,clS,sh,hs]
  refine z17 (iF_ok s _ (r + 1000) l hl ?_) ?_
  ·simp (maxSteps:=9^7) only [go_sem,↓reduceIte,reduceCtorEq,Nat.reduceEqDiff,Nat.reduceBEq,Nat.reduceAdd,Nat.reduceSub,Nat.reduceMul,Nat.reduceLT,Nat.reduceLeDiff,Nat.reduceBNe,Int.reduceBEq,Int.reduceBNe,Int.reduceLT,Int.reduceLE,evW,retM,Par.a,clS,hr]
  rw [e1]
  simp (maxSteps:=9^7) only [go_sem,↓reduceIte,reduceCtorEq,Nat.reduceEqDiff,Nat.reduceBEq,Nat.reduceAdd,Nat.reduceSub,Nat.reduceMul,Nat.reduceLT,Nat.reduceLeDiff,Nat.reduceBNe,Int.reduceBEq,Int.reduceBNe,Int.reduceLT,Int.reduceLE,evW,retM,Par.a,clS,hs,hr,ObjP]
  refine ⟨(List.take_of_length_le (by rw [List.length_map]; exact Nat.le_refl _)).symm,fun q=>?_⟩
  rw [List.length_map]
 | some k =>
  obtain ⟨hk,hp,hno⟩:=List.findIdx?_eq_some_iff_getElem.1 hI
  obtain ⟨x,hx⟩:∃ x,l[k]? = some x:=⟨_,List.getElem?_eq_getElem hk⟩
  rw [(List.getElem?_eq_some_iff.1 hx).2] at hp
  have hno':∀ y,y ∈ l.take k->s.has y.key = false:=by
   intro y hy
   obtain ⟨j,hj⟩:=List.mem_iff_getElem?.1 hy
   rw [List.getElem?_take] at hj
   split at hj
   ·rename_i hjk
    have:=hno j hjk
    rw [(List.getElem?_eq_some_iff.1 hj).2] at this
    simpa using this
   ·cases hj
  have e1:idxI s l = (k:Int):=by unfold idxI; rw [hI]
  have hne:((k:Int) == -1) = false:=beq_eq_false_iff_ne.2 (by omega)
  have w1:IntKind.i64.wrap ((k:Int) + 1) = ((k + 1:Nat):Int):=by rw [z0t (by omega)]; rfl
  refine ⟨upd H r (some ⟨2,58,(z6m s l).map Par.a ++ List.replicate (l.length - (z6m s l).length) nulP2,l.length⟩),fnm_dF rfl ?_⟩
  simp (maxSteps:=9^7) only [go_sem,↓reduceIte,reduceCtorEq,Nat.reduceEqDiff,Nat.reduceBEq,Nat.reduceAdd,Nat.reduceSub,Nat.reduceMul,Nat.reduceLT,Nat.reduceLeDiff,Nat.reduceBNe,Int.reduceBEq,Int.reduceBNe,Int.reduceLT,Int.reduceLE,evW,retM,Par.a,clS,sh,hs]
  refine z17 (iF_ok s _ (r + 1000) l hl ?_) ?_
  ·simp (maxSteps:=9^7) only [go_sem,↓reduceIte,reduceCtorEq,Nat.reduceEqDiff,Nat.reduceBEq,Nat.reduceAdd,Nat.reduceSub,Nat.reduceMul,Nat.reduceLT,Nat.reduceLeDiff,Nat.reduceBNe,Int.reduceBEq,Int.reduceBNe,Int.reduceLT,Int.reduceLE,evW,retM,Par.a,clS,hr]
  rw [e1]
  simp (maxSteps:=9^7) only [go_sem,↓reduceIte,reduceCtorEq,Nat.reduceEqDiff,Nat.reduceBEq,Nat.reduceAdd,Nat.reduceSub,Nat.reduceMul,Nat.reduceLT,Nat.reduceLeDiff,Nat.reduceBNe,Int.reduceBEq,Int.reduceBNe,Int.reduceLT,Int.reduceLE,evW,retM,Par.a,clS,hs,hne,w1]
  refine z0f (dFI s H r l) (k:=l.length - (k + 1)) ⟨k,k + 1,l,Kept1.start hno' hx hp,rfl,?_,?_,?_,?_,?_⟩ ?_
  iterate 4 focus ((simp (maxSteps:=9^7) only [go_sem,↓reduceIte,reduceCtorEq,Nat.reduceEqDiff,Nat.reduceBEq,Nat.reduceAdd,Nat.reduceSub,Nat.reduceMul,Nat.reduceLT,Nat.reduceLeDiff,Nat.reduceBNe,Int.reduceBEq,Int.reduceBNe,Int.reduceLT,Int.reduceLE,evW,retM,Par.a,clS,sh,w1]) <;> rfl)
  ·refine ⟨fun q hq=>?_,?_⟩
   iterate 2 focus ((simp (maxSteps:=9^7) only [go_sem,↓reduceIte,reduceCtorEq,Nat.reduceEqDiff,Nat.reduceBEq,Nat.reduceAdd,Nat.reduceSub,Nat.reduceMul,Nat.reduceLT,Nat.reduceLeDiff,Nat.reduceBNe,Int.reduceBEq,Int.reduceBNe,Int.reduceLT,Int.reduceLE,evW,retM,Par.a,clS,hr]) <;> rfl)
  clear hx hp hno hno' e1 hne w1 hI hk
  rintro m σ ⟨i,j,X,hK,rfl,t0,t1,t5,t6,hH⟩
  simp only [zwa]
  have hX2:=hH.2
  unfold ObjP at hX2
  have hij:=hK.ij
  have hjl:=hK.jl
  have hXl:=hK.len
  have z0:∀ x:Nat,(0:Int)≤(x:Int):=fun x=>Int.natCast_nonneg x
  by_cases hlt:j < l.length
  case neg =>
   have hlt':¬ (j:Int) < (l.length:Int):=by omega
   have e:j = l.length:=by omega
   subst e
   have hkeep:X.take i = z6m s l:=by rw [hK.head,List.take_length]
   have hkl:(z6m s l).length = i:=by rw [← hkeep,List.length_take]; omega
   have hi1:(i:Int)≤(l.length:Int):=by omega
   have hi2:i≤l.length:=by omega
   simp (maxSteps:=9^7) only [go_sem,↓reduceIte,reduceCtorEq,Nat.reduceEqDiff,Nat.reduceBEq,Nat.reduceAdd,Nat.reduceSub,Nat.reduceMul,Nat.reduceLT,Nat.reduceLeDiff,Nat.reduceBNe,Int.reduceBEq,Int.reduceBNe,Int.reduceLT,Int.reduceLE,evW,retM,Par.a,clS,t0,t5,t6,hlt',hX2,z0,hi1,hi2,Int.toNat_natCast,List.length_map,hXl]
   have e0:(X.map Par.a).take i = (z6m s l).map Par.a:=by rw [← List.map_take,hkeep]
   have e1:(X.map Par.a).drop (i + (l.length - i)) = []:=List.drop_eq_nil_of_le (by rw [List.length_map]; omega)
   have e2:((z6m s l).map Par.a).length = i:=by rw [List.length_map,hkl]
   rw [e0,e1,List.append_nil]
   refine ⟨by rw [Nat.sub_zero,List.take_append_of_le_length (by omega),List.take_of_length_le (by omega)],fun q=>?_⟩
   by_cases hq:q = r
   ·rw [if_pos hq,if_pos hq,hkl,List.length_append,e2,List.length_replicate,show i + (l.length - i) = l.length by omega]
    rfl
   ·rw [if_neg hq,if_neg hq,if_neg hq]
    exact hH.1 q hq
  have hlt':(j:Int) < (l.length:Int):=by omega
  obtain ⟨x,hx⟩:∃ x,l[j]? = some x:=⟨_,List.getElem?_eq_getElem hlt⟩
  obtain ⟨y,hy⟩:∃ y,X[i]? = some y:=⟨_,List.getElem?_eq_getElem (by omega)⟩
  have hge:=atS (f:=Par.a) (hK.at_.trans hx)
  have hgi:=atS (f:=Par.a) hy
  have hset:(X.map Par.a).set i x.a = (X.set i x).map Par.a:=List.map_set.symm
  have c:=wo1_ok x s
  simp only [Par.a] at hge hgi hset c
  have hi':i < l.length:=by omega
  have hii:(i:Int) < (l.length:Int):=by omega
  have r28:(r + 1000 == 28) = false:=by simp
  have r28':¬ r + 1000 = 28:=by omega
  have r7:(r + 1000 == 7) = false:=by simp
  have r7':¬ r + 1000 = 7:=by omega
  have wj:IntKind.i64.wrap ((j:Int) + 1) = ((j + 1:Nat):Int):=by rw [z0t (by omega)]; rfl
  have wi:IntKind.i64.wrap ((i:Int) + 1) = ((i + 1:Nat):Int):=by rw [z0t (by omega)]; rfl
  cases hp:s.has x.key with
  | true =>
   rw [hp] at c
   (repeat (first | simp (maxSteps:=9^7) only [go_sem,↓reduceIte,reduceCtorEq,Nat.reduceEqDiff,Nat.reduceBEq,Nat.reduceAdd,Nat.reduceSub,Nat.reduceMul,Nat.reduceLT,Nat.reduceLeDiff,Nat.reduceBNe,Int.reduceBEq,Int.reduceBNe,Int.reduceLT,Int.reduceLE,evW,retM,Par.a,clS,t0,t1,t5,t6,hlt',hlt,hge,hX2,hXl,z0,r28,r28',r7,r7',wj,Int.toNat_natCast,List.length_map] | refine z01 (c) ?_ | refine z00 (c) ?_ | refine And.intro (by omega) ?_ | refine And.intro (fun d hd=>by (repeat (rcases hd with rfl | hd; · exact ⟨rfl,rfl⟩)); cases hd) ?_))
   refine ⟨l.length - (j + 1),by omega,i,j + 1,X,hK.skip hx hp,rfl,?_,?_,?_,?_,?_⟩
   iterate 4 focus ((simp (maxSteps:=9^7) only [go_sem,↓reduceIte,reduceCtorEq,Nat.reduceEqDiff,Nat.reduceBEq,Nat.reduceAdd,Nat.reduceSub,Nat.reduceMul,Nat.reduceLT,Nat.reduceLeDiff,Nat.reduceBNe,Int.reduceBEq,Int.reduceBNe,Int.reduceLT,Int.reduceLE,evW,retM,Par.a,clS,t0,t1,t5,t6,wj]) <;> rfl)
   ·refine ⟨fun q hq=>?_,?_⟩
    ·have q28:¬ q + 1000 = 28:=by omega
     have q7:¬ q + 1000 = 7:=by omega
     have:=hH.1 q hq
     simp (maxSteps:=9^7) only [go_sem,↓reduceIte,reduceCtorEq,Nat.reduceEqDiff,Nat.reduceBEq,Nat.reduceAdd,Nat.reduceSub,Nat.reduceMul,Nat.reduceLT,Nat.reduceLeDiff,Nat.reduceBNe,Int.reduceBEq,Int.reduceBNe,Int.reduceLT,Int.reduceLE,evW,retM,Par.a,clS,q28,q7,this]
    ·have:=hH.2
     simp (maxSteps:=9^7) only [go_sem,↓reduceIte,reduceCtorEq,Nat.reduceEqDiff,Nat.reduceBEq,Nat.reduceAdd,Nat.reduceSub,Nat.reduceMul,Nat.reduceLT,Nat.reduceLeDiff,Nat.reduceBNe,Int.reduceBEq,Int.reduceBNe,Int.reduceLT,Int.reduceLE,evW,retM,Par.a,clS,r28',r7',this]
  | false =>
   rw [hp] at c
   (repeat (first | simp (maxSteps:=9^7) only [go_sem,↓reduceIte,reduceCtorEq,Nat.reduceEqDiff,Nat.reduceBEq,Nat.reduceAdd,Nat.reduceSub,Nat.reduceMul,Nat.reduceLT,Nat.reduceLeDiff,Nat.reduceBNe,Int.reduceBEq,Int.reduceBNe,Int.reduceLT,Int.reduceLE,evW,retM,Par.a,clS,t0,t1,t5,t6,hlt',hlt,hge,hgi,hset,hi',hii,hX2,hXl,z0,r28,r28',r7,r7',wj,wi,Int.toNat_natCast,List.length_map] | refine z01 (c) ?_ | refine z00 (c) ?_ | refine And.intro (by omega) ?_ | refine And.intro (fun d hd=>by (repeat (rcases hd with rfl | hd; · exact ⟨rfl,rfl⟩)); cases hd) ?_))
   refine ⟨l.length - (j + 1),by omega,i + 1,j + 1,X.set i x,hK.keep hx hp,rfl,?_,?_,?_,?_,?_⟩
   iterate 4 focus ((simp (maxSteps:=9^7) only [go_sem,↓reduceIte,reduceCtorEq,Nat.reduceEqDiff,Nat.reduceBEq,Nat.reduceAdd,Nat.reduceSub,Nat.reduceMul,Nat.reduceLT,Nat.reduceLeDiff,Nat.reduceBNe,Int.reduceBEq,Int.reduceBNe,Int.reduceLT,Int.reduceLE,evW,retM,Par.a,clS,t0,t1,t5,wi,t6,wj]) <;> rfl)
   ·refine ⟨fun q hq=>?_,?_⟩
    ·have q28:¬ q + 1000 = 28:=by omega
     have q7:¬ q + 1000 = 7:=by omega
     have qr:¬ q = r:=hq
     have:=hH.1 q hq
     simp (maxSteps:=9^7) only [go_sem,↓reduceIte,reduceCtorEq,Nat.reduceEqDiff,Nat.reduceBEq,Nat.reduceAdd,Nat.reduceSub,Nat.reduceMul,Nat.reduceLT,Nat.reduceLeDiff,Nat.reduceBNe,Int.reduceBEq,Int.reduceBNe,Int.reduceLT,Int.reduceLE,evW,retM,Par.a,clS,q28,q7,qr,this]
    ·unfold ObjP
     simp (maxSteps:=9^7) only [go_sem,↓reduceIte,reduceCtorEq,Nat.reduceEqDiff,Nat.reduceBEq,Nat.reduceAdd,Nat.reduceSub,Nat.reduceMul,Nat.reduceLT,Nat.reduceLeDiff,Nat.reduceBNe,Int.reduceBEq,Int.reduceBNe,Int.reduceLT,Int.reduceLE,evW,retM,Par.a,clS,r28',r7',hX2,hset]
end
end Go.Proofs.Ytolocaankfcjiaa
