/-
  Part 12 of a proof: PkK2, PkP0, PkQ, PkS, PkM.
-/
import Derived.Test.YthpbokjnfloeoaaGreatDoorTL11
namespace Go.Proofs.YthpbokjnfloeoaaGreatDoor
attribute [local go_sem] Opr.a OSpn.a nul
set_option linter.unusedVariables false
section
/-
 Layer 7 on the plain machine: whether an operation may be.
-/
open Go.RowKit
set_option linter.unusedVariables false
set_option linter.unusedSimpArgs false
set_option maxRecDepth 100000
attribute [local go_sem ↓] z11 z0l
/-! ### percolate/op.Right -/
def zur:Reg:=⟨[],[⟨.box 6 39 (.t 0),some 1,none,[],[]⟩,⟨.mv (.c (.int .i64 0)),some 2,none,[],[]⟩],[1],[],false⟩
def zcu:List ROp:=[⟨.faddr 0 (.t 1),some 4,none,[15,20,25],[]⟩,⟨.load 1 false (.t 4),some 5,none,[15,20,25],[]⟩,⟨.bin .geq (.t 5) (.c (.int .i64 1)),some 6,none,[15,20,25],[]⟩,⟨.mv (.t 6),some 7,none,[15,20,25],[]⟩,⟨.faddr 0 (.t 1),some 8,(some (7,true)),[15,20,25],[]⟩,⟨.load 1 false (.t 8),some 9,(some (7,true)),[15,20,25],[]⟩,⟨.bin .leq (.t 9) (.c (.int .i64 6)),some 10,(some (7,true)),[15,20,25],[]⟩,⟨.pick (.t 7) (.t 10) (.c (.bool false)),some 11,none,[15,20,25],[]⟩,⟨.mv (.t 11),some 12,none,[15,20,25],[]⟩,⟨.faddr 1 (.t 1),some 13,(some (12,true)),[15,20,25],[]⟩,⟨.load 1 false (.t 13),some 14,(some (12,true)),[15,20,25],[]⟩,⟨.callv (.c (.clo 70 [] [])) [(.t 14)],some 15,(some (12,true)),[20,25],[]⟩,⟨.pick (.t 12) (.t 15) (.c (.bool false)),some 16,none,[20,25],[]⟩,⟨.mv (.t 16),some 17,none,[20,25],[]⟩,⟨.faddr 2 (.t 1),some 18,(some (17,true)),[20,25],[]⟩,⟨.load 1 false (.t 18),some 19,(some (17,true)),[20,25],[]⟩,⟨.callv (.c (.clo 70 [] [])) [(.t 19)],some 20,(some (17,true)),[25],[]⟩,⟨.pick (.t 17) (.t 20) (.c (.bool false)),some 21,none,[25],[]⟩,⟨.mv (.t 21),some 22,none,[25],[]⟩,⟨.faddr 4 (.t 1),some 23,(some (22,true)),[25],[]⟩,⟨.load 1 false (.t 23),some 24,(some (22,true)),[25],[]⟩,⟨.callv (.c (.clo 38 [] [])) [(.t 24)],some 25,(some (22,true)),[],[]⟩,⟨.pick (.t 22) (.t 25) (.c (.bool false)),some 26,none,[],[]⟩,⟨.mv (.t 26),some 3,none,[],[]⟩]
def zuq:Reg:=⟨[],zcu,[15,20,25],[],false⟩
def zct:List ROp:=[⟨.mv (.t 3),some 27,none,[30],[]⟩,⟨.mv (.t 27),some 28,none,[30],[]⟩,⟨.load 6 true (.t 1),some 29,(some (28,true)),[30],[]⟩,⟨.callv (.c (.clo 66 [] [])) [(.t 29)],some 30,(some (28,true)),[],[]⟩,⟨.mv (.t 30),some 31,(some (28,true)),[],[]⟩,⟨.faddr 4 (.t 1),some 32,(some (31,false)),[],[]⟩,⟨.load 1 false (.t 32),some 33,(some (31,false)),[],[]⟩,⟨.bin .eql (.t 33) (.c (.str ⟨#[]⟩)),some 34,(some (31,false)),[],[]⟩,⟨.pick (.t 31) (.c (.bool true)) (.t 34),some 35,(some (28,true)),[],[]⟩,⟨.pick (.t 28) (.t 35) (.c (.bool false)),some 36,none,[],[]⟩,⟨.mv (.t 36),some 37,none,[],[]⟩,⟨.faddr 3 (.t 1),some 38,(some (37,true)),[],[]⟩,⟨.load 1 false (.t 38),some 39,(some (37,true)),[],[]⟩,⟨.un .not (.t 39),some 40,(some (37,true)),[],[]⟩,⟨.mv (.t 40),some 41,(some (37,true)),[],[]⟩,⟨.faddr 2 (.t 1),some 42,(some (41,false)),[],[]⟩,⟨.load 1 false (.t 42),some 43,(some (41,false)),[],[]⟩,⟨.bin .eql (.t 43) (.c (.str ⟨#[]⟩)),some 44,(some (41,false)),[],[]⟩,⟨.pick (.t 41) (.c (.bool true)) (.t 44),some 45,(some (37,true)),[],[]⟩,⟨.pick (.t 37) (.t 45) (.c (.bool false)),some 46,none,[],[]⟩,⟨.mv (.t 46),some 3,none,[],[]⟩]
def zup:Reg:=⟨[],zct,[30],[],false⟩
def zcs:List ROp:=[⟨.load 6 true (.t 1),some 47,none,[48],[]⟩,⟨.callv (.c (.clo 67 [] [])) [(.t 47)],some 48,none,[],[]⟩]
def zuo:Reg:=⟨[],zcs,[48],[],false⟩
def zcr:List ROp:=[⟨.mv (.t 3),some 49,none,[52,53],[]⟩,⟨.mv (.t 49),some 50,none,[52,53],[]⟩,⟨.load 6 true (.t 1),some 51,(some (50,true)),[52,53],[]⟩,⟨.callv (.c (.clo 89 [] [])) [(.t 51)],some 52,(some (50,true)),[53],[]⟩,⟨.callv (.c (.clo 88 [] [])) [(.t 52)],some 53,(some (50,true)),[],[]⟩,⟨.un .not (.t 53),some 54,(some (50,true)),[],[]⟩,⟨.pick (.t 50) (.t 54) (.c (.bool false)),some 55,none,[],[]⟩,⟨.mv (.t 55),some 3,none,[],[]⟩]
def zun:Reg:=⟨[],zcr,[52,53],[],false⟩
def zcq:List ROp:=[⟨.mv (.t 3),some 56,none,[],[]⟩,⟨.mv (.t 56),some 57,none,[],[]⟩,⟨.faddr 2 (.t 1),some 58,(some (57,true)),[],[]⟩,⟨.load 1 false (.t 58),some 59,(some (57,true)),[],[]⟩,⟨.bin .eql (.t 59) (.c (.str ⟨#[]⟩)),some 60,(some (57,true)),[],[]⟩,⟨.pick (.t 57) (.t 60) (.c (.bool false)),some 61,none,[],[]⟩,⟨.mv (.t 61),some 62,none,[],[]⟩,⟨.faddr 3 (.t 1),some 63,(some (62,true)),[],[]⟩,⟨.load 1 false (.t 63),some 64,(some (62,true)),[],[]⟩,⟨.un .not (.t 64),some 65,(some (62,true)),[],[]⟩,⟨.pick (.t 62) (.t 65) (.c (.bool false)),some 66,none,[],[]⟩,⟨.mv (.t 66),some 3,none,[],[]⟩]
def zum:Reg:=⟨[],zcq,[],[],false⟩
def zcp:List ROp:=[⟨.faddr 0 (.t 1),some 67,none,[],[]⟩,⟨.load 1 false (.t 67),some 68,none,[],[]⟩,⟨.bin .eql (.t 68) (.c (.int .i64 6)),some 69,none,[],[]⟩]
def zul:Reg:=⟨[],zcp,[],[],false⟩
def zco:List ROp:=[⟨.mv (.t 3),some 70,none,[],[]⟩,⟨.mv (.t 70),some 71,none,[],[]⟩,⟨.faddr 5 (.t 1),some 72,(some (71,true)),[],[]⟩,⟨.load 1 false (.t 72),some 73,(some (71,true)),[],[]⟩,⟨.bin .geq (.t 73) (.c (.int .i64 1)),some 74,(some (71,true)),[],[]⟩,⟨.pick (.t 71) (.t 74) (.c (.bool false)),some 75,none,[],[]⟩,⟨.mv (.t 75),some 76,none,[],[]⟩,⟨.faddr 5 (.t 1),some 77,(some (76,true)),[],[]⟩,⟨.load 1 false (.t 77),some 78,(some (76,true)),[],[]⟩,⟨.bin .leq (.t 78) (.c (.int .i64 64)),some 79,(some (76,true)),[],[]⟩,⟨.pick (.t 76) (.t 79) (.c (.bool false)),some 80,none,[],[]⟩,⟨.mv (.t 80),some 3,none,[],[]⟩]
def zuk:Reg:=⟨[],zco,[],[],false⟩
def zcn:List ROp:=[⟨.mv (.t 3),some 81,none,[],[]⟩,⟨.mv (.t 81),some 82,none,[],[]⟩,⟨.faddr 5 (.t 1),some 83,(some (82,true)),[],[]⟩,⟨.load 1 false (.t 83),some 84,(some (82,true)),[],[]⟩,⟨.bin .eql (.t 84) (.c (.int .i64 0)),some 85,(some (82,true)),[],[]⟩,⟨.pick (.t 82) (.t 85) (.c (.bool false)),some 86,none,[],[]⟩,⟨.mv (.t 86),some 3,none,[],[]⟩]
def zuj:Reg:=⟨[],zcn,[],[],false⟩
def zui:Reg:=⟨[],[⟨.mv (.t 3),some 87,none,[],[]⟩,⟨.un .not (.t 87),some 88,none,[],[]⟩],[],[],false⟩
def zmn:Reg:=⟨[],[⟨.mv (.c (.int .i64 3)),some 2,none,[],[]⟩],[],[],false⟩
def zmm:Reg:=⟨[],[⟨.mv (.c (.int .i64 0)),some 2,none,[],[]⟩],[],[],false⟩
def zny:IR:=(.seq (.reg zur)
 (.seq (.reg zuq)
 (.seq (.reg zup)
 (.seq (.seq (.reg zuo)
 (.cond (.t 48) (.reg zun)
 (.reg zum)))
 (.seq (.seq (.reg zul)
 (.cond (.t 69) (.reg zuk)
 (.reg zuj)))
 (.seq (.seq (.reg zui)
 (.cond (.t 88) (.seq (.reg zmn)
 .ret)
 .skip))
 (.seq (.reg zmm)
 .ret)))))))
def ze0:List RDesc:=[(.tmp 2)]
theorem e_oRight_0:EqR zur [⟨.box 6 39 (.t 0),some 1,none,[],[]⟩,⟨.mv (.c (.int .i64 0)),some 2,none,[],[]⟩] [1]:=fun _ _ _=>rfl
theorem e_oRight_1:EqR zuq zcu [15,20,25]:=fun _ _ _=>rfl
theorem e_oRight_2:EqR zup zct [30]:=fun _ _ _=>rfl
theorem e_oRight_3:EqR zuo zcs [48]:=fun _ _ _=>rfl
theorem e_oRight_4:EqR zun zcr [52,53]:=fun _ _ _=>rfl
theorem e_oRight_5:EqR zum zcq []:=fun _ _ _=>rfl
theorem e_oRight_6:EqR zul zcp []:=fun _ _ _=>rfl
theorem e_oRight_7:EqR zuk zco []:=fun _ _ _=>rfl
theorem e_oRight_8:EqR zuj zcn []:=fun _ _ _=>rfl
theorem e_oRight_9:EqR zui [⟨.mv (.t 3),some 87,none,[],[]⟩,⟨.un .not (.t 87),some 88,none,[],[]⟩] []:=fun _ _ _=>rfl
theorem ybl:EqR zmn [⟨.mv (.c (.int .i64 3)),some 2,none,[],[]⟩] []:=fun _ _ _=>rfl
theorem ybk:EqR zmm [⟨.mv (.c (.int .i64 0)),some 2,none,[],[]⟩] []:=fun _ _ _=>rfl
theorem fn_oRight {args:List AV} {r:AV} (ha:args.length.ble Tryz.f68.ntmps = true) (h:run (AFn Tryz.prog) zny (endQ ze0 r) (z0b args)):AFn Tryz.prog 68 args r :=
 AFn.of_code (pv:=false) (hint:=fun _=>[]) (c:=Tryz.f68.body.getD .skip) (by kernel_rfl) (by kernel_rfl) Tryz.func68 (by kernel_rfl) (by kernel_rfl) (by kernel_rfl) (of_decide_eq_true (by kernel_rfl)) (Nat.le_of_ble_eq_true ha) (Nat.le_of_ble_eq_true (by kernel_rfl)) (z0c h)
attribute [local go_sem ↓] zny
attribute [local go_sem] ze0 e_oRight_0 e_oRight_1 zcu e_oRight_2 zct e_oRight_3 zcs e_oRight_4 zcr e_oRight_5 zcq e_oRight_6 zcp e_oRight_7 zco e_oRight_8 zcn e_oRight_9 ybl ybk
set_option maxHeartbeats 4000000 in
/-- the tests one behind the other -/
theorem z2w (o:Opr) (h:o.key.size≤9000000000):AFn Tryz.prog 68 [o.a] (.int .i64 (if o.right then 0 else 3)):=by
 refine fn_oRight rfl ?_
 obtain ⟨kind,key,hi,op,val,lim⟩:=o
 have hsp:∀ k,k = 4∨k = 6->Opr.span ⟨k,key,hi,op,val,lim⟩ = ⟨key,hi,op⟩:=by
  rintro k (rfl | rfl) <;> rfl
 have sE:∀ k,k = 4∨k = 6->AFn Tryz.prog 89 [.agg [.int .i64 k,.str key,.str hi,.bool op,.str val,.int .i64 lim]] (.agg [.str key,.str hi,.bool op]):=fun k hk=>by
  have:=oSpan_ok ⟨k,key,hi,op,val,lim⟩ h
  rw [hsp k hk] at this
  exact this
 have eE:AFn Tryz.prog 88 [.agg [.str key,.str hi,.bool op]] (.bool (!op && !leB key hi)):=sEmpty_ok ⟨key,hi,op⟩
 have out:(kind < 1∨6 < kind)->run (AFn Tryz.prog) zny (endQ ze0 (.int .i64 (if (Opr.right ⟨kind,key,hi,op,val,lim⟩) then 0 else 3))) (z0b [Opr.a ⟨kind,key,hi,op,val,lim⟩]):=by
  intro hk
  have h4:(kind == 4) = false:=by rw [beq_eq_false_iff_ne]; omega
  have h6:(kind == 6) = false:=by rw [beq_eq_false_iff_ne]; omega
  have hr:=z0t ⟨kind,key,hi,op,val,lim⟩
  simp only [Opr.a,Opr.ranged,h4,h6,Bool.or_self] at hr
  rcases hk with hk | hk
  ·have k1:¬ 1≤kind:=by omega
   have ans:Opr.right ⟨kind,key,hi,op,val,lim⟩ = false:=by unfold Opr.right; simp [k1]
   rw [ans]
   (repeat (first | simp (maxSteps:=9^7) only [go_sem,↓reduceIte,reduceCtorEq,Nat.reduceEqDiff,Nat.reduceBEq,Nat.reduceAdd,Nat.reduceSub,Nat.reduceMul,Nat.reduceLT,Nat.reduceLeDiff,Nat.reduceBNe,Int.reduceBEq,Int.reduceBNe,Int.reduceLT,Int.reduceLE,k1,h4,h6] | refine z01 (hr) ?_ | refine z00 (hr) ?_ | refine And.intro (by omega) ?_ | refine And.intro (fun d hd=>by (repeat (rcases hd with rfl | hd; · exact ⟨rfl,rfl⟩)); cases hd) ?_))
  ·have k1:1≤kind:=by omega
   have k2:¬ kind≤6:=by omega
   have ans:Opr.right ⟨kind,key,hi,op,val,lim⟩ = false:=by unfold Opr.right; simp [k1,k2]
   rw [ans]
   (repeat (first | simp (maxSteps:=9^7) only [go_sem,↓reduceIte,reduceCtorEq,Nat.reduceEqDiff,Nat.reduceBEq,Nat.reduceAdd,Nat.reduceSub,Nat.reduceMul,Nat.reduceLT,Nat.reduceLeDiff,Nat.reduceBNe,Int.reduceBEq,Int.reduceBNe,Int.reduceLT,Int.reduceLE,k1,k2,h4,h6] | refine z01 (hr) ?_ | refine z00 (hr) ?_ | refine And.intro (by omega) ?_ | refine And.intro (fun d hd=>by (repeat (rcases hd with rfl | hd; · exact ⟨rfl,rfl⟩)); cases hd) ?_))
 have sE0:=sE
 clear sE
 have hk:(kind < 1∨6 < kind)∨kind = 1∨kind = 2∨kind = 3∨kind = 4∨kind = 5∨kind = 6:=by omega
 rcases hk with hk | rfl | rfl | rfl | rfl | rfl | rfl
 ·exact out hk
 ·-- kind 1
  have hv:AFn Tryz.prog 66 [.agg [.int .i64 1,.str key,.str hi,.bool op,.str val,.int .i64 lim]] (.bool true):=z19 ⟨1,key,hi,op,val,lim⟩
  have hr:AFn Tryz.prog 67 [.agg [.int .i64 1,.str key,.str hi,.bool op,.str val,.int .i64 lim]] (.bool false):=z0t ⟨1,key,hi,op,val,lim⟩
  by_cases ha:(key.size:Int)≤16
  case neg =>
   (repeat (first | simp (maxSteps:=9^7) only [go_sem,↓reduceIte,reduceCtorEq,Nat.reduceEqDiff,Nat.reduceBEq,Nat.reduceAdd,Nat.reduceSub,Nat.reduceMul,Nat.reduceLT,Nat.reduceLeDiff,Nat.reduceBNe,Int.reduceBEq,Int.reduceBNe,Int.reduceLT,Int.reduceLE,Opr.right,Opr.valued,Opr.ranged,OSpn.empty,nilB,Int.reduceBEq,Bool.or_self,ha] | refine z01 (hv) ?_ | refine z00 (hv) ?_ | refine z01 (hr) ?_ | refine z00 (hr) ?_ | refine z01 (z02 key) ?_ | refine z00 (z02 key) ?_ | refine z01 (z02 hi) ?_ | refine z00 (z02 hi) ?_ | refine z01 (z05 val) ?_ | refine z00 (z05 val) ?_ | refine And.intro (by omega) ?_ | refine And.intro (fun d hd=>by (repeat (rcases hd with rfl | hd; · exact ⟨rfl,rfl⟩)); cases hd) ?_))
  by_cases hb:(hi.size:Int)≤16
  case neg =>
   (repeat (first | simp (maxSteps:=9^7) only [go_sem,↓reduceIte,reduceCtorEq,Nat.reduceEqDiff,Nat.reduceBEq,Nat.reduceAdd,Nat.reduceSub,Nat.reduceMul,Nat.reduceLT,Nat.reduceLeDiff,Nat.reduceBNe,Int.reduceBEq,Int.reduceBNe,Int.reduceLT,Int.reduceLE,Opr.right,Opr.valued,Opr.ranged,OSpn.empty,nilB,Int.reduceBEq,Bool.or_self,ha,hb] | refine z01 (hv) ?_ | refine z00 (hv) ?_ | refine z01 (hr) ?_ | refine z00 (hr) ?_ | refine z01 (z02 key) ?_ | refine z00 (z02 key) ?_ | refine z01 (z02 hi) ?_ | refine z00 (z02 hi) ?_ | refine z01 (z05 val) ?_ | refine z00 (z05 val) ?_ | refine And.intro (by omega) ?_ | refine And.intro (fun d hd=>by (repeat (rcases hd with rfl | hd; · exact ⟨rfl,rfl⟩)); cases hd) ?_))
  by_cases hc:(val.size:Int)≤16
  case neg =>
   (repeat (first | simp (maxSteps:=9^7) only [go_sem,↓reduceIte,reduceCtorEq,Nat.reduceEqDiff,Nat.reduceBEq,Nat.reduceAdd,Nat.reduceSub,Nat.reduceMul,Nat.reduceLT,Nat.reduceLeDiff,Nat.reduceBNe,Int.reduceBEq,Int.reduceBNe,Int.reduceLT,Int.reduceLE,Opr.right,Opr.valued,Opr.ranged,OSpn.empty,nilB,Int.reduceBEq,Bool.or_self,ha,hb,hc] | refine z01 (hv) ?_ | refine z00 (hv) ?_ | refine z01 (hr) ?_ | refine z00 (hr) ?_ | refine z01 (z02 key) ?_ | refine z00 (z02 key) ?_ | refine z01 (z02 hi) ?_ | refine z00 (z02 hi) ?_ | refine z01 (z05 val) ?_ | refine z00 (z05 val) ?_ | refine And.intro (by omega) ?_ | refine And.intro (fun d hd=>by (repeat (rcases hd with rfl | hd; · exact ⟨rfl,rfl⟩)); cases hd) ?_))
  cases hh:(hi.toList == (ByteArray.mk #[]).toList)
  case false =>
   cases op <;> (repeat (first | simp (maxSteps:=9^7) only [go_sem,↓reduceIte,reduceCtorEq,Nat.reduceEqDiff,Nat.reduceBEq,Nat.reduceAdd,Nat.reduceSub,Nat.reduceMul,Nat.reduceLT,Nat.reduceLeDiff,Nat.reduceBNe,Int.reduceBEq,Int.reduceBNe,Int.reduceLT,Int.reduceLE,Opr.right,Opr.valued,Opr.ranged,OSpn.empty,nilB,Int.reduceBEq,Bool.or_self,ha,hb,hc,hh] | refine z01 (hv) ?_ | refine z00 (hv) ?_ | refine z01 (hr) ?_ | refine z00 (hr) ?_ | refine z01 (z02 key) ?_ | refine z00 (z02 key) ?_ | refine z01 (z02 hi) ?_ | refine z00 (z02 hi) ?_ | refine z01 (z05 val) ?_ | refine z00 (z05 val) ?_ | refine And.intro (by omega) ?_ | refine And.intro (fun d hd=>by (repeat (rcases hd with rfl | hd; · exact ⟨rfl,rfl⟩)); cases hd) ?_))
  cases op <;> cases hz:(lim == 0) <;> (repeat (first | simp (maxSteps:=9^7) only [go_sem,↓reduceIte,reduceCtorEq,Nat.reduceEqDiff,Nat.reduceBEq,Nat.reduceAdd,Nat.reduceSub,Nat.reduceMul,Nat.reduceLT,Nat.reduceLeDiff,Nat.reduceBNe,Int.reduceBEq,Int.reduceBNe,Int.reduceLT,Int.reduceLE,Opr.right,Opr.valued,Opr.ranged,OSpn.empty,nilB,Int.reduceBEq,Bool.or_self,ha,hb,hc,hh,hz] | refine z01 (hv) ?_ | refine z00 (hv) ?_ | refine z01 (hr) ?_ | refine z00 (hr) ?_ | refine z01 (z02 key) ?_ | refine z00 (z02 key) ?_ | refine z01 (z02 hi) ?_ | refine z00 (z02 hi) ?_ | refine z01 (z05 val) ?_ | refine z00 (z05 val) ?_ | refine And.intro (by omega) ?_ | refine And.intro (fun d hd=>by (repeat (rcases hd with rfl | hd; · exact ⟨rfl,rfl⟩)); cases hd) ?_))
 ·-- kind 2
  have hv:AFn Tryz.prog 66 [.agg [.int .i64 2,.str key,.str hi,.bool op,.str val,.int .i64 lim]] (.bool true):=z19 ⟨2,key,hi,op,val,lim⟩
  have hr:AFn Tryz.prog 67 [.agg [.int .i64 2,.str key,.str hi,.bool op,.str val,.int .i64 lim]] (.bool false):=z0t ⟨2,key,hi,op,val,lim⟩
  by_cases ha:(key.size:Int)≤16
  case neg =>
   (repeat (first | simp (maxSteps:=9^7) only [go_sem,↓reduceIte,reduceCtorEq,Nat.reduceEqDiff,Nat.reduceBEq,Nat.reduceAdd,Nat.reduceSub,Nat.reduceMul,Nat.reduceLT,Nat.reduceLeDiff,Nat.reduceBNe,Int.reduceBEq,Int.reduceBNe,Int.reduceLT,Int.reduceLE,Opr.right,Opr.valued,Opr.ranged,OSpn.empty,nilB,Int.reduceBEq,Bool.or_self,ha] | refine z01 (hv) ?_ | refine z00 (hv) ?_ | refine z01 (hr) ?_ | refine z00 (hr) ?_ | refine z01 (z02 key) ?_ | refine z00 (z02 key) ?_ | refine z01 (z02 hi) ?_ | refine z00 (z02 hi) ?_ | refine z01 (z05 val) ?_ | refine z00 (z05 val) ?_ | refine And.intro (by omega) ?_ | refine And.intro (fun d hd=>by (repeat (rcases hd with rfl | hd; · exact ⟨rfl,rfl⟩)); cases hd) ?_))
  by_cases hb:(hi.size:Int)≤16
  case neg =>
   (repeat (first | simp (maxSteps:=9^7) only [go_sem,↓reduceIte,reduceCtorEq,Nat.reduceEqDiff,Nat.reduceBEq,Nat.reduceAdd,Nat.reduceSub,Nat.reduceMul,Nat.reduceLT,Nat.reduceLeDiff,Nat.reduceBNe,Int.reduceBEq,Int.reduceBNe,Int.reduceLT,Int.reduceLE,Opr.right,Opr.valued,Opr.ranged,OSpn.empty,nilB,Int.reduceBEq,Bool.or_self,ha,hb] | refine z01 (hv) ?_ | refine z00 (hv) ?_ | refine z01 (hr) ?_ | refine z00 (hr) ?_ | refine z01 (z02 key) ?_ | refine z00 (z02 key) ?_ | refine z01 (z02 hi) ?_ | refine z00 (z02 hi) ?_ | refine z01 (z05 val) ?_ | refine z00 (z05 val) ?_ | refine And.intro (by omega) ?_ | refine And.intro (fun d hd=>by (repeat (rcases hd with rfl | hd; · exact ⟨rfl,rfl⟩)); cases hd) ?_))
  by_cases hc:(val.size:Int)≤16
  case neg =>
   (repeat (first | simp (maxSteps:=9^7) only [go_sem,↓reduceIte,reduceCtorEq,Nat.reduceEqDiff,Nat.reduceBEq,Nat.reduceAdd,Nat.reduceSub,Nat.reduceMul,Nat.reduceLT,Nat.reduceLeDiff,Nat.reduceBNe,Int.reduceBEq,Int.reduceBNe,Int.reduceLT,Int.reduceLE,Opr.right,Opr.valued,Opr.ranged,OSpn.empty,nilB,Int.reduceBEq,Bool.or_self,ha,hb,hc] | refine z01 (hv) ?_ | refine z00 (hv) ?_ | refine z01 (hr) ?_ | refine z00 (hr) ?_ | refine z01 (z02 key) ?_ | refine z00 (z02 key) ?_ | refine z01 (z02 hi) ?_ | refine z00 (z02 hi) ?_ | refine z01 (z05 val) ?_ | refine z00 (z05 val) ?_ | refine And.intro (by omega) ?_ | refine And.intro (fun d hd=>by (repeat (rcases hd with rfl | hd; · exact ⟨rfl,rfl⟩)); cases hd) ?_))
  cases hh:(hi.toList == (ByteArray.mk #[]).toList)
  case false =>
   cases op <;> (repeat (first | simp (maxSteps:=9^7) only [go_sem,↓reduceIte,reduceCtorEq,Nat.reduceEqDiff,Nat.reduceBEq,Nat.reduceAdd,Nat.reduceSub,Nat.reduceMul,Nat.reduceLT,Nat.reduceLeDiff,Nat.reduceBNe,Int.reduceBEq,Int.reduceBNe,Int.reduceLT,Int.reduceLE,Opr.right,Opr.valued,Opr.ranged,OSpn.empty,nilB,Int.reduceBEq,Bool.or_self,ha,hb,hc,hh] | refine z01 (hv) ?_ | refine z00 (hv) ?_ | refine z01 (hr) ?_ | refine z00 (hr) ?_ | refine z01 (z02 key) ?_ | refine z00 (z02 key) ?_ | refine z01 (z02 hi) ?_ | refine z00 (z02 hi) ?_ | refine z01 (z05 val) ?_ | refine z00 (z05 val) ?_ | refine And.intro (by omega) ?_ | refine And.intro (fun d hd=>by (repeat (rcases hd with rfl | hd; · exact ⟨rfl,rfl⟩)); cases hd) ?_))
  cases op <;> cases hz:(lim == 0) <;> (repeat (first | simp (maxSteps:=9^7) only [go_sem,↓reduceIte,reduceCtorEq,Nat.reduceEqDiff,Nat.reduceBEq,Nat.reduceAdd,Nat.reduceSub,Nat.reduceMul,Nat.reduceLT,Nat.reduceLeDiff,Nat.reduceBNe,Int.reduceBEq,Int.reduceBNe,Int.reduceLT,Int.reduceLE,Opr.right,Opr.valued,Opr.ranged,OSpn.empty,nilB,Int.reduceBEq,Bool.or_self,ha,hb,hc,hh,hz] | refine z01 (hv) ?_ | refine z00 (hv) ?_ | refine z01 (hr) ?_ | refine z00 (hr) ?_ | refine z01 (z02 key) ?_ | refine z00 (z02 key) ?_ | refine z01 (z02 hi) ?_ | refine z00 (z02 hi) ?_ | refine z01 (z05 val) ?_ | refine z00 (z05 val) ?_ | refine And.intro (by omega) ?_ | refine And.intro (fun d hd=>by (repeat (rcases hd with rfl | hd; · exact ⟨rfl,rfl⟩)); cases hd) ?_))
 ·-- kind 3
  have hv:AFn Tryz.prog 66 [.agg [.int .i64 3,.str key,.str hi,.bool op,.str val,.int .i64 lim]] (.bool false):=z19 ⟨3,key,hi,op,val,lim⟩
  have hr:AFn Tryz.prog 67 [.agg [.int .i64 3,.str key,.str hi,.bool op,.str val,.int .i64 lim]] (.bool false):=z0t ⟨3,key,hi,op,val,lim⟩
  by_cases ha:(key.size:Int)≤16
  case neg =>
   (repeat (first | simp (maxSteps:=9^7) only [go_sem,↓reduceIte,reduceCtorEq,Nat.reduceEqDiff,Nat.reduceBEq,Nat.reduceAdd,Nat.reduceSub,Nat.reduceMul,Nat.reduceLT,Nat.reduceLeDiff,Nat.reduceBNe,Int.reduceBEq,Int.reduceBNe,Int.reduceLT,Int.reduceLE,Opr.right,Opr.valued,Opr.ranged,OSpn.empty,nilB,Int.reduceBEq,Bool.or_self,ha] | refine z01 (hv) ?_ | refine z00 (hv) ?_ | refine z01 (hr) ?_ | refine z00 (hr) ?_ | refine z01 (z02 key) ?_ | refine z00 (z02 key) ?_ | refine z01 (z02 hi) ?_ | refine z00 (z02 hi) ?_ | refine z01 (z05 val) ?_ | refine z00 (z05 val) ?_ | refine And.intro (by omega) ?_ | refine And.intro (fun d hd=>by (repeat (rcases hd with rfl | hd; · exact ⟨rfl,rfl⟩)); cases hd) ?_))
  by_cases hb:(hi.size:Int)≤16
  case neg =>
   (repeat (first | simp (maxSteps:=9^7) only [go_sem,↓reduceIte,reduceCtorEq,Nat.reduceEqDiff,Nat.reduceBEq,Nat.reduceAdd,Nat.reduceSub,Nat.reduceMul,Nat.reduceLT,Nat.reduceLeDiff,Nat.reduceBNe,Int.reduceBEq,Int.reduceBNe,Int.reduceLT,Int.reduceLE,Opr.right,Opr.valued,Opr.ranged,OSpn.empty,nilB,Int.reduceBEq,Bool.or_self,ha,hb] | refine z01 (hv) ?_ | refine z00 (hv) ?_ | refine z01 (hr) ?_ | refine z00 (hr) ?_ | refine z01 (z02 key) ?_ | refine z00 (z02 key) ?_ | refine z01 (z02 hi) ?_ | refine z00 (z02 hi) ?_ | refine z01 (z05 val) ?_ | refine z00 (z05 val) ?_ | refine And.intro (by omega) ?_ | refine And.intro (fun d hd=>by (repeat (rcases hd with rfl | hd; · exact ⟨rfl,rfl⟩)); cases hd) ?_))
  by_cases hc:(val.size:Int)≤16
  case neg =>
   (repeat (first | simp (maxSteps:=9^7) only [go_sem,↓reduceIte,reduceCtorEq,Nat.reduceEqDiff,Nat.reduceBEq,Nat.reduceAdd,Nat.reduceSub,Nat.reduceMul,Nat.reduceLT,Nat.reduceLeDiff,Nat.reduceBNe,Int.reduceBEq,Int.reduceBNe,Int.reduceLT,Int.reduceLE,Opr.right,Opr.valued,Opr.ranged,OSpn.empty,nilB,Int.reduceBEq,Bool.or_self,ha,hb,hc] | refine z01 (hv) ?_ | refine z00 (hv) ?_ | refine z01 (hr) ?_ | refine z00 (hr) ?_ | refine z01 (z02 key) ?_ | refine z00 (z02 key) ?_ | refine z01 (z02 hi) ?_ | refine z00 (z02 hi) ?_ | refine z01 (z05 val) ?_ | refine z00 (z05 val) ?_ | refine And.intro (by omega) ?_ | refine And.intro (fun d hd=>by (repeat (rcases hd with rfl | hd; · exact ⟨rfl,rfl⟩)); cases hd) ?_))
  cases hn:(val.toList == (ByteArray.mk #[]).toList)
  case false =>
   (repeat (first | simp (maxSteps:=9^7) only [go_sem,↓reduceIte,reduceCtorEq,Nat.reduceEqDiff,Nat.reduceBEq,Nat.reduceAdd,Nat.reduceSub,Nat.reduceMul,Nat.reduceLT,Nat.reduceLeDiff,Nat.reduceBNe,Int.reduceBEq,Int.reduceBNe,Int.reduceLT,Int.reduceLE,Opr.right,Opr.valued,Opr.ranged,OSpn.empty,nilB,Int.reduceBEq,Bool.or_self,ha,hb,hc,hn] | refine z01 (hv) ?_ | refine z00 (hv) ?_ | refine z01 (hr) ?_ | refine z00 (hr) ?_ | refine z01 (z02 key) ?_ | refine z00 (z02 key) ?_ | refine z01 (z02 hi) ?_ | refine z00 (z02 hi) ?_ | refine z01 (z05 val) ?_ | refine z00 (z05 val) ?_ | refine And.intro (by omega) ?_ | refine And.intro (fun d hd=>by (repeat (rcases hd with rfl | hd; · exact ⟨rfl,rfl⟩)); cases hd) ?_))
  cases hh:(hi.toList == (ByteArray.mk #[]).toList)
  case false =>
   cases op <;> (repeat (first | simp (maxSteps:=9^7) only [go_sem,↓reduceIte,reduceCtorEq,Nat.reduceEqDiff,Nat.reduceBEq,Nat.reduceAdd,Nat.reduceSub,Nat.reduceMul,Nat.reduceLT,Nat.reduceLeDiff,Nat.reduceBNe,Int.reduceBEq,Int.reduceBNe,Int.reduceLT,Int.reduceLE,Opr.right,Opr.valued,Opr.ranged,OSpn.empty,nilB,Int.reduceBEq,Bool.or_self,ha,hb,hc,hn,hh] | refine z01 (hv) ?_ | refine z00 (hv) ?_ | refine z01 (hr) ?_ | refine z00 (hr) ?_ | refine z01 (z02 key) ?_ | refine z00 (z02 key) ?_ | refine z01 (z02 hi) ?_ | refine z00 (z02 hi) ?_ | refine z01 (z05 val) ?_ | refine z00 (z05 val) ?_ | refine And.intro (by omega) ?_ | refine And.intro (fun d hd=>by (repeat (rcases hd with rfl | hd; · exact ⟨rfl,rfl⟩)); cases hd) ?_))
  cases op <;> cases hz:(lim == 0) <;> (repeat (first | simp (maxSteps:=9^7) only [go_sem,↓reduceIte,reduceCtorEq,Nat.reduceEqDiff,Nat.reduceBEq,Nat.reduceAdd,Nat.reduceSub,Nat.reduceMul,Nat.reduceLT,Nat.reduceLeDiff,Nat.reduceBNe,Int.reduceBEq,Int.reduceBNe,Int.reduceLT,Int.reduceLE,Opr.right,Opr.valued,Opr.ranged,OSpn.empty,nilB,Int.reduceBEq,Bool.or_self,ha,hb,hc,hn,hh,hz] | refine z01 (hv) ?_ | refine z00 (hv) ?_ | refine z01 (hr) ?_ | refine z00 (hr) ?_ | refine z01 (z02 key) ?_ | refine z00 (z02 key) ?_ | refine z01 (z02 hi) ?_ | refine z00 (z02 hi) ?_ | refine z01 (z05 val) ?_ | refine z00 (z05 val) ?_ | refine And.intro (by omega) ?_ | refine And.intro (fun d hd=>by (repeat (rcases hd with rfl | hd; · exact ⟨rfl,rfl⟩)); cases hd) ?_))
 ·-- kind 4
  have hv:AFn Tryz.prog 66 [.agg [.int .i64 4,.str key,.str hi,.bool op,.str val,.int .i64 lim]] (.bool false):=z19 ⟨4,key,hi,op,val,lim⟩
  have hr:AFn Tryz.prog 67 [.agg [.int .i64 4,.str key,.str hi,.bool op,.str val,.int .i64 lim]] (.bool true):=z0t ⟨4,key,hi,op,val,lim⟩
  have sE:=sE0 4 (by omega)
  by_cases ha:(key.size:Int)≤16
  case neg =>
   (repeat (first | simp (maxSteps:=9^7) only [go_sem,↓reduceIte,reduceCtorEq,Nat.reduceEqDiff,Nat.reduceBEq,Nat.reduceAdd,Nat.reduceSub,Nat.reduceMul,Nat.reduceLT,Nat.reduceLeDiff,Nat.reduceBNe,Int.reduceBEq,Int.reduceBNe,Int.reduceLT,Int.reduceLE,Opr.right,Opr.valued,Opr.ranged,OSpn.empty,nilB,Int.reduceBEq,Bool.or_self,ha] | refine z01 (hv) ?_ | refine z00 (hv) ?_ | refine z01 (hr) ?_ | refine z00 (hr) ?_ | refine z01 (z02 key) ?_ | refine z00 (z02 key) ?_ | refine z01 (z02 hi) ?_ | refine z00 (z02 hi) ?_ | refine z01 (z05 val) ?_ | refine z00 (z05 val) ?_ | refine z01 (sE) ?_ | refine z00 (sE) ?_ | refine z01 (eE) ?_ | refine z00 (eE) ?_ | refine And.intro (by omega) ?_ | refine And.intro (fun d hd=>by (repeat (rcases hd with rfl | hd; · exact ⟨rfl,rfl⟩)); cases hd) ?_))
  by_cases hb:(hi.size:Int)≤16
  case neg =>
   (repeat (first | simp (maxSteps:=9^7) only [go_sem,↓reduceIte,reduceCtorEq,Nat.reduceEqDiff,Nat.reduceBEq,Nat.reduceAdd,Nat.reduceSub,Nat.reduceMul,Nat.reduceLT,Nat.reduceLeDiff,Nat.reduceBNe,Int.reduceBEq,Int.reduceBNe,Int.reduceLT,Int.reduceLE,Opr.right,Opr.valued,Opr.ranged,OSpn.empty,nilB,Int.reduceBEq,Bool.or_self,ha,hb] | refine z01 (hv) ?_ | refine z00 (hv) ?_ | refine z01 (hr) ?_ | refine z00 (hr) ?_ | refine z01 (z02 key) ?_ | refine z00 (z02 key) ?_ | refine z01 (z02 hi) ?_ | refine z00 (z02 hi) ?_ | refine z01 (z05 val) ?_ | refine z00 (z05 val) ?_ | refine z01 (sE) ?_ | refine z00 (sE) ?_ | refine z01 (eE) ?_ | refine z00 (eE) ?_ | refine And.intro (by omega) ?_ | refine And.intro (fun d hd=>by (repeat (rcases hd with rfl | hd; · exact ⟨rfl,rfl⟩)); cases hd) ?_))
  by_cases hc:(val.size:Int)≤16
  case neg =>
   (repeat (first | simp (maxSteps:=9^7) only [go_sem,↓reduceIte,reduceCtorEq,Nat.reduceEqDiff,Nat.reduceBEq,Nat.reduceAdd,Nat.reduceSub,Nat.reduceMul,Nat.reduceLT,Nat.reduceLeDiff,Nat.reduceBNe,Int.reduceBEq,Int.reduceBNe,Int.reduceLT,Int.reduceLE,Opr.right,Opr.valued,Opr.ranged,OSpn.empty,nilB,Int.reduceBEq,Bool.or_self,ha,hb,hc] | refine z01 (hv) ?_ | refine z00 (hv) ?_ | refine z01 (hr) ?_ | refine z00 (hr) ?_ | refine z01 (z02 key) ?_ | refine z00 (z02 key) ?_ | refine z01 (z02 hi) ?_ | refine z00 (z02 hi) ?_ | refine z01 (z05 val) ?_ | refine z00 (z05 val) ?_ | refine z01 (sE) ?_ | refine z00 (sE) ?_ | refine z01 (eE) ?_ | refine z00 (eE) ?_ | refine And.intro (by omega) ?_ | refine And.intro (fun d hd=>by (repeat (rcases hd with rfl | hd; · exact ⟨rfl,rfl⟩)); cases hd) ?_))
  cases hn:(val.toList == (ByteArray.mk #[]).toList)
  case false =>
   (repeat (first | simp (maxSteps:=9^7) only [go_sem,↓reduceIte,reduceCtorEq,Nat.reduceEqDiff,Nat.reduceBEq,Nat.reduceAdd,Nat.reduceSub,Nat.reduceMul,Nat.reduceLT,Nat.reduceLeDiff,Nat.reduceBNe,Int.reduceBEq,Int.reduceBNe,Int.reduceLT,Int.reduceLE,Opr.right,Opr.valued,Opr.ranged,OSpn.empty,nilB,Int.reduceBEq,Bool.or_self,ha,hb,hc,hn] | refine z01 (hv) ?_ | refine z00 (hv) ?_ | refine z01 (hr) ?_ | refine z00 (hr) ?_ | refine z01 (z02 key) ?_ | refine z00 (z02 key) ?_ | refine z01 (z02 hi) ?_ | refine z00 (z02 hi) ?_ | refine z01 (z05 val) ?_ | refine z00 (z05 val) ?_ | refine z01 (sE) ?_ | refine z00 (sE) ?_ | refine z01 (eE) ?_ | refine z00 (eE) ?_ | refine And.intro (by omega) ?_ | refine And.intro (fun d hd=>by (repeat (rcases hd with rfl | hd; · exact ⟨rfl,rfl⟩)); cases hd) ?_))
  cases op
  case false =>
   cases hl:leB key hi <;> cases hz:(lim == 0) <;> (repeat (first | simp (maxSteps:=9^7) only [go_sem,↓reduceIte,reduceCtorEq,Nat.reduceEqDiff,Nat.reduceBEq,Nat.reduceAdd,Nat.reduceSub,Nat.reduceMul,Nat.reduceLT,Nat.reduceLeDiff,Nat.reduceBNe,Int.reduceBEq,Int.reduceBNe,Int.reduceLT,Int.reduceLE,Opr.right,Opr.valued,Opr.ranged,OSpn.empty,nilB,Int.reduceBEq,Bool.or_self,ha,hb,hc,hn,hl,hz] | refine z01 (hv) ?_ | refine z00 (hv) ?_ | refine z01 (hr) ?_ | refine z00 (hr) ?_ | refine z01 (z02 key) ?_ | refine z00 (z02 key) ?_ | refine z01 (z02 hi) ?_ | refine z00 (z02 hi) ?_ | refine z01 (z05 val) ?_ | refine z00 (z05 val) ?_ | refine z01 (sE) ?_ | refine z00 (sE) ?_ | refine z01 (eE) ?_ | refine z00 (eE) ?_ | refine And.intro (by omega) ?_ | refine And.intro (fun d hd=>by (repeat (rcases hd with rfl | hd; · exact ⟨rfl,rfl⟩)); cases hd) ?_))
  cases hh:(hi.toList == (ByteArray.mk #[]).toList)
  case false =>
   (repeat (first | simp (maxSteps:=9^7) only [go_sem,↓reduceIte,reduceCtorEq,Nat.reduceEqDiff,Nat.reduceBEq,Nat.reduceAdd,Nat.reduceSub,Nat.reduceMul,Nat.reduceLT,Nat.reduceLeDiff,Nat.reduceBNe,Int.reduceBEq,Int.reduceBNe,Int.reduceLT,Int.reduceLE,Opr.right,Opr.valued,Opr.ranged,OSpn.empty,nilB,Int.reduceBEq,Bool.or_self,ha,hb,hc,hn,hh] | refine z01 (hv) ?_ | refine z00 (hv) ?_ | refine z01 (hr) ?_ | refine z00 (hr) ?_ | refine z01 (z02 key) ?_ | refine z00 (z02 key) ?_ | refine z01 (z02 hi) ?_ | refine z00 (z02 hi) ?_ | refine z01 (z05 val) ?_ | refine z00 (z05 val) ?_ | refine z01 (sE) ?_ | refine z00 (sE) ?_ | refine z01 (eE) ?_ | refine z00 (eE) ?_ | refine And.intro (by omega) ?_ | refine And.intro (fun d hd=>by (repeat (rcases hd with rfl | hd; · exact ⟨rfl,rfl⟩)); cases hd) ?_))
  cases hz:(lim == 0) <;> (repeat (first | simp (maxSteps:=9^7) only [go_sem,↓reduceIte,reduceCtorEq,Nat.reduceEqDiff,Nat.reduceBEq,Nat.reduceAdd,Nat.reduceSub,Nat.reduceMul,Nat.reduceLT,Nat.reduceLeDiff,Nat.reduceBNe,Int.reduceBEq,Int.reduceBNe,Int.reduceLT,Int.reduceLE,Opr.right,Opr.valued,Opr.ranged,OSpn.empty,nilB,Int.reduceBEq,Bool.or_self,ha,hb,hc,hn,hh,hz] | refine z01 (hv) ?_ | refine z00 (hv) ?_ | refine z01 (hr) ?_ | refine z00 (hr) ?_ | refine z01 (z02 key) ?_ | refine z00 (z02 key) ?_ | refine z01 (z02 hi) ?_ | refine z00 (z02 hi) ?_ | refine z01 (z05 val) ?_ | refine z00 (z05 val) ?_ | refine z01 (sE) ?_ | refine z00 (sE) ?_ | refine z01 (eE) ?_ | refine z00 (eE) ?_ | refine And.intro (by omega) ?_ | refine And.intro (fun d hd=>by (repeat (rcases hd with rfl | hd; · exact ⟨rfl,rfl⟩)); cases hd) ?_))
 ·-- kind 5
  have hv:AFn Tryz.prog 66 [.agg [.int .i64 5,.str key,.str hi,.bool op,.str val,.int .i64 lim]] (.bool false):=z19 ⟨5,key,hi,op,val,lim⟩
  have hr:AFn Tryz.prog 67 [.agg [.int .i64 5,.str key,.str hi,.bool op,.str val,.int .i64 lim]] (.bool false):=z0t ⟨5,key,hi,op,val,lim⟩
  by_cases ha:(key.size:Int)≤16
  case neg =>
   (repeat (first | simp (maxSteps:=9^7) only [go_sem,↓reduceIte,reduceCtorEq,Nat.reduceEqDiff,Nat.reduceBEq,Nat.reduceAdd,Nat.reduceSub,Nat.reduceMul,Nat.reduceLT,Nat.reduceLeDiff,Nat.reduceBNe,Int.reduceBEq,Int.reduceBNe,Int.reduceLT,Int.reduceLE,Opr.right,Opr.valued,Opr.ranged,OSpn.empty,nilB,Int.reduceBEq,Bool.or_self,ha] | refine z01 (hv) ?_ | refine z00 (hv) ?_ | refine z01 (hr) ?_ | refine z00 (hr) ?_ | refine z01 (z02 key) ?_ | refine z00 (z02 key) ?_ | refine z01 (z02 hi) ?_ | refine z00 (z02 hi) ?_ | refine z01 (z05 val) ?_ | refine z00 (z05 val) ?_ | refine And.intro (by omega) ?_ | refine And.intro (fun d hd=>by (repeat (rcases hd with rfl | hd; · exact ⟨rfl,rfl⟩)); cases hd) ?_))
  by_cases hb:(hi.size:Int)≤16
  case neg =>
   (repeat (first | simp (maxSteps:=9^7) only [go_sem,↓reduceIte,reduceCtorEq,Nat.reduceEqDiff,Nat.reduceBEq,Nat.reduceAdd,Nat.reduceSub,Nat.reduceMul,Nat.reduceLT,Nat.reduceLeDiff,Nat.reduceBNe,Int.reduceBEq,Int.reduceBNe,Int.reduceLT,Int.reduceLE,Opr.right,Opr.valued,Opr.ranged,OSpn.empty,nilB,Int.reduceBEq,Bool.or_self,ha,hb] | refine z01 (hv) ?_ | refine z00 (hv) ?_ | refine z01 (hr) ?_ | refine z00 (hr) ?_ | refine z01 (z02 key) ?_ | refine z00 (z02 key) ?_ | refine z01 (z02 hi) ?_ | refine z00 (z02 hi) ?_ | refine z01 (z05 val) ?_ | refine z00 (z05 val) ?_ | refine And.intro (by omega) ?_ | refine And.intro (fun d hd=>by (repeat (rcases hd with rfl | hd; · exact ⟨rfl,rfl⟩)); cases hd) ?_))
  by_cases hc:(val.size:Int)≤16
  case neg =>
   (repeat (first | simp (maxSteps:=9^7) only [go_sem,↓reduceIte,reduceCtorEq,Nat.reduceEqDiff,Nat.reduceBEq,Nat.reduceAdd,Nat.reduceSub,Nat.reduceMul,Nat.reduceLT,Nat.reduceLeDiff,Nat.reduceBNe,Int.reduceBEq,Int.reduceBNe,Int.reduceLT,Int.reduceLE,Opr.right,Opr.valued,Opr.ranged,OSpn.empty,nilB,Int.reduceBEq,Bool.or_self,ha,hb,hc] | refine z01 (hv) ?_ | refine z00 (hv) ?_ | refine z01 (hr) ?_ | refine z00 (hr) ?_ | refine z01 (z02 key) ?_ | refine z00 (z02 key) ?_ | refine z01 (z02 hi) ?_ | refine z00 (z02 hi) ?_ | refine z01 (z05 val) ?_ | refine z00 (z05 val) ?_ | refine And.intro (by omega) ?_ | refine And.intro (fun d hd=>by (repeat (rcases hd with rfl | hd; · exact ⟨rfl,rfl⟩)); cases hd) ?_))
  cases hn:(val.toList == (ByteArray.mk #[]).toList)
  case false =>
   (repeat (first | simp (maxSteps:=9^7) only [go_sem,↓reduceIte,reduceCtorEq,Nat.reduceEqDiff,Nat.reduceBEq,Nat.reduceAdd,Nat.reduceSub,Nat.reduceMul,Nat.reduceLT,Nat.reduceLeDiff,Nat.reduceBNe,Int.reduceBEq,Int.reduceBNe,Int.reduceLT,Int.reduceLE,Opr.right,Opr.valued,Opr.ranged,OSpn.empty,nilB,Int.reduceBEq,Bool.or_self,ha,hb,hc,hn] | refine z01 (hv) ?_ | refine z00 (hv) ?_ | refine z01 (hr) ?_ | refine z00 (hr) ?_ | refine z01 (z02 key) ?_ | refine z00 (z02 key) ?_ | refine z01 (z02 hi) ?_ | refine z00 (z02 hi) ?_ | refine z01 (z05 val) ?_ | refine z00 (z05 val) ?_ | refine And.intro (by omega) ?_ | refine And.intro (fun d hd=>by (repeat (rcases hd with rfl | hd; · exact ⟨rfl,rfl⟩)); cases hd) ?_))
  cases hh:(hi.toList == (ByteArray.mk #[]).toList)
  case false =>
   cases op <;> (repeat (first | simp (maxSteps:=9^7) only [go_sem,↓reduceIte,reduceCtorEq,Nat.reduceEqDiff,Nat.reduceBEq,Nat.reduceAdd,Nat.reduceSub,Nat.reduceMul,Nat.reduceLT,Nat.reduceLeDiff,Nat.reduceBNe,Int.reduceBEq,Int.reduceBNe,Int.reduceLT,Int.reduceLE,Opr.right,Opr.valued,Opr.ranged,OSpn.empty,nilB,Int.reduceBEq,Bool.or_self,ha,hb,hc,hn,hh] | refine z01 (hv) ?_ | refine z00 (hv) ?_ | refine z01 (hr) ?_ | refine z00 (hr) ?_ | refine z01 (z02 key) ?_ | refine z00 (z02 key) ?_ | refine z01 (z02 hi) ?_ | refine z00 (z02 hi) ?_ | refine z01 (z05 val) ?_ | refine z00 (z05 val) ?_ | refine And.intro (by omega) ?_ | refine And.intro (fun d hd=>by (repeat (rcases hd with rfl | hd; · exact ⟨rfl,rfl⟩)); cases hd) ?_))
  cases op <;> cases hz:(lim == 0) <;> (repeat (first | simp (maxSteps:=9^7) only [go_sem,↓reduceIte,reduceCtorEq,Nat.reduceEqDiff,Nat.reduceBEq,Nat.reduceAdd,Nat.reduceSub,Nat.reduceMul,Nat.reduceLT,Nat.reduceLeDiff,Nat.reduceBNe,Int.reduceBEq,Int.reduceBNe,Int.reduceLT,Int.reduceLE,Opr.right,Opr.valued,Opr.ranged,OSpn.empty,nilB,Int.reduceBEq,Bool.or_self,ha,hb,hc,hn,hh,hz] | refine z01 (hv) ?_ | refine z00 (hv) ?_ | refine z01 (hr) ?_ | refine z00 (hr) ?_ | refine z01 (z02 key) ?_ | refine z00 (z02 key) ?_ | refine z01 (z02 hi) ?_ | refine z00 (z02 hi) ?_ | refine z01 (z05 val) ?_ | refine z00 (z05 val) ?_ | refine And.intro (by omega) ?_ | refine And.intro (fun d hd=>by (repeat (rcases hd with rfl | hd; · exact ⟨rfl,rfl⟩)); cases hd) ?_))
 ·-- kind 6
  have hv:AFn Tryz.prog 66 [.agg [.int .i64 6,.str key,.str hi,.bool op,.str val,.int .i64 lim]] (.bool false):=z19 ⟨6,key,hi,op,val,lim⟩
  have hr:AFn Tryz.prog 67 [.agg [.int .i64 6,.str key,.str hi,.bool op,.str val,.int .i64 lim]] (.bool true):=z0t ⟨6,key,hi,op,val,lim⟩
  have sE:=sE0 6 (by omega)
  by_cases ha:(key.size:Int)≤16
  case neg =>
   (repeat (first | simp (maxSteps:=9^7) only [go_sem,↓reduceIte,reduceCtorEq,Nat.reduceEqDiff,Nat.reduceBEq,Nat.reduceAdd,Nat.reduceSub,Nat.reduceMul,Nat.reduceLT,Nat.reduceLeDiff,Nat.reduceBNe,Int.reduceBEq,Int.reduceBNe,Int.reduceLT,Int.reduceLE,Opr.right,Opr.valued,Opr.ranged,OSpn.empty,nilB,Int.reduceBEq,Bool.or_self,ha] | refine z01 (hv) ?_ | refine z00 (hv) ?_ | refine z01 (hr) ?_ | refine z00 (hr) ?_ | refine z01 (z02 key) ?_ | refine z00 (z02 key) ?_ | refine z01 (z02 hi) ?_ | refine z00 (z02 hi) ?_ | refine z01 (z05 val) ?_ | refine z00 (z05 val) ?_ | refine z01 (sE) ?_ | refine z00 (sE) ?_ | refine z01 (eE) ?_ | refine z00 (eE) ?_ | refine And.intro (by omega) ?_ | refine And.intro (fun d hd=>by (repeat (rcases hd with rfl | hd; · exact ⟨rfl,rfl⟩)); cases hd) ?_))
  by_cases hb:(hi.size:Int)≤16
  case neg =>
   (repeat (first | simp (maxSteps:=9^7) only [go_sem,↓reduceIte,reduceCtorEq,Nat.reduceEqDiff,Nat.reduceBEq,Nat.reduceAdd,Nat.reduceSub,Nat.reduceMul,Nat.reduceLT,Nat.reduceLeDiff,Nat.reduceBNe,Int.reduceBEq,Int.reduceBNe,Int.reduceLT,Int.reduceLE,Opr.right,Opr.valued,Opr.ranged,OSpn.empty,nilB,Int.reduceBEq,Bool.or_self,ha,hb] | refine z01 (hv) ?_ | refine z00 (hv) ?_ | refine z01 (hr) ?_ | refine z00 (hr) ?_ | refine z01 (z02 key) ?_ | refine z00 (z02 key) ?_ | refine z01 (z02 hi) ?_ | refine z00 (z02 hi) ?_ | refine z01 (z05 val) ?_ | refine z00 (z05 val) ?_ | refine z01 (sE) ?_ | refine z00 (sE) ?_ | refine z01 (eE) ?_ | refine z00 (eE) ?_ | refine And.intro (by omega) ?_ | refine And.intro (fun d hd=>by (repeat (rcases hd with rfl | hd; · exact ⟨rfl,rfl⟩)); cases hd) ?_))
  by_cases hc:(val.size:Int)≤16
  case neg =>
   (repeat (first | simp (maxSteps:=9^7) only [go_sem,↓reduceIte,reduceCtorEq,Nat.reduceEqDiff,Nat.reduceBEq,Nat.reduceAdd,Nat.reduceSub,Nat.reduceMul,Nat.reduceLT,Nat.reduceLeDiff,Nat.reduceBNe,Int.reduceBEq,Int.reduceBNe,Int.reduceLT,Int.reduceLE,Opr.right,Opr.valued,Opr.ranged,OSpn.empty,nilB,Int.reduceBEq,Bool.or_self,ha,hb,hc] | refine z01 (hv) ?_ | refine z00 (hv) ?_ | refine z01 (hr) ?_ | refine z00 (hr) ?_ | refine z01 (z02 key) ?_ | refine z00 (z02 key) ?_ | refine z01 (z02 hi) ?_ | refine z00 (z02 hi) ?_ | refine z01 (z05 val) ?_ | refine z00 (z05 val) ?_ | refine z01 (sE) ?_ | refine z00 (sE) ?_ | refine z01 (eE) ?_ | refine z00 (eE) ?_ | refine And.intro (by omega) ?_ | refine And.intro (fun d hd=>by (repeat (rcases hd with rfl | hd; · exact ⟨rfl,rfl⟩)); cases hd) ?_))
  cases hn:(val.toList == (ByteArray.mk #[]).toList)
  case false =>
   (repeat (first | simp (maxSteps:=9^7) only [go_sem,↓reduceIte,reduceCtorEq,Nat.reduceEqDiff,Nat.reduceBEq,Nat.reduceAdd,Nat.reduceSub,Nat.reduceMul,Nat.reduceLT,Nat.reduceLeDiff,Nat.reduceBNe,Int.reduceBEq,Int.reduceBNe,Int.reduceLT,Int.reduceLE,Opr.right,Opr.valued,Opr.ranged,OSpn.empty,nilB,Int.reduceBEq,Bool.or_self,ha,hb,hc,hn] | refine z01 (hv) ?_ | refine z00 (hv) ?_ | refine z01 (hr) ?_ | refine z00 (hr) ?_ | refine z01 (z02 key) ?_ | refine z00 (z02 key) ?_ | refine z01 (z02 hi) ?_ | refine z00 (z02 hi) ?_ | refine z01 (z05 val) ?_ | refine z00 (z05 val) ?_ | refine z01 (sE) ?_ | refine z00 (sE) ?_ | refine z01 (eE) ?_ | refine z00 (eE) ?_ | refine And.intro (by omega) ?_ | refine And.intro (fun d hd=>by (repeat (rcases hd with rfl | hd; · exact ⟨rfl,rfl⟩)); cases hd) ?_))
  cases op
  case false =>
   cases hl:leB key hi <;> by_cases l1:1≤lim <;> by_cases l2:lim≤64 <;> (repeat (first | simp (maxSteps:=9^7) only [go_sem,↓reduceIte,reduceCtorEq,Nat.reduceEqDiff,Nat.reduceBEq,Nat.reduceAdd,Nat.reduceSub,Nat.reduceMul,Nat.reduceLT,Nat.reduceLeDiff,Nat.reduceBNe,Int.reduceBEq,Int.reduceBNe,Int.reduceLT,Int.reduceLE,Opr.right,Opr.valued,Opr.ranged,OSpn.empty,nilB,Int.reduceBEq,Bool.or_self,ha,hb,hc,hn,hl ,l1,l2] | refine z01 (hv) ?_ | refine z00 (hv) ?_ | refine z01 (hr) ?_ | refine z00 (hr) ?_ | refine z01 (z02 key) ?_ | refine z00 (z02 key) ?_ | refine z01 (z02 hi) ?_ | refine z00 (z02 hi) ?_ | refine z01 (z05 val) ?_ | refine z00 (z05 val) ?_ | refine z01 (sE) ?_ | refine z00 (sE) ?_ | refine z01 (eE) ?_ | refine z00 (eE) ?_ | refine And.intro (by omega) ?_ | refine And.intro (fun d hd=>by (repeat (rcases hd with rfl | hd; · exact ⟨rfl,rfl⟩)); cases hd) ?_))
  cases hh:(hi.toList == (ByteArray.mk #[]).toList)
  case false =>
   (repeat (first | simp (maxSteps:=9^7) only [go_sem,↓reduceIte,reduceCtorEq,Nat.reduceEqDiff,Nat.reduceBEq,Nat.reduceAdd,Nat.reduceSub,Nat.reduceMul,Nat.reduceLT,Nat.reduceLeDiff,Nat.reduceBNe,Int.reduceBEq,Int.reduceBNe,Int.reduceLT,Int.reduceLE,Opr.right,Opr.valued,Opr.ranged,OSpn.empty,nilB,Int.reduceBEq,Bool.or_self,ha,hb,hc,hn,hh] | refine z01 (hv) ?_ | refine z00 (hv) ?_ | refine z01 (hr) ?_ | refine z00 (hr) ?_ | refine z01 (z02 key) ?_ | refine z00 (z02 key) ?_ | refine z01 (z02 hi) ?_ | refine z00 (z02 hi) ?_ | refine z01 (z05 val) ?_ | refine z00 (z05 val) ?_ | refine z01 (sE) ?_ | refine z00 (sE) ?_ | refine z01 (eE) ?_ | refine z00 (eE) ?_ | refine And.intro (by omega) ?_ | refine And.intro (fun d hd=>by (repeat (rcases hd with rfl | hd; · exact ⟨rfl,rfl⟩)); cases hd) ?_))
  by_cases l1:1≤lim <;> by_cases l2:lim≤64 <;> (repeat (first | simp (maxSteps:=9^7) only [go_sem,↓reduceIte,reduceCtorEq,Nat.reduceEqDiff,Nat.reduceBEq,Nat.reduceAdd,Nat.reduceSub,Nat.reduceMul,Nat.reduceLT,Nat.reduceLeDiff,Nat.reduceBNe,Int.reduceBEq,Int.reduceBNe,Int.reduceLT,Int.reduceLE,Opr.right,Opr.valued,Opr.ranged,OSpn.empty,nilB,Int.reduceBEq,Bool.or_self,ha,hb,hc,hn,hh ,l1,l2] | refine z01 (hv) ?_ | refine z00 (hv) ?_ | refine z01 (hr) ?_ | refine z00 (hr) ?_ | refine z01 (z02 key) ?_ | refine z00 (z02 key) ?_ | refine z01 (z02 hi) ?_ | refine z00 (z02 hi) ?_ | refine z01 (z05 val) ?_ | refine z00 (z05 val) ?_ | refine z01 (sE) ?_ | refine z00 (sE) ?_ | refine z01 (eE) ?_ | refine z00 (eE) ?_ | refine And.intro (by omega) ?_ | refine And.intro (fun d hd=>by (repeat (rcases hd with rfl | hd; · exact ⟨rfl,rfl⟩)); cases hd) ?_))
end
section
/-
 Layer 7: what holds of an operation that may be.
-/
open Go.RowKit
set_option linter.unusedVariables false
set_option linter.unusedSimpArgs false
set_option maxRecDepth 100000
/-- what holds of an operation that may be -/
theorem z8o {o:Opr} (h:o.right = true):1≤o.kind∧o.kind≤6∧o.key.size≤16∧o.hi.size≤16∧o.val.size≤16∧(o.valued || nilB o.val) = true∧(!o.op || nilB o.hi) = true ∧
  (if o.ranged then !(OSpn.empty ⟨o.key,o.hi,o.op⟩) else nilB o.hi && !o.op) = true∧(if o.kind == 6 then decide (1≤o.lim) && decide (o.lim≤64) else o.lim == 0) = true:=by
 unfold Opr.right at h
 simp only [Bool.and_eq_true,decide_eq_true_eq] at h
 obtain ⟨⟨⟨⟨⟨⟨⟨⟨h1,h2⟩,h3⟩,h4⟩,h5⟩,h6⟩,h7⟩,h8⟩,h9⟩:=h
 refine ⟨h1,h2,by omega,by omega,by omega,h6,h7,?_,?_⟩
 ·cases hr:o.ranged <;> rw [hr] at h8 <;> simpa using h8
 ·cases hr:(o.kind == 6) <;> rw [hr] at h9 <;> simpa using h9
theorem y9b {s:ByteArray} (h:s.size = 0):s = ⟨#[]⟩:=by
 cases s; congr 1; exact Array.eq_empty_of_size_eq_zero h
theorem z40 {s:ByteArray} (h:nilB s = true):s = ⟨#[]⟩:=by
 unfold nilB nul at h
 rw [z6k] at h
 exact y9b (by simpa using h)
end
section
/-
 Layer 7 on the plain machine: an operation as a line: the code,walked.
-/
open Go.RowKit
set_option linter.unusedVariables false
set_option linter.unusedSimpArgs false
set_option maxRecDepth 100000
attribute [local go_sem ↓] z11 z0l
def kindW (k:Int):ByteArray:=if k == 1 then ⟨#[112,117,116]⟩ else if k == 2 then ⟨#[97,100,100]⟩ else if k == 3 then ⟨#[100,101,108]⟩ else if k == 4 then ⟨#[119,105,112,101]⟩ else if k == 5 then ⟨#[103,101,116]⟩ else ⟨#[115,99,97,110]⟩
/-- the words of an operation that may be -/
def lineW (o:Opr):List ByteArray :=
 [kindW o.kind,z04 o.key] ++ (if o.valued then [z04 o.val] else if o.ranged then (if o.op then [⟨#[42]⟩] else [z04 o.hi]) else []) ++ (if o.kind == 6 then [decS o.lim] else [])
def za1 (o:Opr):ByteArray:=z15 (lineW o) ⟨#[32]⟩
/-! ### percolate/op.names -/
def zv3:Reg:=⟨[],[⟨.mknil 1 9,some 0,none,[],[]⟩],[0],[],false⟩
def zd3:List ROp:=[⟨.bsl 1 9 [(.c (.str ⟨#[98,97,100]⟩)),(.c (.str ⟨#[112,117,116]⟩)),(.c (.str ⟨#[97,100,100]⟩)),(.c (.str ⟨#[100,101,108]⟩)),(.c (.str ⟨#[119,105,112,101]⟩)),(.c (.str ⟨#[103,101,116]⟩)),(.c (.str ⟨#[115,99,97,110]⟩))],some 1,none,[],[]⟩,⟨.mv (.t 1),some 0,none,[],[]⟩]
def zv2:Reg:=⟨[],zd3,[1],[],false⟩
def y72:IR:=(.seq (.reg zv3)
 (.seq (.reg zv2)
 .ret))
def zqf:List RDesc:=[(.tmp 0)]
theorem e_oNames_0:EqR zv3 [⟨.mknil 1 9,some 0,none,[],[]⟩] [0]:=fun _ _ _=>rfl
theorem e_oNames_1:EqR zv2 zd3 [1]:=fun _ _ _=>rfl
theorem fn_oNames {args:List AV} {r:AV} (ha:args.length.ble Tryz.f64.ntmps = true) (h:run (AFn Tryz.prog) y72 (endQ zqf r) (z0b args)):AFn Tryz.prog 64 args r :=
 AFn.of_code (pv:=false) (hint:=fun _=>[]) (c:=Tryz.f64.body.getD .skip) (by kernel_rfl) (by kernel_rfl) Tryz.func64 (by kernel_rfl) (by kernel_rfl) (by kernel_rfl) (of_decide_eq_true (by kernel_rfl)) (Nat.le_of_ble_eq_true ha) (Nat.le_of_ble_eq_true (by kernel_rfl)) (z0c h)
/-! ### percolate/op.Line -/
def y4i:Reg:=⟨[],[⟨.box 6 39 (.t 0),some 1,none,[],[]⟩,⟨.mv (.c (.str ⟨#[]⟩)),some 2,none,[],[]⟩],[1],[],false⟩
def ziu:List ROp:=[⟨.load 6 true (.t 1),some 4,none,[5],[]⟩,⟨.callv (.c (.clo 68 [] [])) [(.t 4)],some 5,none,[],[]⟩,⟨.bin .neq (.t 5) (.c (.int .i64 0)),some 6,none,[],[]⟩]
def y4h:Reg:=⟨[],ziu,[5],[],false⟩
def y4g:Reg:=⟨[],[⟨.mv (.c (.str ⟨#[98,97,100]⟩)),some 2,none,[],[]⟩],[],[],false⟩
def zo6:List ROp:=[⟨.callv (.c (.clo 64 [] [])) [],some 7,none,[14,15],[]⟩,⟨.faddr 0 (.t 1),some 8,none,[7,14,15],[]⟩,⟨.load 1 false (.t 8),some 9,none,[7,14,15],[]⟩,⟨.iaddr 1 (.t 7) (.t 9),some 10,none,[14,15],[]⟩,⟨.load 1 false (.t 10),some 11,none,[14,15],[]⟩,⟨.faddr 1 (.t 1),some 12,none,[7,14,15],[]⟩,⟨.load 1 false (.t 12),some 13,none,[7,14,15],[]⟩,⟨.callv (.c (.clo 15 [] [])) [(.t 13)],some 14,none,[15],[]⟩]
def y4f:Reg:=⟨zo6,[⟨.bsl 1 9 [(.t 11),(.t 14)],some 15,none,[],[]⟩,⟨.mv (.t 15),some 3,none,[],[]⟩],[7,14,15],[],true⟩
def zit:List ROp:=[⟨.load 6 true (.t 1),some 17,none,[18],[]⟩,⟨.callv (.c (.clo 66 [] [])) [(.t 17)],some 18,none,[],[]⟩,⟨.mv (.t 18),some 16,none,[],[]⟩]
def y4e:Reg:=⟨[],zit,[18],[],false⟩
def zis:List ROp:=[⟨.mv (.t 3),some 19,none,[22,23],[]⟩,⟨.faddr 4 (.t 1),some 20,none,[22,23],[]⟩,⟨.load 1 false (.t 20),some 21,none,[22,23],[]⟩,⟨.callv (.c (.clo 15 [] [])) [(.t 21)],some 22,none,[23],[]⟩,⟨.bsl 1 9 [(.t 22)],some 23,none,[],[]⟩,⟨.append 1 9 16 (.t 19) (.t 23),some 24,none,[],[]⟩,⟨.mv (.t 24),some 3,none,[],[]⟩]
def y4d:Reg:=⟨[],zis,[22,23],[],false⟩
def zir:List ROp:=[⟨.load 6 true (.t 1),some 26,none,[27],[]⟩,⟨.callv (.c (.clo 67 [] [])) [(.t 26)],some 27,none,[],[]⟩,⟨.mv (.t 27),some 28,none,[],[]⟩,⟨.faddr 3 (.t 1),some 29,(some (28,true)),[],[]⟩,⟨.load 1 false (.t 29),some 30,(some (28,true)),[],[]⟩,⟨.pick (.t 28) (.t 30) (.c (.bool false)),some 31,none,[],[]⟩,⟨.mv (.t 31),some 25,none,[],[]⟩]
def y4c:Reg:=⟨[],zir,[27],[],false⟩
def ziq:List ROp:=[⟨.mv (.t 3),some 32,none,[33],[]⟩,⟨.bsl 1 9 [(.c (.str ⟨#[42]⟩))],some 33,none,[],[]⟩,⟨.append 1 9 16 (.t 32) (.t 33),some 34,none,[],[]⟩,⟨.mv (.t 34),some 3,none,[],[]⟩]
def y4b:Reg:=⟨[],ziq,[33],[],false⟩
def zio:List ROp:=[⟨.load 6 true (.t 1),some 36,none,[37],[]⟩,⟨.callv (.c (.clo 67 [] [])) [(.t 36)],some 37,none,[],[]⟩,⟨.mv (.t 37),some 35,none,[],[]⟩]
def y4a:Reg:=⟨[],zio,[37],[],false⟩
def zin:List ROp:=[⟨.mv (.t 3),some 38,none,[41,42],[]⟩,⟨.faddr 2 (.t 1),some 39,none,[41,42],[]⟩,⟨.load 1 false (.t 39),some 40,none,[41,42],[]⟩,⟨.callv (.c (.clo 15 [] [])) [(.t 40)],some 41,none,[42],[]⟩,⟨.bsl 1 9 [(.t 41)],some 42,none,[],[]⟩,⟨.append 1 9 16 (.t 38) (.t 42),some 43,none,[],[]⟩,⟨.mv (.t 43),some 3,none,[],[]⟩]
def y49:Reg:=⟨[],zin,[41,42],[],false⟩
def zd6:List ROp:=[⟨.faddr 0 (.t 1),some 44,none,[],[]⟩,⟨.load 1 false (.t 44),some 45,none,[],[]⟩,⟨.bin .eql (.t 45) (.c (.int .i64 6)),some 46,none,[],[]⟩]
def zv6:Reg:=⟨[],zd6,[],[],false⟩
def zd5:List ROp:=[⟨.mv (.t 3),some 47,none,[50,51],[]⟩,⟨.faddr 5 (.t 1),some 48,none,[50,51],[]⟩,⟨.load 1 false (.t 48),some 49,none,[50,51],[]⟩,⟨.callv (.c (.clo 17 [] [])) [(.t 49)],some 50,none,[51],[]⟩,⟨.bsl 1 9 [(.t 50)],some 51,none,[],[]⟩,⟨.append 1 9 16 (.t 47) (.t 51),some 52,none,[],[]⟩,⟨.mv (.t 52),some 3,none,[],[]⟩]
def zv5:Reg:=⟨[],zd5,[50,51],[],false⟩
def zd4:List ROp:=[⟨.mv (.t 3),some 53,none,[54],[]⟩,⟨.callv (.c (.clo 47 [] [])) [(.t 53),(.c (.str ⟨#[32]⟩))],some 54,none,[],[]⟩,⟨.mv (.t 54),some 2,none,[],[]⟩]
def zv4:Reg:=⟨[],zd4,[54],[],false⟩
def yfw:IR:=(.seq (.reg y4i)
 (.seq (.seq (.reg y4h)
 (.cond (.t 6) (.seq (.reg y4g)
 .ret)
 .skip))
 (.seq (.reg y4f)
 (.seq (.block 0 (.seq (.reg y4e)
 (.cond (.t 16) (.reg y4d)
 (.seq (.reg y4c)
 (.cond (.t 25) (.reg y4b)
 (.seq (.reg y4a)
 (.cond (.t 35) (.reg y49)
 .skip)))))))
 (.seq (.seq (.reg zv6)
 (.cond (.t 46) (.reg zv5)
 .skip))
 (.seq (.reg zv4)
 .ret))))))
def y0n:List RDesc:=[(.tmp 2)]
theorem e_oLine_0:EqR y4i [⟨.box 6 39 (.t 0),some 1,none,[],[]⟩,⟨.mv (.c (.str ⟨#[]⟩)),some 2,none,[],[]⟩] [1]:=fun _ _ _=>rfl
theorem e_oLine_1:EqR y4h ziu [5]:=fun _ _ _=>rfl
theorem e_oLine_2:EqR y4g [⟨.mv (.c (.str ⟨#[98,97,100]⟩)),some 2,none,[],[]⟩] []:=fun _ _ _=>rfl
theorem e_oLine_3 (C:FuncId->List AV->AV->Prop) (σ:St) (K:St->Prop):z0k C y4f σ K = z08 C [] [⟨.bsl 1 9 [(.t 11),(.t 14)],some 15,none,[],[]⟩,⟨.mv (.t 15),some 3,none,[],[]⟩] zo6 (σ.kills [7,14,15]) K:=rfl
theorem e_oLine_4:EqR y4e zit [18]:=fun _ _ _=>rfl
theorem e_oLine_5:EqR y4d zis [22,23]:=fun _ _ _=>rfl
theorem e_oLine_6:EqR y4c zir [27]:=fun _ _ _=>rfl
theorem e_oLine_7:EqR y4b ziq [33]:=fun _ _ _=>rfl
theorem e_oLine_8:EqR y4a zio [37]:=fun _ _ _=>rfl
theorem e_oLine_9:EqR y49 zin [41,42]:=fun _ _ _=>rfl
theorem e_oLine_10:EqR zv6 zd6 []:=fun _ _ _=>rfl
theorem e_oLine_11:EqR zv5 zd5 [50,51]:=fun _ _ _=>rfl
theorem e_oLine_12:EqR zv4 zd4 [54]:=fun _ _ _=>rfl
theorem ygf {args:List AV} {r:AV} (ha:args.length.ble Tryz.f41.ntmps = true) (h:run (AFn Tryz.prog) yfw (endQ y0n r) (z0b args)):AFn Tryz.prog 41 args r :=
 AFn.of_code (pv:=false) (hint:=fun _=>[]) (c:=Tryz.f41.body.getD .skip) (by kernel_rfl) (by kernel_rfl) Tryz.func41 (by kernel_rfl) (by kernel_rfl) (by kernel_rfl) (of_decide_eq_true (by kernel_rfl)) (Nat.le_of_ble_eq_true ha) (Nat.le_of_ble_eq_true (by kernel_rfl)) (z0c h)
attribute [local go_sem ↓] y72
attribute [local go_sem] zqf e_oNames_0 e_oNames_1 zd3
attribute [local go_sem ↓] yfw
attribute [local go_sem] y0n e_oLine_0 e_oLine_1 ziu e_oLine_2 e_oLine_3 zo6 e_oLine_4 zit e_oLine_5 zis e_oLine_6 zir e_oLine_7 ziq e_oLine_8 zio e_oLine_9 zin e_oLine_10 zd6 e_oLine_11 zd5 e_oLine_12 zd4
theorem z0p:AFn Tryz.prog 64 [] (.own 1 9 [.str ⟨#[98,97,100]⟩,.str ⟨#[112,117,116]⟩,.str ⟨#[97,100,100]⟩,.str ⟨#[100,101,108]⟩,.str ⟨#[119,105,112,101]⟩,.str ⟨#[103,101,116]⟩,.str ⟨#[115,99,97,110]⟩]):=by
 refine fn_oNames rfl ?_
 simp (maxSteps:=9^7) only [go_sem,↓reduceIte,reduceCtorEq,Nat.reduceEqDiff,Nat.reduceBEq,Nat.reduceAdd,Nat.reduceSub,Nat.reduceMul,Nat.reduceLT,Nat.reduceLeDiff,Nat.reduceBNe,Int.reduceBEq,Int.reduceBNe,Int.reduceLT,Int.reduceLE]
theorem oLine_no (o:Opr) (h:o.key.size≤9000000000) (hr:o.right = false):AFn Tryz.prog 41 [o.a] (.str ⟨#[98,97,100]⟩):=by
 refine ygf rfl ?_
 have hR:=z2w o h
 rw [hr] at hR
 simp (maxSteps:=9^7) only [go_sem,↓reduceIte,reduceCtorEq,Nat.reduceEqDiff,Nat.reduceBEq,Nat.reduceAdd,Nat.reduceSub,Nat.reduceMul,Nat.reduceLT,Nat.reduceLeDiff,Nat.reduceBNe,Int.reduceBEq,Int.reduceBNe,Int.reduceLT,Int.reduceLE]
 (first | refine z01 hR ?_ | refine z00 hR ?_)
 simp (maxSteps:=9^7) only [go_sem,↓reduceIte,reduceCtorEq,Nat.reduceEqDiff,Nat.reduceBEq,Nat.reduceAdd,Nat.reduceSub,Nat.reduceMul,Nat.reduceLT,Nat.reduceLeDiff,Nat.reduceBNe,Int.reduceBEq,Int.reduceBNe,Int.reduceLT,Int.reduceLE]
set_option maxHeartbeats 4000000 in
theorem oLine_ok (o:Opr) (hr:o.right = true):AFn Tryz.prog 41 [o.a] (.str (za1 o)):=by
 refine ygf rfl ?_
 obtain ⟨hk1,hk6,hkey,hhi,hval,p1,p2,p3,p4⟩:=z8o hr
 obtain ⟨kind,key,hi,op,val,lim⟩:=o
 simp only at hk1 hk6 hkey hhi hval p1 p2 p3 p4
 have q1:=z0f key
 have q2:=z0f hi
 have q3:=z0f val
 have s3:∀ a b c:UInt8,(⟨#[a,b,c]⟩:ByteArray).size = 3:=fun _ _ _=>rfl
 have s4:∀ a b c d:UInt8,(⟨#[a,b,c,d]⟩:ByteArray).size = 4:=fun _ _ _ _=>rfl
 have s1:∀ a:UInt8,(⟨#[a]⟩:ByteArray).size = 1:=fun _=>rfl
 have sd:lim≤64->1≤lim->(decS lim).size≤1000:=fun h1 h2=>by
  have:=Lib.itoa_length_le lim (by omega) (by omega)
  rw [zp4]; omega
 have hk:kind = 1∨kind = 2∨kind = 3∨kind = 4∨kind = 5∨kind = 6:=by omega
 rcases hk with rfl | rfl | rfl | rfl | rfl | rfl
 ·-- kind 1
  have hv:AFn Tryz.prog 66 [.agg [.int .i64 1,.str key,.str hi,.bool op,.str val,.int .i64 lim]] (.bool true):=z19 ⟨1,key,hi,op,val,lim⟩
  have hg:AFn Tryz.prog 67 [.agg [.int .i64 1,.str key,.str hi,.bool op,.str val,.int .i64 lim]] (.bool false):=z0t ⟨1,key,hi,op,val,lim⟩
  have hR:AFn Tryz.prog 68 [.agg [.int .i64 1,.str key,.str hi,.bool op,.str val,.int .i64 lim]] (.int .i64 0):=by
   have:=z2w ⟨1,key,hi,op,val,lim⟩ (by show key.size≤_; omega)
   rw [hr] at this; exact this
  have tn:Int.toNat 1 = 1:=rfl
  have hj:=z42 [(⟨#[112,117,116]⟩:ByteArray),z04 key,z04 val] ⟨#[32]⟩ (by simp) (z1c _ (by simp) (by simp [s1,s3,s4]; omega))
  rw [show za1 ⟨1,key,hi,op,val,lim⟩ = z15 [(⟨#[112,117,116]⟩:ByteArray),z04 key,z04 val] ⟨#[32]⟩ from rfl]
  (repeat (first | simp (maxSteps:=9^7) only [go_sem,↓reduceIte,reduceCtorEq,Nat.reduceEqDiff,Nat.reduceBEq,Nat.reduceAdd,Nat.reduceSub,Nat.reduceMul,Nat.reduceLT,Nat.reduceLeDiff,Nat.reduceBNe,Int.reduceBEq,Int.reduceBNe,Int.reduceLT,Int.reduceLE,tn] | refine z01 (hR) ?_ | refine z00 (hR) ?_ | refine z01 (hv) ?_ | refine z00 (hv) ?_ | refine z01 (hg) ?_ | refine z00 (hg) ?_ | refine z01 (z0p) ?_ | refine z00 (z0p) ?_ | refine z01 (z07 key (by omega)) ?_ | refine z00 (z07 key (by omega)) ?_ | refine z01 (z07 val (by omega)) ?_ | refine z00 (z07 val (by omega)) ?_ | refine z01 (z07 hi (by omega)) ?_ | refine z00 (z07 hi (by omega)) ?_ | refine z01 (hj) ?_ | refine z00 (hj) ?_ | refine And.intro (by omega) ?_ | refine And.intro (fun d hd=>by (repeat (rcases hd with rfl | hd; · exact ⟨rfl,rfl⟩)); cases hd) ?_))
 ·-- kind 2
  have hv:AFn Tryz.prog 66 [.agg [.int .i64 2,.str key,.str hi,.bool op,.str val,.int .i64 lim]] (.bool true):=z19 ⟨2,key,hi,op,val,lim⟩
  have hg:AFn Tryz.prog 67 [.agg [.int .i64 2,.str key,.str hi,.bool op,.str val,.int .i64 lim]] (.bool false):=z0t ⟨2,key,hi,op,val,lim⟩
  have hR:AFn Tryz.prog 68 [.agg [.int .i64 2,.str key,.str hi,.bool op,.str val,.int .i64 lim]] (.int .i64 0):=by
   have:=z2w ⟨2,key,hi,op,val,lim⟩ (by show key.size≤_; omega)
   rw [hr] at this; exact this
  have tn:Int.toNat 2 = 2:=rfl
  have hj:=z42 [(⟨#[97,100,100]⟩:ByteArray),z04 key,z04 val] ⟨#[32]⟩ (by simp) (z1c _ (by simp) (by simp [s1,s3,s4]; omega))
  rw [show za1 ⟨2,key,hi,op,val,lim⟩ = z15 [(⟨#[97,100,100]⟩:ByteArray),z04 key,z04 val] ⟨#[32]⟩ from rfl]
  (repeat (first | simp (maxSteps:=9^7) only [go_sem,↓reduceIte,reduceCtorEq,Nat.reduceEqDiff,Nat.reduceBEq,Nat.reduceAdd,Nat.reduceSub,Nat.reduceMul,Nat.reduceLT,Nat.reduceLeDiff,Nat.reduceBNe,Int.reduceBEq,Int.reduceBNe,Int.reduceLT,Int.reduceLE,tn] | refine z01 (hR) ?_ | refine z00 (hR) ?_ | refine z01 (hv) ?_ | refine z00 (hv) ?_ | refine z01 (hg) ?_ | refine z00 (hg) ?_ | refine z01 (z0p) ?_ | refine z00 (z0p) ?_ | refine z01 (z07 key (by omega)) ?_ | refine z00 (z07 key (by omega)) ?_ | refine z01 (z07 val (by omega)) ?_ | refine z00 (z07 val (by omega)) ?_ | refine z01 (z07 hi (by omega)) ?_ | refine z00 (z07 hi (by omega)) ?_ | refine z01 (hj) ?_ | refine z00 (hj) ?_ | refine And.intro (by omega) ?_ | refine And.intro (fun d hd=>by (repeat (rcases hd with rfl | hd; · exact ⟨rfl,rfl⟩)); cases hd) ?_))
 ·-- kind 3
  have hv:AFn Tryz.prog 66 [.agg [.int .i64 3,.str key,.str hi,.bool op,.str val,.int .i64 lim]] (.bool false):=z19 ⟨3,key,hi,op,val,lim⟩
  have hg:AFn Tryz.prog 67 [.agg [.int .i64 3,.str key,.str hi,.bool op,.str val,.int .i64 lim]] (.bool false):=z0t ⟨3,key,hi,op,val,lim⟩
  have hR:AFn Tryz.prog 68 [.agg [.int .i64 3,.str key,.str hi,.bool op,.str val,.int .i64 lim]] (.int .i64 0):=by
   have:=z2w ⟨3,key,hi,op,val,lim⟩ (by show key.size≤_; omega)
   rw [hr] at this; exact this
  have tn:Int.toNat 3 = 3:=rfl
  have hj:=z42 [(⟨#[100,101,108]⟩:ByteArray),z04 key] ⟨#[32]⟩ (by simp) (z1c _ (by simp) (by simp [s1,s3,s4]; omega))
  rw [show za1 ⟨3,key,hi,op,val,lim⟩ = z15 [(⟨#[100,101,108]⟩:ByteArray),z04 key] ⟨#[32]⟩ from rfl]
  (repeat (first | simp (maxSteps:=9^7) only [go_sem,↓reduceIte,reduceCtorEq,Nat.reduceEqDiff,Nat.reduceBEq,Nat.reduceAdd,Nat.reduceSub,Nat.reduceMul,Nat.reduceLT,Nat.reduceLeDiff,Nat.reduceBNe,Int.reduceBEq,Int.reduceBNe,Int.reduceLT,Int.reduceLE,tn] | refine z01 (hR) ?_ | refine z00 (hR) ?_ | refine z01 (hv) ?_ | refine z00 (hv) ?_ | refine z01 (hg) ?_ | refine z00 (hg) ?_ | refine z01 (z0p) ?_ | refine z00 (z0p) ?_ | refine z01 (z07 key (by omega)) ?_ | refine z00 (z07 key (by omega)) ?_ | refine z01 (z07 val (by omega)) ?_ | refine z00 (z07 val (by omega)) ?_ | refine z01 (z07 hi (by omega)) ?_ | refine z00 (z07 hi (by omega)) ?_ | refine z01 (hj) ?_ | refine z00 (hj) ?_ | refine And.intro (by omega) ?_ | refine And.intro (fun d hd=>by (repeat (rcases hd with rfl | hd; · exact ⟨rfl,rfl⟩)); cases hd) ?_))
 ·-- kind 4
  have hv:AFn Tryz.prog 66 [.agg [.int .i64 4,.str key,.str hi,.bool op,.str val,.int .i64 lim]] (.bool false):=z19 ⟨4,key,hi,op,val,lim⟩
  have hg:AFn Tryz.prog 67 [.agg [.int .i64 4,.str key,.str hi,.bool op,.str val,.int .i64 lim]] (.bool true):=z0t ⟨4,key,hi,op,val,lim⟩
  have hR:AFn Tryz.prog 68 [.agg [.int .i64 4,.str key,.str hi,.bool op,.str val,.int .i64 lim]] (.int .i64 0):=by
   have:=z2w ⟨4,key,hi,op,val,lim⟩ (by show key.size≤_; omega)
   rw [hr] at this; exact this
  have tn:Int.toNat 4 = 4:=rfl
  cases op with
  | true =>
   have hj:=z42 [(⟨#[119,105,112,101]⟩:ByteArray),z04 key,(⟨#[42]⟩:ByteArray)] ⟨#[32]⟩ (by simp) (z1c _ (by simp) (by simp [s1,s3,s4]; omega))
   rw [show za1 ⟨4,key,hi,true,val,lim⟩ = z15 [(⟨#[119,105,112,101]⟩:ByteArray),z04 key,(⟨#[42]⟩:ByteArray)] ⟨#[32]⟩ from rfl]
   (repeat (first | simp (maxSteps:=9^7) only [go_sem,↓reduceIte,reduceCtorEq,Nat.reduceEqDiff,Nat.reduceBEq,Nat.reduceAdd,Nat.reduceSub,Nat.reduceMul,Nat.reduceLT,Nat.reduceLeDiff,Nat.reduceBNe,Int.reduceBEq,Int.reduceBNe,Int.reduceLT,Int.reduceLE,tn] | refine z01 (hR) ?_ | refine z00 (hR) ?_ | refine z01 (hv) ?_ | refine z00 (hv) ?_ | refine z01 (hg) ?_ | refine z00 (hg) ?_ | refine z01 (z0p) ?_ | refine z00 (z0p) ?_ | refine z01 (z07 key (by omega)) ?_ | refine z00 (z07 key (by omega)) ?_ | refine z01 (z07 val (by omega)) ?_ | refine z00 (z07 val (by omega)) ?_ | refine z01 (z07 hi (by omega)) ?_ | refine z00 (z07 hi (by omega)) ?_ | refine z01 (hj) ?_ | refine z00 (hj) ?_ | refine And.intro (by omega) ?_ | refine And.intro (fun d hd=>by (repeat (rcases hd with rfl | hd; · exact ⟨rfl,rfl⟩)); cases hd) ?_))
  | false =>
   have hj:=z42 [(⟨#[119,105,112,101]⟩:ByteArray),z04 key,z04 hi] ⟨#[32]⟩ (by simp) (z1c _ (by simp) (by simp [s1,s3,s4]; omega))
   rw [show za1 ⟨4,key,hi,false,val,lim⟩ = z15 [(⟨#[119,105,112,101]⟩:ByteArray),z04 key,z04 hi] ⟨#[32]⟩ from rfl]
   (repeat (first | simp (maxSteps:=9^7) only [go_sem,↓reduceIte,reduceCtorEq,Nat.reduceEqDiff,Nat.reduceBEq,Nat.reduceAdd,Nat.reduceSub,Nat.reduceMul,Nat.reduceLT,Nat.reduceLeDiff,Nat.reduceBNe,Int.reduceBEq,Int.reduceBNe,Int.reduceLT,Int.reduceLE,tn] | refine z01 (hR) ?_ | refine z00 (hR) ?_ | refine z01 (hv) ?_ | refine z00 (hv) ?_ | refine z01 (hg) ?_ | refine z00 (hg) ?_ | refine z01 (z0p) ?_ | refine z00 (z0p) ?_ | refine z01 (z07 key (by omega)) ?_ | refine z00 (z07 key (by omega)) ?_ | refine z01 (z07 val (by omega)) ?_ | refine z00 (z07 val (by omega)) ?_ | refine z01 (z07 hi (by omega)) ?_ | refine z00 (z07 hi (by omega)) ?_ | refine z01 (hj) ?_ | refine z00 (hj) ?_ | refine And.intro (by omega) ?_ | refine And.intro (fun d hd=>by (repeat (rcases hd with rfl | hd; · exact ⟨rfl,rfl⟩)); cases hd) ?_))
 ·-- kind 5
  have hv:AFn Tryz.prog 66 [.agg [.int .i64 5,.str key,.str hi,.bool op,.str val,.int .i64 lim]] (.bool false):=z19 ⟨5,key,hi,op,val,lim⟩
  have hg:AFn Tryz.prog 67 [.agg [.int .i64 5,.str key,.str hi,.bool op,.str val,.int .i64 lim]] (.bool false):=z0t ⟨5,key,hi,op,val,lim⟩
  have hR:AFn Tryz.prog 68 [.agg [.int .i64 5,.str key,.str hi,.bool op,.str val,.int .i64 lim]] (.int .i64 0):=by
   have:=z2w ⟨5,key,hi,op,val,lim⟩ (by show key.size≤_; omega)
   rw [hr] at this; exact this
  have tn:Int.toNat 5 = 5:=rfl
  have hj:=z42 [(⟨#[103,101,116]⟩:ByteArray),z04 key] ⟨#[32]⟩ (by simp) (z1c _ (by simp) (by simp [s1,s3,s4]; omega))
  rw [show za1 ⟨5,key,hi,op,val,lim⟩ = z15 [(⟨#[103,101,116]⟩:ByteArray),z04 key] ⟨#[32]⟩ from rfl]
  (repeat (first | simp (maxSteps:=9^7) only [go_sem,↓reduceIte,reduceCtorEq,Nat.reduceEqDiff,Nat.reduceBEq,Nat.reduceAdd,Nat.reduceSub,Nat.reduceMul,Nat.reduceLT,Nat.reduceLeDiff,Nat.reduceBNe,Int.reduceBEq,Int.reduceBNe,Int.reduceLT,Int.reduceLE,tn] | refine z01 (hR) ?_ | refine z00 (hR) ?_ | refine z01 (hv) ?_ | refine z00 (hv) ?_ | refine z01 (hg) ?_ | refine z00 (hg) ?_ | refine z01 (z0p) ?_ | refine z00 (z0p) ?_ | refine z01 (z07 key (by omega)) ?_ | refine z00 (z07 key (by omega)) ?_ | refine z01 (z07 val (by omega)) ?_ | refine z00 (z07 val (by omega)) ?_ | refine z01 (z07 hi (by omega)) ?_ | refine z00 (z07 hi (by omega)) ?_ | refine z01 (hj) ?_ | refine z00 (hj) ?_ | refine And.intro (by omega) ?_ | refine And.intro (fun d hd=>by (repeat (rcases hd with rfl | hd; · exact ⟨rfl,rfl⟩)); cases hd) ?_))
 ·-- kind 6
  have hv:AFn Tryz.prog 66 [.agg [.int .i64 6,.str key,.str hi,.bool op,.str val,.int .i64 lim]] (.bool false):=z19 ⟨6,key,hi,op,val,lim⟩
  have hg:AFn Tryz.prog 67 [.agg [.int .i64 6,.str key,.str hi,.bool op,.str val,.int .i64 lim]] (.bool true):=z0t ⟨6,key,hi,op,val,lim⟩
  have hR:AFn Tryz.prog 68 [.agg [.int .i64 6,.str key,.str hi,.bool op,.str val,.int .i64 lim]] (.int .i64 0):=by
   have:=z2w ⟨6,key,hi,op,val,lim⟩ (by show key.size≤_; omega)
   rw [hr] at this; exact this
  have l12:1≤lim∧lim≤64:=by simpa using p4
  have tn:Int.toNat 6 = 6:=rfl
  cases op with
  | true =>
   have hj:=z42 [(⟨#[115,99,97,110]⟩:ByteArray),z04 key,(⟨#[42]⟩:ByteArray),decS lim] ⟨#[32]⟩ (by simp) (z1c _ (by simp) (by simp [s1,s3,s4]; omega))
   rw [show za1 ⟨6,key,hi,true,val,lim⟩ = z15 [(⟨#[115,99,97,110]⟩:ByteArray),z04 key,(⟨#[42]⟩:ByteArray),decS lim] ⟨#[32]⟩ from rfl]
   (repeat (first | simp (maxSteps:=9^7) only [go_sem,↓reduceIte,reduceCtorEq,Nat.reduceEqDiff,Nat.reduceBEq,Nat.reduceAdd,Nat.reduceSub,Nat.reduceMul,Nat.reduceLT,Nat.reduceLeDiff,Nat.reduceBNe,Int.reduceBEq,Int.reduceBNe,Int.reduceLT,Int.reduceLE,tn] | refine z01 (hR) ?_ | refine z00 (hR) ?_ | refine z01 (hv) ?_ | refine z00 (hv) ?_ | refine z01 (hg) ?_ | refine z00 (hg) ?_ | refine z01 (z0p) ?_ | refine z00 (z0p) ?_ | refine z01 (z07 key (by omega)) ?_ | refine z00 (z07 key (by omega)) ?_ | refine z01 (z07 val (by omega)) ?_ | refine z00 (z07 val (by omega)) ?_ | refine z01 (z07 hi (by omega)) ?_ | refine z00 (z07 hi (by omega)) ?_ | refine z01 (z3h lim ⟨by omega,by omega⟩) ?_ | refine z00 (z3h lim ⟨by omega,by omega⟩) ?_ | refine z01 (hj) ?_ | refine z00 (hj) ?_ | refine And.intro (by omega) ?_ | refine And.intro (fun d hd=>by (repeat (rcases hd with rfl | hd; · exact ⟨rfl,rfl⟩)); cases hd) ?_))
  | false =>
   have hj:=z42 [(⟨#[115,99,97,110]⟩:ByteArray),z04 key,z04 hi,decS lim] ⟨#[32]⟩ (by simp) (z1c _ (by simp) (by simp [s1,s3,s4]; omega))
   rw [show za1 ⟨6,key,hi,false,val,lim⟩ = z15 [(⟨#[115,99,97,110]⟩:ByteArray),z04 key,z04 hi,decS lim] ⟨#[32]⟩ from rfl]
   (repeat (first | simp (maxSteps:=9^7) only [go_sem,↓reduceIte,reduceCtorEq,Nat.reduceEqDiff,Nat.reduceBEq,Nat.reduceAdd,Nat.reduceSub,Nat.reduceMul,Nat.reduceLT,Nat.reduceLeDiff,Nat.reduceBNe,Int.reduceBEq,Int.reduceBNe,Int.reduceLT,Int.reduceLE,tn] | refine z01 (hR) ?_ | refine z00 (hR) ?_ | refine z01 (hv) ?_ | refine z00 (hv) ?_ | refine z01 (hg) ?_ | refine z00 (hg) ?_ | refine z01 (z0p) ?_ | refine z00 (z0p) ?_ | refine z01 (z07 key (by omega)) ?_ | refine z00 (z07 key (by omega)) ?_ | refine z01 (z07 val (by omega)) ?_ | refine z00 (z07 val (by omega)) ?_ | refine z01 (z07 hi (by omega)) ?_ | refine z00 (z07 hi (by omega)) ?_ | refine z01 (z3h lim ⟨by omega,by omega⟩) ?_ | refine z00 (z3h lim ⟨by omega,by omega⟩) ?_ | refine z01 (hj) ?_ | refine z00 (hj) ?_ | refine And.intro (by omega) ?_ | refine And.intro (fun d hd=>by (repeat (rcases hd with rfl | hd; · exact ⟨rfl,rfl⟩)); cases hd) ?_))
end
section
/-
 Layer 7: an operation's line is read as it: the plain law.
-/
open Go.RowKit Go.Lib
set_option linter.unusedVariables false
set_option linter.unusedSimpArgs false
set_option maxRecDepth 100000
theorem wl_word:∀ {w:List UInt8},(32:UInt8) ∉ w->wl w = [w]
 | [],_=>rfl
 | c :: l,h=>by
  have h1:c ≠ 32:=fun e=>h (by rw [e]; exact List.mem_cons_self ..)
  rw [wl,if_neg h1,wl_word (w:=l) (fun e=>h (List.mem_cons_of_mem _ e))]
theorem wl_app:∀ {w:List UInt8} {l:List UInt8},(32:UInt8) ∉ w->wl (w ++ 32 :: l) = w :: wl l
 | [],l,_=>by rw [List.nil_append,wl,if_pos rfl]
 | c :: w,l,h=>by
  have h1:c ≠ 32:=fun e=>h (by rw [e]; exact List.mem_cons_self ..)
  rw [List.cons_append,wl,if_neg h1,wl_app (w:=w) (fun e=>h (List.mem_cons_of_mem _ e))]
theorem wl_tail:∀ (ws:List (List UInt8)) (w:List UInt8),(32:UInt8) ∉ w->(∀ x,x ∈ ws->(32:UInt8) ∉ x)->wl (w ++ Lib.joinTail [32] ws) = w :: ws
 | [],w,hw,_=>by
  show wl (w ++ []) = _
  rw [List.append_nil,wl_word hw]
 | y :: ws,w,hw,h=>by
  show wl (w ++ ((32 :: y) ++ Lib.joinTail [32] ws)) = _
  rw [List.cons_append,wl_app hw,wl_tail ws y (h y (List.mem_cons_self ..)) fun x hx=>h x (List.mem_cons_of_mem _ hx)]
theorem wl_joinB (w:ByteArray) (ws:List ByteArray) (h:∀ x,x ∈ w :: ws->(32:UInt8) ∉ x.data.toList):wl (z15 (w :: ws) ⟨#[32]⟩).data.toList = w.data.toList :: ws.map (·.data.toList):=by
 show wl (Lib.join ((w :: ws).map (·.data.toList)) [32]) = _
 rw [List.map_cons,Lib.join_cons]
 refine wl_tail _ _ (h w (List.mem_cons_self ..)) fun x hx=>?_
 obtain ⟨y,hy,rfl⟩:=List.mem_map.1 hx
 exact h y (List.mem_cons_of_mem _ hy)
theorem plain_no32:∀ c:UInt8,z0u c = true->c ≠ 32:=z6e (by decide +kernel)
theorem yg8:∀ n:Fin 16,hexD n.val ≠ 32:=by decide +kernel
theorem znb:∀ l:List UInt8,(32:UInt8) ∉ z0n l
 | []=>by simp [z0n]
 | c :: l=>by
  have ih:=znb l
  have hc:=c.toNat_lt
  rw [z0n]
  intro h
  rcases List.mem_append.1 h with h | h
  ·cases hp:z0u c with
   | true =>
    rw [hp,if_pos rfl] at h
    exact plain_no32 c hp (List.mem_singleton.1 h).symm
   | false =>
    rw [hp,if_neg (by simp)] at h
    rcases List.mem_cons.1 h with h | h
    ·exact absurd h (by decide)
    ·rcases List.mem_cons.1 h with h | h
     ·exact yg8 ⟨c.toNat / 16,by omega⟩ h.symm
     ·exact yg8 ⟨c.toNat % 16,by omega⟩ (List.mem_singleton.1 h).symm
  ·exact ih h
theorem z8y (s:ByteArray):(32:UInt8) ∉ (z04 s).data.toList:=by
 rw [z1e]
 split
 ·decide
 ·exact znb _
theorem ygn (d:Nat) (h:d < 10):(32:UInt8) ≠ UInt8.ofNat (48 + d):=by
 intro e
 have:=congrArg UInt8.toNat e
 have h2:=zp1 d h
 rw [← this] at h2
 have:((32:UInt8).toNat:Int) = 32:=rfl
 omega
theorem dd_no32:∀ u:Nat,(32:UInt8) ∉ decDigits u:=by
 intro u
 induction u using Nat.strongRecOn with
 | ind u ih =>
  by_cases h:u < 10
  ·rw [z3w u h]
   intro e
   exact ygn u h (List.mem_singleton.1 e)
  ·rw [zf5 u h]
   intro e
   rcases List.mem_append.1 e with e | e
   ·exact ih (u / 10) (by omega) e
   ·exact ygn (u % 10) (by omega) (List.mem_singleton.1 e)
theorem y86 (n:Int) (h:0≤n):(decS n).data.toList = decDigits n.toNat:=by
 show Lib.itoa n = _
 exact zef h
/-- the first text that a word is read as -/
def uq1 (s:ByteArray):ByteArray:=match uqF s with
 | .tup (.str x :: _)=>x
 | _=>nul
def uqb (s:ByteArray):Bool:=match uqF s with
 | .tup (_ :: .bool b :: _)=>b
 | _=>false
theorem zzw (s:ByteArray):uqF s = .tup [.str (uq1 s),.bool (uqb s)]:=by
 have:∀ q,zpe q = .tup [.str (match zpe q with | .tup (.str x :: _)=>x | _=>nul),.bool (match zpe q with | .tup (_ :: .bool b :: _)=>b | _=>false)]:=by
  intro q; cases q <;> rfl
 unfold uq1 uqb uqF
 split
 ·rfl
 ·exact this _
theorem z2u (s:ByteArray):uq1 (z04 s) = s:=by unfold uq1; rw [uqF_quote]
def ud1 (s:ByteArray):Int:=match udF s with
 | .tup (.int _ n :: _)=>n
 | _=>0
def udb (s:ByteArray):Bool:=match udF s with
 | .tup (_ :: .bool b :: _)=>b
 | _=>false
theorem udF_shape (s:ByteArray):udF s = .tup [.int .i64 (ud1 s),.bool (udb s)]:=by
 have:∀ q,zxo q = .tup [.int .i64 (match zxo q with | .tup (.int _ n :: _)=>n | _=>0),.bool (match zxo q with | .tup (_ :: .bool b :: _)=>b | _=>false)]:=by
  intro q; cases q <;> rfl
 unfold ud1 udb udF
 split
 ·rfl
 ·exact this _
theorem ud1_dec (n:Int) (h0:0≤n) (h1:n≤999999999):ud1 (decS n) = n:=by
 unfold ud1; rw [zxn n ⟨by omega,by omega⟩,if_pos ⟨h0,h1⟩]
/-- the kinds' words,and a word's place among them -/
def z1u:List ByteArray:=[⟨#[98,97,100]⟩,⟨#[112,117,116]⟩,⟨#[97,100,100]⟩,⟨#[100,101,108]⟩,⟨#[119,105,112,101]⟩,⟨#[103,101,116]⟩,⟨#[115,99,97,110]⟩]
def idxS (x:ByteArray):List ByteArray->Nat->Int
 | [],_=>-1
 | y :: l,i=>if x.toList == y.toList then (i:Int) else idxS x l (i + 1)
def z1m (l:List ByteArray):Opr :=
 let k:=idxS (l.getD 0 nul) z1u 0
 let key:=uq1 (l.getD 1 nul)
 let w:=l.getD 2 nul
 let lim:=if k == 6 then ud1 (l.getD 3 nul) else 0
 if k == 1 || k == 2 then ⟨k,key,nul,false,uq1 w,lim⟩
 else if k == 4 || k == 6 then (if w.toList == (ByteArray.mk #[42]).toList then ⟨k,key,nul,true,nul,lim⟩ else ⟨k,key,uq1 w,false,nul,lim⟩)
 else ⟨k,key,nul,false,nul,lim⟩
def z2i (o:Opr):ByteArray:=if o.right then za1 o else ⟨#[98,97,100]⟩
def z0r (s:ByteArray):List ByteArray:=(wl s.data.toList).map wb ++ [nul,nul,nul]
def y64 (s:ByteArray):Opr × Bool :=
 let o:=z1m (z0r s)
 if o.right && ((z2i o).toList == s.toList) then (o,true) else (Opr.zero,false)
theorem wb_data (s:ByteArray):wb s.data.toList = s:=by cases s; rfl
theorem z78 (s:ByteArray):((z04 s).toList == (ByteArray.mk #[42]).toList) = false:=by
 rw [beq_eq_false_iff_ne]
 intro e
 rw [ByteArray.toList_eq,ByteArray.toList_eq] at e
 have h:=z1e s
 rw [e] at h
 split at h
 ·cases h
 ·cases hl:s.data.toList with
  | nil=>contradiction
  | cons c l =>
   rw [hl,z0n] at h
   cases hp:z0u c with
   | true =>
    rw [hp,if_pos rfl,List.singleton_append] at h
    have:c = 42:=(List.cons.inj h).1.symm
    subst this
    exact absurd hp (by decide +kernel)
   | false =>
    rw [hp,if_neg (by simp)] at h
    have:=congrArg List.length h
    simp at this
theorem line_words (o:Opr) (hr:o.right = true):(wl (za1 o).data.toList).map wb = lineW o:=by
 have hp:=z8o hr
 obtain ⟨_,_,_,_,_,_,_,_,p4⟩:=hp
 have e:∃ w ws,lineW o = w :: ws∧∀ x,x ∈ w :: ws->(32:UInt8) ∉ x.data.toList:=by
  refine ⟨_,_,rfl,fun x hx=>?_⟩
  have hx':x ∈ lineW o:=hx
  unfold lineW at hx'
  rcases List.mem_append.1 hx' with h | h
  ·rcases List.mem_append.1 h with h | h
   ·rcases List.mem_cons.1 h with rfl | h
    ·unfold kindW
     repeat' split
     all_goals decide
    ·rw [List.mem_singleton.1 h]; exact z8y _
   ·split at h
    ·rw [List.mem_singleton.1 h]; exact z8y _
    ·split at h
     ·split at h
      ·rw [List.mem_singleton.1 h]; decide
      ·rw [List.mem_singleton.1 h]; exact z8y _
     ·simp at h
  ·split at h
   ·rename_i h6
    rw [h6] at p4
    have:1≤o.lim∧o.lim≤64:=by simpa using p4
    rw [List.mem_singleton.1 h,y86 _ (by omega)]
    exact dd_no32 _
   ·simp at h
 obtain ⟨w,ws,e,h⟩:=e
 unfold za1
 rw [e,wl_joinB w ws h,List.map_cons,wb_data,List.map_map]
 congr 1
 conv=>rhs; rw [← List.map_id ws]
 exact List.map_congr_left fun x _=>wb_data x
theorem parse_line (o:Opr) (hr:o.right = true):y64 (z2i o) = (o,true):=by
 have hx:z2i o = za1 o:=by unfold z2i; rw [if_pos hr]
 have ho:z1m (z0r (z2i o)) = o:=by
  rw [hx]
  unfold z0r
  rw [line_words o hr]
  obtain ⟨hk1,hk6,hkey,hhi,hval,p1,p2,p3,p4⟩:=z8o hr
  obtain ⟨kind,key,hi,op,val,lim⟩:=o
  simp only at hk1 hk6 hkey hhi hval p1 p2 p3 p4
  have hk:kind = 1∨kind = 2∨kind = 3∨kind = 4∨kind = 5∨kind = 6:=by omega
  rcases hk with rfl | rfl | rfl | rfl | rfl | rfl
  ·have q:nilB hi = true∧op = false:=by cases op <;> simp_all [Opr.ranged]
   have hl:lim = 0:=by simpa using p4
   have eh:=z40 q.1
   have eo:=q.2
   subst hl eh eo
   have e:idxS (⟨#[112,117,116]⟩:ByteArray) z1u 0 = 1:=by decide +kernel
   show z1m [⟨#[112,117,116]⟩,z04 key,z04 val,nul,nul,nul] = _
   unfold z1m
   simp [e,z2u,List.getD_cons_zero,List.getD_cons_succ,nul]
  ·have q:nilB hi = true∧op = false:=by cases op <;> simp_all [Opr.ranged]
   have hl:lim = 0:=by simpa using p4
   have eh:=z40 q.1
   have eo:=q.2
   subst hl eh eo
   have e:idxS (⟨#[97,100,100]⟩:ByteArray) z1u 0 = 2:=by decide +kernel
   show z1m [⟨#[97,100,100]⟩,z04 key,z04 val,nul,nul,nul] = _
   unfold z1m
   simp [e,z2u,List.getD_cons_zero,List.getD_cons_succ,nul]
  ·have q:nilB hi = true∧op = false:=by cases op <;> simp_all [Opr.ranged]
   have v:nilB val = true:=by simpa [Opr.valued] using p1
   have hl:lim = 0:=by simpa using p4
   have eh:=z40 q.1
   have eo:=q.2
   have ev:=z40 v
   subst hl eh eo ev
   have e:idxS (⟨#[100,101,108]⟩:ByteArray) z1u 0 = 3:=by decide +kernel
   show z1m [⟨#[100,101,108]⟩,z04 key,nul,nul,nul] = _
   unfold z1m
   simp [e,z2u,List.getD_cons_zero,List.getD_cons_succ,nul]
  ·have v:nilB val = true:=by simpa [Opr.valued] using p1
   have hl:lim = 0:=by simpa using p4
   have ev:=z40 v
   subst hl ev
   have e:idxS (⟨#[119,105,112,101]⟩:ByteArray) z1u 0 = 4:=by decide +kernel
   cases op with
   | true =>
    have eh:=z40 (by simpa using p2:nilB hi = true)
    subst eh
    show z1m [⟨#[119,105,112,101]⟩,z04 key,⟨#[42]⟩,nul,nul,nul] = _
    unfold z1m
    simp [e,z2u,List.getD_cons_zero,List.getD_cons_succ,nul]
   | false =>
    show z1m [⟨#[119,105,112,101]⟩,z04 key,z04 hi,nul,nul,nul] = _
    unfold z1m
    have hs:=z78 hi
    simp only [beq_eq_false_iff_ne,ne_eq] at hs
    simp [e,z2u,List.getD_cons_zero,List.getD_cons_succ,nul]
    exact fun e=>hs (e.trans (by decide +kernel))
  ·have q:nilB hi = true∧op = false:=by cases op <;> simp_all [Opr.ranged]
   have v:nilB val = true:=by simpa [Opr.valued] using p1
   have hl:lim = 0:=by simpa using p4
   have eh:=z40 q.1
   have eo:=q.2
   have ev:=z40 v
   subst hl eh eo ev
   have e:idxS (⟨#[103,101,116]⟩:ByteArray) z1u 0 = 5:=by decide +kernel
   show z1m [⟨#[103,101,116]⟩,z04 key,nul,nul,nul] = _
   unfold z1m
   simp [e,z2u,List.getD_cons_zero,List.getD_cons_succ,nul]
  ·have v:nilB val = true:=by simpa [Opr.valued] using p1
   have l12:1≤lim∧lim≤64:=by simpa using p4
   have ev:=z40 v
   subst ev
   have el:=ud1_dec lim (by omega) (by omega)
   have e:idxS (⟨#[115,99,97,110]⟩:ByteArray) z1u 0 = 6:=by decide +kernel
   cases op with
   | true =>
    have eh:=z40 (by simpa using p2:nilB hi = true)
    subst eh
    show z1m [⟨#[115,99,97,110]⟩,z04 key,⟨#[42]⟩,decS lim,nul,nul,nul] = _
    unfold z1m
    simp [e,z2u,el,List.getD_cons_zero,List.getD_cons_succ,nul]
   | false =>
    show z1m [⟨#[115,99,97,110]⟩,z04 key,z04 hi,decS lim,nul,nul,nul] = _
    unfold z1m
    have hs:=z78 hi
    simp only [beq_eq_false_iff_ne,ne_eq] at hs
    simp [e,z2u,el,List.getD_cons_zero,List.getD_cons_succ,nul]
    exact fun e=>hs (e.trans (by decide +kernel))
 unfold y64
 simp only
 rw [ho,hr,beq_self_eq_true]; rfl
end
section
/-
 Layer 7 on the plain machine: what the document says of operations.
-/
open Go.RowKit
set_option linter.unusedVariables false
set_option linter.unusedSimpArgs false
set_option maxRecDepth 100000
attribute [local go_sem ↓] z11 z0l
/-! ### percolate/percolateref01.Less -/
/-! ### percolate/percolateref02.Has -/
/-! ### percolate/percolateref02.Empty -/
def Opr.long (o:Opr) (n:Int):Bool:=decide ((o.key.size:Int)≤n) && decide ((o.hi.size:Int)≤n) && decide ((o.val.size:Int)≤n)
end
end Go.Proofs.YthpbokjnfloeoaaGreatDoor
