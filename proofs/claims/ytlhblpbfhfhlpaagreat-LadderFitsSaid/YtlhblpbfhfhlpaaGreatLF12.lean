/-
  Part 12 of a proof: RpA, TeD.
-/
import Derived.Test.YtlhblpbfhfhlpaaGreatLF11
set_option linter.unusedVariables false
set_option linter.unusedSimpArgs false
set_option maxRecDepth 100000
attribute [local go_sem] reduceCtorEq Nat.reduceEqDiff Nat.reduceBEq Nat.reduceAdd Nat.reduceSub Nat.reduceMul Nat.reduceLT Nat.reduceLeDiff Nat.reduceBNe Int.reduceBEq Int.reduceBNe Int.reduceLT Int.reduceLE
attribute [local go_sem ↓] reduceIte
namespace Go.Proofs.YtlhblpbfhfhlpaaGreat
section
open Go.RowKit
attribute [local go_sem ↓] z18 z0h
def z6s:List Par->Bool
 | []=>true
 | [p]=>decide (p.key.size≤16) && decide (p.val.size≤16)
 | p :: q :: l=>decide (p.key.size≤16) && decide (p.val.size≤16) && Op.bytesLess p.key.toList q.key.toList && z6s (q :: l)
def z2n (p:Par):Bool:=decide (p.key.size≤16) && decide (p.val.size≤16)
def z4h:Option Par->List Par->Bool
 | _,[]=>true
 | none,p :: l=>z2n p && z4h (some p) l
 | some q,p :: l=>z2n p && Op.bytesLess q.key.toList p.key.toList && z4h (some p) l
theorem zg5:∀ (p:Par) (l:List Par),(z2n p && z4h (some p) l) = z6s (p :: l)
 | p,[]=>by simp [z4h,z6s,z2n]
 | p,q :: l=>by
  have h:=zg5 q l
  show (z2n p && (z2n q && Op.bytesLess p.key.toList q.key.toList && z4h (some q) l)) = (decide (p.key.size≤16) && decide (p.val.size≤16) && Op.bytesLess p.key.toList q.key.toList && z6s (q :: l))
  rw [← h]
  show _ = (z2n p && Op.bytesLess p.key.toList q.key.toList && (z2n q && z4h (some q) l))
  cases z2n p <;> cases z2n q <;> cases Op.bytesLess p.key.toList q.key.toList <;> simp
theorem y0y (l:List Par):z4h none l = z6s l:=by
 cases l with
 | nil=>rfl
 | cons p l=>exact zg5 p l
def zxi (l:List Par) (j:Nat):Option Par:=if j = 0 then none else l[j - 1]?
theorem prevP_next {l:List Par} {j:Nat} {x:Par} (h:l[j]? = some x):zxi l (j + 1) = some x:=by
 unfold zxi
 rw [if_neg (by omega),Nat.add_sub_cancel,h]
theorem rightG_at {l:List Par} {j:Nat} {x:Par} (h:l[j]? = some x) :
  (j = 0->z4h (zxi l j) (l.drop j) = (z2n x && z4h (zxi l (j + 1)) (l.drop (j + 1)))) ∧
  (∀ y,l[j - 1]? = some y->j ≠ 0->z4h (zxi l j) (l.drop j) = (z2n x && Op.bytesLess y.key.toList x.key.toList && z4h (zxi l (j + 1)) (l.drop (j + 1)))):=by
 rw [prevP_next h,z0d h]
 constructor
 ·rintro rfl; rfl
 ·intro y hy hj
  unfold zxi
  rw [if_neg hj,hy]; rfl
theorem rightG_end (l:List Par) (o:Option Par):z4h o (l.drop l.length) = true:=by
 rw [List.drop_eq_nil_of_le (Nat.le_refl _)]
 cases o <;> rfl
def zh9:Reg:=⟨[],[⟨.mv (.c (.bool false)),some 2,none,[],[]⟩],[],[],false⟩
def zh8:Reg:=⟨[],[⟨.mv (.c (.int .i64 0)),some 3,none,[],[]⟩],[],[],false⟩
def z7c:List ROp:=[⟨.mv (.t 3),some 4,none,[],[]⟩,⟨.mv (.t 0),some 5,none,[],[]⟩,⟨.len false (.t 5),some 6,none,[],[]⟩,⟨.bin .lss (.t 4) (.t 6),some 7,none,[],[]⟩]
def zh7:Reg:=⟨[],z7c,[],[],false⟩
def z7b:List ROp:=[⟨.callv (.c (.clo 90 [] [])) [(.t 35),(.t 40)],some 41,(some (29,true)),[],[]⟩,⟨.un .not (.t 41),some 42,(some (29,true)),[],[]⟩,⟨.pick (.t 29) (.t 42) (.c (.bool false)),some 43,(some (26,false)),[],[]⟩,⟨.pick (.t 26) (.c (.bool true)) (.t 43),some 44,none,[],[]⟩]
def z8e:List ROp:=[⟨.mv (.t 0),some 10,none,[41],[]⟩,⟨.mv (.t 3),some 11,none,[41],[]⟩,⟨.iaddr 2 (.t 10) (.t 11),some 12,none,[41],[]⟩,⟨.faddr 0 (.t 12),some 13,none,[41],[]⟩,⟨.load 1 false (.t 13),some 14,none,[41],[]⟩,⟨.len true (.t 14),some 15,none,[41],[]⟩,⟨.bin .gtr (.t 15) (.c (.int .i64 16)),some 16,none,[41],[]⟩,⟨.mv (.t 16),some 17,none,[41],[]⟩,⟨.mv (.t 0),some 18,(some (17,false)),[41],[]⟩,⟨.mv (.t 3),some 19,(some (17,false)),[41],[]⟩,⟨.iaddr 2 (.t 18) (.t 19),some 20,(some (17,false)),[41],[]⟩,⟨.faddr 1 (.t 20),some 21,(some (17,false)),[41],[]⟩,⟨.load 1 false (.t 21),some 22,(some (17,false)),[41],[]⟩,⟨.len true (.t 22),some 23,(some (17,false)),[41],[]⟩,⟨.bin .gtr (.t 23) (.c (.int .i64 16)),some 24,(some (17,false)),[41],[]⟩,⟨.pick (.t 17) (.c (.bool true)) (.t 24),some 25,none,[41],[]⟩,⟨.mv (.t 25),some 26,none,[41],[]⟩,⟨.mv (.t 3),some 27,(some (26,false)),[41],[]⟩,⟨.bin .gtr (.t 27) (.c (.int .i64 0)),some 28,(some (26,false)),[41],[]⟩,⟨.mv (.t 28),some 29,(some (26,false)),[41],[]⟩,⟨.mv (.t 0),some 30,(some (29,true)),[41],[]⟩,⟨.mv (.t 3),some 31,(some (29,true)),[41],[]⟩,⟨.bin .sub (.t 31) (.c (.int .i64 1)),some 32,(some (29,true)),[41],[]⟩,⟨.iaddr 2 (.t 30) (.t 32),some 33,(some (29,true)),[41],[]⟩,⟨.faddr 0 (.t 33),some 34,(some (29,true)),[41],[]⟩,⟨.load 1 false (.t 34),some 35,(some (29,true)),[41],[]⟩,⟨.mv (.t 0),some 36,(some (29,true)),[41],[]⟩,⟨.mv (.t 3),some 37,(some (29,true)),[41],[]⟩,⟨.iaddr 2 (.t 36) (.t 37),some 38,(some (29,true)),[41],[]⟩,⟨.faddr 0 (.t 38),some 39,(some (29,true)),[41],[]⟩,⟨.load 1 false (.t 39),some 40,(some (29,true)),[41],[]⟩]
def zh6:Reg:=⟨z8e,z7b,[41],[],true⟩
def zh5:Reg:=⟨[],[⟨.mv (.c (.bool false)),some 2,none,[],[]⟩],[],[],false⟩
def z7a:List ROp:=[⟨.mv (.t 3),some 8,none,[],[]⟩,⟨.bin .add (.t 8) (.c (.int .i64 1)),some 9,none,[],[]⟩,⟨.mv (.t 9),some 3,none,[],[]⟩]
def zh4:Reg:=⟨[],z7a,[],[],false⟩
def zco:IR:=(.seq (.seq (.reg zh7)
 (.cond (.t 7) .skip
 (.exit 0)))
 (.seq (.block 1 (.seq (.reg zh6)
 (.cond (.t 44) (.seq (.reg zh5)
 .ret)
 .skip)))
 (.reg zh4)))
def zh3:Reg:=⟨[],[⟨.mv (.c (.bool true)),some 2,none,[],[]⟩],[],[],false⟩
def zpp:IR:=(.seq (.reg zh9)
 (.seq (.seq (.reg zh8)
 (.block 0 (.loop zco)))
 (.seq (.reg zh3)
 .ret)))
def zg9:List RDesc:=[(.tmp 2)]
theorem y2o:EqR zh9 [⟨.mv (.c (.bool false)),some 2,none,[],[]⟩] []:=fun _ _ _=>rfl
theorem y2n:EqR zh8 [⟨.mv (.c (.int .i64 0)),some 3,none,[],[]⟩] []:=fun _ _ _=>rfl
theorem y2m:EqR zh7 z7c []:=fun _ _ _=>rfl
theorem y2l (C:FuncId->List AV->AV->Prop) (σ:St) (K:St->Prop):z0l C zh6 σ K = z08 C [] z7b z8e (σ.kills [41]) K:=rfl
theorem y2k:EqR zh5 [⟨.mv (.c (.bool false)),some 2,none,[],[]⟩] []:=fun _ _ _=>rfl
theorem y2j:EqR zh4 z7a []:=fun _ _ _=>rfl
theorem y2i:EqR zh3 [⟨.mv (.c (.bool true)),some 2,none,[],[]⟩] []:=fun _ _ _=>rfl
theorem fn_rRight9 {args:List AV} {r:AV} (ha:args.length.ble Tryz.f92.ntmps = true) (h:run (AFn Tryz.prog) zpp (endQ zg9 r) (z0b args)):AFn Tryz.prog 92 args r :=
 AFn.of_code (pv:=false) (hint:=fun _=>[]) (c:=Tryz.f92.body.getD .skip) (by kernel_rfl) (by kernel_rfl) Tryz.func92 (by kernel_rfl) (by kernel_rfl) (by kernel_rfl) (of_decide_eq_true (by kernel_rfl)) (Nat.le_of_ble_eq_true ha) (Nat.le_of_ble_eq_true (by kernel_rfl)) (z09 h)
attribute [local go_sem ↓] zpp
attribute [local go_sem] zg9 y2o y2n y2m z7c y2l z7b z8e y2k y2j z7a y2i
def r9Inv (l:List Par) (r:Bool) (k:Nat) (σ:St):Prop :=
 ∃ j:Nat,j≤l.length∧k = l.length - j∧σ.T 0 = .sl (l.map Par.a)∧σ.T 3 = .int .i64 j∧r = z4h (zxi l j) (l.drop j)
set_option maxHeartbeats 1000000 in
theorem rRight9_ok (l:List Par) (hl:l.length≤1000000000) (hs:∀ p,p ∈ l->p.key.size≤281474976710656):AFn Tryz.prog 92 [.sl (l.map Par.a)] (.bool (z6s l)):=by
 refine fn_rRight9 rfl ?_
 simp (maxSteps:=9^7) only [go_sem,Par.a]
 refine z06 (r9Inv l (z6s l)) (k:=l.length) ⟨0,by omega,rfl,rfl,rfl,?_⟩ ?_
 ·rw [← y0y]; rfl
 rintro k σ ⟨j,hj,rfl,t0,t3,hr⟩
 simp only [zco]
 generalize hR:z6s l = R at *
 by_cases hlt:j < l.length
 ·have hlt':(j:Int) < (l.length:Int):=by omega
  obtain ⟨x,hx⟩:=z0f hlt
  have hgj:=z0k (f:=Par.a) hx
  simp only [Par.a] at hgj
  have hw:=z1a (j:=j) (by omega)
  obtain ⟨q1,q2⟩:=rightG_at hx
  by_cases hk:(16:Int) < (x.key.size:Int)
  ·have hS:z2n x = false:=by unfold z2n; rw [decide_eq_false (by omega)]; rfl
   have hr':R = false:=by
    by_cases h0:j = 0
    ·rw [hr,q1 h0,hS]; rfl
    ·obtain ⟨y,hy⟩:=z0f (l:=l) (j:=j - 1) (by omega)
     rw [hr,q2 y hy h0,hS]; rfl
   subst hr'
   simp (maxSteps:=9^7) only [go_sem,Par.a,t0,t3,hlt',hgj,hk,List.length_map,Int.toNat_natCast,hw]
   all_goals omega
  by_cases hv:(16:Int) < (x.val.size:Int)
  ·have hS:z2n x = false:=by unfold z2n; rw [decide_eq_false (p:=x.val.size≤16) (by omega),Bool.and_false]
   have hr':R = false:=by
    by_cases h0:j = 0
    ·rw [hr,q1 h0,hS]; rfl
    ·obtain ⟨y,hy⟩:=z0f (l:=l) (j:=j - 1) (by omega)
     rw [hr,q2 y hy h0,hS]; rfl
   subst hr'
   simp (maxSteps:=9^7) only [go_sem,Par.a,t0,t3,hlt',hgj,hk,hv,List.length_map,Int.toNat_natCast,hw]
   all_goals omega
  have hS:z2n x = true:=by unfold z2n; rw [decide_eq_true (by omega),decide_eq_true (by omega)]; rfl
  rw [hS] at q1 q2
  by_cases h0:j = 0
  ·rw [q1 h0] at hr
   have hp:¬ (0:Int) < (j:Int):=by omega
   simp (maxSteps:=9^7) only [go_sem,Par.a,t0,t3,hlt',hgj,hk,hv,hp,List.length_map,Int.toNat_natCast,hw]
   (repeat refine And.intro (by omega) ?_)
   refine ⟨l.length - (j + 1),by omega,j + 1,by omega,rfl,?_,?_,by rw [hr]; simp⟩
   iterate 2 focus ((simp (maxSteps:=9^7) only [go_sem,Par.a,t0,hw]) <;> rfl)
  ·obtain ⟨y,hy⟩:=z0f (l:=l) (j:=j - 1) (by omega)
   have hgy:=z0k (f:=Par.a) hy
   simp only [Par.a] at hgy
   have hp:(0:Int) < (j:Int):=by omega
   have hm:IntKind.i64.wrap ((j:Int) - 1) = ((j - 1:Nat):Int):=by rw [IntWalk.i64_in _ (by omega)]; omega
   have hy':((j - 1:Nat):Int) < (l.length:Int):=by omega
   have cl:=z3a y.key x.key (by have:=hs y (List.mem_of_getElem? hy); omega) (by have:=hs x (List.mem_of_getElem? hx); omega)
   have hB:Op.bytesLess y.key.toList x.key.toList = lt y.key x.key:=rfl
   rw [q2 y hy h0,hB] at hr
   generalize lt y.key x.key = b at *
   cases b
   ·(repeat (first | simp (maxSteps:=9^7) only [go_sem,Par.a,t0,t3,hlt',hgj,hgy,hk,hv,hp,hm,hy',List.length_map,Int.toNat_natCast,hw] | refine z01 (cl) ?_ | refine z00 (cl) ?_ | refine And.intro (by omega) ?_ | refine And.intro (fun d hd=>by (repeat (rcases hd with rfl | hd; · exact ⟨rfl,rfl⟩)); cases hd) ?_))
    all_goals (repeat refine And.intro (by omega) ?_)
    all_goals rw [hr]; rfl
   ·(repeat (first | simp (maxSteps:=9^7) only [go_sem,Par.a,t0,t3,hlt',hgj,hgy,hk,hv,hp,hm,hy',List.length_map,Int.toNat_natCast,hw] | refine z01 (cl) ?_ | refine z00 (cl) ?_ | refine And.intro (by omega) ?_ | refine And.intro (fun d hd=>by (repeat (rcases hd with rfl | hd; · exact ⟨rfl,rfl⟩)); cases hd) ?_))
    refine ⟨l.length - (j + 1),by omega,j + 1,by omega,rfl,?_,?_,by rw [hr]; simp⟩
    iterate 2 focus ((simp (maxSteps:=9^7) only [go_sem,Par.a,t0,hw]) <;> rfl)
 ·have hlt':¬ (j:Int) < (l.length:Int):=by omega
  obtain rfl:j = l.length:=by omega
  simp (maxSteps:=9^7) only [go_sem,Par.a,t0,t3,hlt',List.length_map]
  rw [hr,rightG_end]
end
section
open Go.RowKit
attribute [local go_sem ↓] z18 z0h
def zd9 (seats:List Seat) (s:Int):Nat:=seats.countP fun x=>x.n.slot == s
def onceB (l:List Nd) (seats:List Seat):Bool:=decide (l.length = seats.length) && l.all fun n=>zd9 seats n.slot == 1
def zkl:List Seat->Int
 | x :: y :: _=>if y.n.level = x.n.level then y.n.slot else -1
 | _=>-1
def z3t:List Seat->Bool
 | []=>true
 | x :: l=>decide (x.n.right = zkl (x :: l)) && z3t l
def zwg:Reg:=⟨[],[⟨.mv (.c (.bool false)),some 4,none,[],[]⟩],[],[],false⟩
def zff:List ROp:=[⟨.mv (.t 0),some 8,none,[],[]⟩,⟨.len false (.t 8),some 9,none,[],[]⟩,⟨.mv (.t 1),some 10,none,[],[]⟩,⟨.len false (.t 10),some 11,none,[],[]⟩,⟨.bin .neq (.t 9) (.t 11),some 12,none,[],[]⟩]
def zwf:Reg:=⟨[],zff,[],[],false⟩
def zwe:Reg:=⟨[],[⟨.mv (.c (.bool false)),some 4,none,[],[]⟩],[],[],false⟩
def zwd:Reg:=⟨[],[⟨.mv (.c (.int .i64 0)),some 5,none,[],[]⟩],[],[],false⟩
def zfe:List ROp:=[⟨.mv (.t 5),some 13,none,[],[]⟩,⟨.mv (.t 0),some 14,none,[],[]⟩,⟨.len false (.t 14),some 15,none,[],[]⟩,⟨.bin .lss (.t 13) (.t 15),some 16,none,[],[]⟩]
def zwc:Reg:=⟨[],zfe,[],[],false⟩
def zwb:Reg:=⟨[],[⟨.mv (.c (.int .i64 0)),some 6,none,[],[]⟩],[],[],false⟩
def zwa:Reg:=⟨[],[⟨.mv (.c (.int .i64 0)),some 7,none,[],[]⟩],[],[],false⟩
def zfd:List ROp:=[⟨.mv (.t 7),some 19,none,[],[]⟩,⟨.mv (.t 1),some 20,none,[],[]⟩,⟨.len false (.t 20),some 21,none,[],[]⟩,⟨.bin .lss (.t 19) (.t 21),some 22,none,[],[]⟩]
def zw9:Reg:=⟨[],zfd,[],[],false⟩
def zjm:List ROp:=[⟨.mv (.t 1),some 25,none,[],[]⟩,⟨.mv (.t 7),some 26,none,[],[]⟩,⟨.iaddr 14 (.t 25) (.t 26),some 27,none,[],[]⟩,⟨.faddr 0 (.t 27),some 28,none,[],[]⟩,⟨.faddr 0 (.t 28),some 29,none,[],[]⟩,⟨.load 1 false (.t 29),some 30,none,[],[]⟩,⟨.mv (.t 0),some 31,none,[],[]⟩,⟨.mv (.t 5),some 32,none,[],[]⟩,⟨.iaddr 10 (.t 31) (.t 32),some 33,none,[],[]⟩,⟨.faddr 0 (.t 33),some 34,none,[],[]⟩,⟨.load 1 false (.t 34),some 35,none,[],[]⟩]
def zw8:Reg:=⟨zjm,[⟨.bin .eql (.t 30) (.t 35),some 36,none,[],[]⟩],[],[],true⟩
def zfc:List ROp:=[⟨.mv (.t 6),some 37,none,[],[]⟩,⟨.bin .add (.t 37) (.c (.int .i64 1)),some 38,none,[],[]⟩,⟨.mv (.t 38),some 6,none,[],[]⟩]
def zw7:Reg:=⟨[],zfc,[],[],false⟩
def zaf:List ROp:=[⟨.mv (.t 7),some 23,none,[],[]⟩,⟨.bin .add (.t 23) (.c (.int .i64 1)),some 24,none,[],[]⟩,⟨.mv (.t 24),some 7,none,[],[]⟩]
def zni:Reg:=⟨[],zaf,[],[],false⟩
def zhv:IR:=(.seq (.seq (.reg zw9)
 (.cond (.t 22) .skip
 (.exit 2)))
 (.seq (.block 3 (.seq (.reg zw8)
 (.cond (.t 36) (.reg zw7)
 .skip)))
 (.reg zni)))
def znh:Reg:=⟨[],[⟨.mv (.t 6),some 39,none,[],[]⟩,⟨.bin .neq (.t 39) (.c (.int .i64 1)),some 40,none,[],[]⟩],[],[],false⟩
def zng:Reg:=⟨[],[⟨.mv (.c (.bool false)),some 4,none,[],[]⟩],[],[],false⟩
def zae:List ROp:=[⟨.mv (.t 5),some 17,none,[],[]⟩,⟨.bin .add (.t 17) (.c (.int .i64 1)),some 18,none,[],[]⟩,⟨.mv (.t 18),some 5,none,[],[]⟩]
def znf:Reg:=⟨[],zae,[],[],false⟩
def zhu:IR:=(.seq (.seq (.reg zwc)
 (.cond (.t 16) .skip
 (.exit 0)))
 (.seq (.block 1 (.seq (.reg zwb)
 (.seq (.seq (.reg zwa)
 (.block 2 (.loop zhv)))
 (.seq (.reg znh)
 (.cond (.t 40) (.seq (.reg zng)
 .ret)
 .skip)))))
 (.reg znf)))
def zne:Reg:=⟨[],[⟨.mv (.c (.bool true)),some 4,none,[],[]⟩],[],[],false⟩
def y7b:IR:=(.seq (.reg zwg)
 (.seq (.seq (.reg zwf)
 (.cond (.t 12) (.seq (.reg zwe)
 .ret)
 .skip))
 (.seq (.seq (.reg zwd)
 (.block 0 (.loop zhu)))
 (.seq (.reg zne)
 .ret))))
def zto:List RDesc:=[(.tmp 4)]
theorem e_onceR_0:EqR zwg [⟨.mv (.c (.bool false)),some 4,none,[],[]⟩] []:=fun _ _ _=>rfl
theorem e_onceR_1:EqR zwf zff []:=fun _ _ _=>rfl
theorem e_onceR_2:EqR zwe [⟨.mv (.c (.bool false)),some 4,none,[],[]⟩] []:=fun _ _ _=>rfl
theorem e_onceR_3:EqR zwd [⟨.mv (.c (.int .i64 0)),some 5,none,[],[]⟩] []:=fun _ _ _=>rfl
theorem e_onceR_4:EqR zwc zfe []:=fun _ _ _=>rfl
theorem e_onceR_5:EqR zwb [⟨.mv (.c (.int .i64 0)),some 6,none,[],[]⟩] []:=fun _ _ _=>rfl
theorem e_onceR_6:EqR zwa [⟨.mv (.c (.int .i64 0)),some 7,none,[],[]⟩] []:=fun _ _ _=>rfl
theorem e_onceR_7:EqR zw9 zfd []:=fun _ _ _=>rfl
theorem e_onceR_8 (C:FuncId->List AV->AV->Prop) (σ:St) (K:St->Prop):z0l C zw8 σ K = z08 C [] [⟨.bin .eql (.t 30) (.t 35),some 36,none,[],[]⟩] zjm (σ.kills []) K:=rfl
theorem e_onceR_9:EqR zw7 zfc []:=fun _ _ _=>rfl
theorem e_onceR_10:EqR zni zaf []:=fun _ _ _=>rfl
theorem e_onceR_12:EqR znh [⟨.mv (.t 6),some 39,none,[],[]⟩,⟨.bin .neq (.t 39) (.c (.int .i64 1)),some 40,none,[],[]⟩] []:=fun _ _ _=>rfl
theorem e_onceR_13:EqR zng [⟨.mv (.c (.bool false)),some 4,none,[],[]⟩] []:=fun _ _ _=>rfl
theorem e_onceR_14:EqR znf zae []:=fun _ _ _=>rfl
theorem e_onceR_16:EqR zne [⟨.mv (.c (.bool true)),some 4,none,[],[]⟩] []:=fun _ _ _=>rfl
theorem fn_onceR {args:List AV} {r:AV} (ha:args.length.ble Tryz.f41.ntmps = true) (h:run (AFn Tryz.prog) y7b (endQ zto r) (z0b args)):AFn Tryz.prog 41 args r :=
 AFn.of_code (pv:=false) (hint:=fun _=>[]) (c:=Tryz.f41.body.getD .skip) (by kernel_rfl) (by kernel_rfl) Tryz.func41 (by kernel_rfl) (by kernel_rfl) (by kernel_rfl) (of_decide_eq_true (by kernel_rfl)) (Nat.le_of_ble_eq_true ha) (Nat.le_of_ble_eq_true (by kernel_rfl)) (z09 h)
def zo4:Reg:=⟨[],[⟨.mv (.c (.bool false)),some 2,none,[],[]⟩],[],[],false⟩
def zo3:Reg:=⟨[],[⟨.mv (.c (.int .i64 0)),some 3,none,[],[]⟩],[],[],false⟩
def zao:List ROp:=[⟨.mv (.t 3),some 5,none,[],[]⟩,⟨.mv (.t 0),some 6,none,[],[]⟩,⟨.len false (.t 6),some 7,none,[],[]⟩,⟨.bin .lss (.t 5) (.t 7),some 8,none,[],[]⟩]
def zo2:Reg:=⟨[],zao,[],[],false⟩
def zo1:Reg:=⟨[],[⟨.mv (.c (.int .i64 (-1))),some 4,none,[],[]⟩],[],[],false⟩
def zan:List ROp:=[⟨.bin .eql (.t 23) (.t 29),some 30,(some (16,true)),[],[]⟩,⟨.pick (.t 16) (.t 30) (.c (.bool false)),some 31,none,[],[]⟩]
def zc3:List ROp:=[⟨.mv (.t 3),some 11,none,[],[]⟩,⟨.bin .add (.t 11) (.c (.int .i64 1)),some 12,none,[],[]⟩,⟨.mv (.t 0),some 13,none,[],[]⟩,⟨.len false (.t 13),some 14,none,[],[]⟩,⟨.bin .lss (.t 12) (.t 14),some 15,none,[],[]⟩,⟨.mv (.t 15),some 16,none,[],[]⟩,⟨.mv (.t 0),some 17,(some (16,true)),[],[]⟩,⟨.mv (.t 3),some 18,(some (16,true)),[],[]⟩,⟨.bin .add (.t 18) (.c (.int .i64 1)),some 19,(some (16,true)),[],[]⟩,⟨.iaddr 14 (.t 17) (.t 19),some 20,(some (16,true)),[],[]⟩,⟨.faddr 0 (.t 20),some 21,(some (16,true)),[],[]⟩,⟨.faddr 1 (.t 21),some 22,(some (16,true)),[],[]⟩,⟨.load 1 false (.t 22),some 23,(some (16,true)),[],[]⟩,⟨.mv (.t 0),some 24,(some (16,true)),[],[]⟩,⟨.mv (.t 3),some 25,(some (16,true)),[],[]⟩,⟨.iaddr 14 (.t 24) (.t 25),some 26,(some (16,true)),[],[]⟩,⟨.faddr 0 (.t 26),some 27,(some (16,true)),[],[]⟩,⟨.faddr 1 (.t 27),some 28,(some (16,true)),[],[]⟩,⟨.load 1 false (.t 28),some 29,(some (16,true)),[],[]⟩]
def zo0:Reg:=⟨zc3,zan,[],[],true⟩
def zam:List ROp:=[⟨.mv (.t 0),some 32,none,[],[]⟩,⟨.mv (.t 3),some 33,none,[],[]⟩,⟨.bin .add (.t 33) (.c (.int .i64 1)),some 34,none,[],[]⟩,⟨.iaddr 14 (.t 32) (.t 34),some 35,none,[],[]⟩,⟨.faddr 0 (.t 35),some 36,none,[],[]⟩,⟨.faddr 0 (.t 36),some 37,none,[],[]⟩,⟨.load 1 false (.t 37),some 38,none,[],[]⟩,⟨.mv (.t 38),some 4,none,[],[]⟩]
def znz:Reg:=⟨[],zam,[],[],false⟩
def zal:List ROp:=[⟨.mv (.t 0),some 39,none,[],[]⟩,⟨.mv (.t 3),some 40,none,[],[]⟩,⟨.iaddr 14 (.t 39) (.t 40),some 41,none,[],[]⟩,⟨.faddr 0 (.t 41),some 42,none,[],[]⟩,⟨.faddr 6 (.t 42),some 43,none,[],[]⟩,⟨.load 1 false (.t 43),some 44,none,[],[]⟩,⟨.mv (.t 4),some 45,none,[],[]⟩,⟨.bin .neq (.t 44) (.t 45),some 46,none,[],[]⟩]
def zny:Reg:=⟨[],zal,[],[],false⟩
def znx:Reg:=⟨[],[⟨.mv (.c (.bool false)),some 2,none,[],[]⟩],[],[],false⟩
def zak:List ROp:=[⟨.mv (.t 3),some 9,none,[],[]⟩,⟨.bin .add (.t 9) (.c (.int .i64 1)),some 10,none,[],[]⟩,⟨.mv (.t 10),some 3,none,[],[]⟩]
def znw:Reg:=⟨[],zak,[],[],false⟩
def zhy:IR:=(.seq (.seq (.reg zo2)
 (.cond (.t 8) .skip
 (.exit 0)))
 (.seq (.block 1 (.seq (.reg zo1)
 (.seq (.seq (.reg zo0)
 (.cond (.t 31) (.reg znz)
 .skip))
 (.seq (.reg zny)
 (.cond (.t 46) (.seq (.reg znx)
 .ret)
 .skip)))))
 (.reg znw)))
def zhz:Reg:=⟨[],[⟨.mv (.c (.bool true)),some 2,none,[],[]⟩],[],[],false⟩
def zyb:IR:=(.seq (.reg zo4)
 (.seq (.seq (.reg zo3)
 (.block 0 (.loop zhy)))
 (.seq (.reg zhz)
 .ret)))
def zl9:List RDesc:=[(.tmp 2)]
theorem e_linked_0:EqR zo4 [⟨.mv (.c (.bool false)),some 2,none,[],[]⟩] []:=fun _ _ _=>rfl
theorem e_linked_1:EqR zo3 [⟨.mv (.c (.int .i64 0)),some 3,none,[],[]⟩] []:=fun _ _ _=>rfl
theorem e_linked_2:EqR zo2 zao []:=fun _ _ _=>rfl
theorem e_linked_3:EqR zo1 [⟨.mv (.c (.int .i64 (-1))),some 4,none,[],[]⟩] []:=fun _ _ _=>rfl
theorem e_linked_4 (C:FuncId->List AV->AV->Prop) (σ:St) (K:St->Prop):z0l C zo0 σ K = z08 C [] zan zc3 (σ.kills []) K:=rfl
theorem e_linked_5:EqR znz zam []:=fun _ _ _=>rfl
theorem e_linked_6:EqR zny zal []:=fun _ _ _=>rfl
theorem e_linked_7:EqR znx [⟨.mv (.c (.bool false)),some 2,none,[],[]⟩] []:=fun _ _ _=>rfl
theorem e_linked_8:EqR znw zak []:=fun _ _ _=>rfl
theorem y37:EqR zhz [⟨.mv (.c (.bool true)),some 2,none,[],[]⟩] []:=fun _ _ _=>rfl
theorem fn_linked {args:List AV} {r:AV} (ha:args.length.ble Tryz.f42.ntmps = true) (h:run (AFn Tryz.prog) zyb (endQ zl9 r) (z0b args)):AFn Tryz.prog 42 args r :=
 AFn.of_code (pv:=false) (hint:=fun _=>[]) (c:=Tryz.f42.body.getD .skip) (by kernel_rfl) (by kernel_rfl) Tryz.func42 (by kernel_rfl) (by kernel_rfl) (by kernel_rfl) (of_decide_eq_true (by kernel_rfl)) (Nat.le_of_ble_eq_true ha) (Nat.le_of_ble_eq_true (by kernel_rfl)) (z09 h)
def zx2:Reg:=⟨[],[⟨.box 10 45 (.t 0),some 2,none,[],[]⟩,⟨.mv (.c (.bool false)),some 4,none,[],[]⟩],[2],[],false⟩
def zfo:List ROp:=[⟨.faddr 5 (.t 2),some 5,none,[11],[]⟩,⟨.load 1 false (.t 5),some 6,none,[11],[]⟩,⟨.mv (.t 6),some 7,none,[11],[]⟩,⟨.mv (.t 1),some 8,(some (7,false)),[11],[]⟩,⟨.faddr 4 (.t 2),some 9,(some (7,false)),[11],[]⟩,⟨.load 1 false (.t 9),some 10,(some (7,false)),[11],[]⟩,⟨.callv (.c (.clo 90 [] [])) [(.t 8),(.t 10)],some 11,(some (7,false)),[],[]⟩,⟨.pick (.t 7) (.c (.bool true)) (.t 11),some 12,none,[],[]⟩,⟨.mv (.t 12),some 4,none,[],[]⟩]
def zx1:Reg:=⟨[],zfo,[11],[],false⟩
def y7e:IR:=(.seq (.reg zx2)
 (.seq (.reg zx1)
 .ret))
def ztr:List RDesc:=[(.tmp 4)]
theorem e_has21_0:EqR zx2 [⟨.box 10 45 (.t 0),some 2,none,[],[]⟩,⟨.mv (.c (.bool false)),some 4,none,[],[]⟩] [2]:=fun _ _ _=>rfl
theorem e_has21_1:EqR zx1 zfo [11]:=fun _ _ _=>rfl
theorem fn_has21 {args:List AV} {r:AV} (ha:args.length.ble Tryz.f93.ntmps = true) (h:run (AFn Tryz.prog) y7e (endQ ztr r) (z0b args)):AFn Tryz.prog 93 args r :=
 AFn.of_code (pv:=false) (hint:=fun _=>[]) (c:=Tryz.f93.body.getD .skip) (by kernel_rfl) (by kernel_rfl) Tryz.func93 (by kernel_rfl) (by kernel_rfl) (by kernel_rfl) (of_decide_eq_true (by kernel_rfl)) (Nat.le_of_ble_eq_true ha) (Nat.le_of_ble_eq_true (by kernel_rfl)) (z09 h)
def zat:List ROp:=[⟨.box 5 23 (.t 0),some 2,none,[3],[]⟩,⟨.box 10 45 (.t 1),some 3,none,[],[]⟩,⟨.mv (.c (.bool false)),some 4,none,[],[]⟩]
def zoe:Reg:=⟨[],zat,[2,3],[],false⟩
def zas:List ROp:=[⟨.faddr 2 (.t 3),some 6,none,[29],[]⟩,⟨.load 1 false (.t 6),some 7,none,[29],[]⟩,⟨.len false (.t 7),some 8,none,[29],[]⟩,⟨.faddr 3 (.t 3),some 9,none,[29],[]⟩,⟨.load 1 false (.t 9),some 10,none,[29],[]⟩,⟨.len false (.t 10),some 11,none,[29],[]⟩,⟨.bin .add (.t 8) (.t 11),some 12,none,[29],[]⟩,⟨.faddr 8 (.t 3),some 13,none,[29],[]⟩,⟨.load 1 false (.t 13),some 14,none,[29],[]⟩,⟨.len false (.t 14),some 15,none,[29],[]⟩,⟨.bin .add (.t 12) (.t 15),some 16,none,[29],[]⟩,⟨.bin .gtr (.t 16) (.c (.int .i64 0)),some 17,none,[29],[]⟩,⟨.mv (.t 17),some 18,none,[29],[]⟩,⟨.faddr 9 (.t 3),some 19,(some (18,false)),[29],[]⟩,⟨.load 1 false (.t 19),some 20,(some (18,false)),[29],[]⟩,⟨.len false (.t 20),some 21,(some (18,false)),[29],[]⟩,⟨.faddr 1 (.t 2),some 22,(some (18,false)),[29],[]⟩,⟨.load 1 false (.t 22),some 23,(some (18,false)),[29],[]⟩,⟨.bin .gtr (.t 21) (.t 23),some 24,(some (18,false)),[29],[]⟩,⟨.pick (.t 18) (.c (.bool true)) (.t 24),some 25,none,[29],[]⟩,⟨.mv (.t 25),some 26,none,[29],[]⟩,⟨.faddr 9 (.t 3),some 27,(some (26,false)),[29],[]⟩,⟨.load 1 false (.t 27),some 28,(some (26,false)),[29],[]⟩,⟨.callv (.c (.clo 92 [] [])) [(.t 28)],some 29,(some (26,false)),[],[]⟩,⟨.un .not (.t 29),some 30,(some (26,false)),[],[]⟩,⟨.pick (.t 26) (.c (.bool true)) (.t 30),some 31,none,[],[]⟩]
def zod:Reg:=⟨[],zas,[29],[],false⟩
def zoc:Reg:=⟨[],[⟨.mv (.c (.bool false)),some 4,none,[],[]⟩],[],[],false⟩
def zob:Reg:=⟨[],[⟨.mv (.c (.int .i64 0)),some 5,none,[],[]⟩],[],[],false⟩
def zar:List ROp:=[⟨.mv (.t 5),some 32,none,[],[]⟩,⟨.faddr 9 (.t 3),some 33,none,[],[]⟩,⟨.load 1 false (.t 33),some 34,none,[],[]⟩,⟨.len false (.t 34),some 35,none,[],[]⟩,⟨.bin .lss (.t 32) (.t 35),some 36,none,[],[]⟩]
def zoa:Reg:=⟨[],zar,[],[],false⟩
def zaq:List ROp:=[⟨.callv (.c (.clo 93 [] [])) [(.t 39),(.t 45)],some 46,none,[],[]⟩,⟨.un .not (.t 46),some 47,none,[],[]⟩]
def zc4:List ROp:=[⟨.load 10 true (.t 3),some 39,none,[46],[]⟩,⟨.faddr 9 (.t 3),some 40,none,[46],[]⟩,⟨.load 1 false (.t 40),some 41,none,[46],[]⟩,⟨.mv (.t 5),some 42,none,[46],[]⟩,⟨.iaddr 2 (.t 41) (.t 42),some 43,none,[46],[]⟩,⟨.faddr 0 (.t 43),some 44,none,[46],[]⟩,⟨.load 1 false (.t 44),some 45,none,[46],[]⟩]
def zo9:Reg:=⟨zc4,zaq,[46],[],true⟩
def zo8:Reg:=⟨[],[⟨.mv (.c (.bool false)),some 4,none,[],[]⟩],[],[],false⟩
def zap:List ROp:=[⟨.mv (.t 5),some 37,none,[],[]⟩,⟨.bin .add (.t 37) (.c (.int .i64 1)),some 38,none,[],[]⟩,⟨.mv (.t 38),some 5,none,[],[]⟩]
def zo7:Reg:=⟨[],zap,[],[],false⟩
def zi0:IR:=(.seq (.seq (.reg zoa)
 (.cond (.t 36) .skip
 (.exit 0)))
 (.seq (.block 1 (.seq (.reg zo9)
 (.cond (.t 47) (.seq (.reg zo8)
 .ret)
 .skip)))
 (.reg zo7)))
def zo6:Reg:=⟨[],[⟨.mv (.c (.bool true)),some 4,none,[],[]⟩],[],[],false⟩
def zyc:IR:=(.seq (.reg zoe)
 (.seq (.seq (.reg zod)
 (.cond (.t 31) (.seq (.reg zoc)
 .ret)
 .skip))
 (.seq (.seq (.reg zob)
 (.block 0 (.loop zi0)))
 (.seq (.reg zo6)
 .ret))))
def zla:List RDesc:=[(.tmp 4)]
theorem e_leaf21_0:EqR zoe zat [2,3]:=fun _ _ _=>rfl
theorem e_leaf21_1:EqR zod zas [29]:=fun _ _ _=>rfl
theorem e_leaf21_2:EqR zoc [⟨.mv (.c (.bool false)),some 4,none,[],[]⟩] []:=fun _ _ _=>rfl
theorem e_leaf21_3:EqR zob [⟨.mv (.c (.int .i64 0)),some 5,none,[],[]⟩] []:=fun _ _ _=>rfl
theorem e_leaf21_4:EqR zoa zar []:=fun _ _ _=>rfl
theorem e_leaf21_5 (C:FuncId->List AV->AV->Prop) (σ:St) (K:St->Prop):z0l C zo9 σ K = z08 C [] zaq zc4 (σ.kills [46]) K:=rfl
theorem e_leaf21_6:EqR zo8 [⟨.mv (.c (.bool false)),some 4,none,[],[]⟩] []:=fun _ _ _=>rfl
theorem e_leaf21_7:EqR zo7 zap []:=fun _ _ _=>rfl
theorem e_leaf21_9:EqR zo6 [⟨.mv (.c (.bool true)),some 4,none,[],[]⟩] []:=fun _ _ _=>rfl
theorem fn_leaf21 {args:List AV} {r:AV} (ha:args.length.ble Tryz.f63.ntmps = true) (h:run (AFn Tryz.prog) zyc (endQ zla r) (z0b args)):AFn Tryz.prog 63 args r :=
 AFn.of_code (pv:=false) (hint:=fun _=>[]) (c:=Tryz.f63.body.getD .skip) (by kernel_rfl) (by kernel_rfl) Tryz.func63 (by kernel_rfl) (by kernel_rfl) (by kernel_rfl) (of_decide_eq_true (by kernel_rfl)) (Nat.le_of_ble_eq_true ha) (Nat.le_of_ble_eq_true (by kernel_rfl)) (z09 h)
def zgi:Reg:=⟨[],[⟨.box 5 23 (.t 0),some 1,none,[],[]⟩,⟨.mv (.c (.bool false)),some 2,none,[],[]⟩],[1],[],false⟩
def z6y:List ROp:=[⟨.faddr 0 (.t 1),some 3,none,[],[]⟩,⟨.load 1 false (.t 3),some 4,none,[],[]⟩,⟨.bin .geq (.t 4) (.c (.int .i64 4)),some 5,none,[],[]⟩,⟨.mv (.t 5),some 6,none,[],[]⟩,⟨.faddr 0 (.t 1),some 7,(some (6,true)),[],[]⟩,⟨.load 1 false (.t 7),some 8,(some (6,true)),[],[]⟩,⟨.bin .leq (.t 8) (.c (.int .i64 64)),some 9,(some (6,true)),[],[]⟩,⟨.pick (.t 6) (.t 9) (.c (.bool false)),some 10,none,[],[]⟩,⟨.mv (.t 10),some 11,none,[],[]⟩,⟨.faddr 1 (.t 1),some 12,(some (11,true)),[],[]⟩,⟨.load 1 false (.t 12),some 13,(some (11,true)),[],[]⟩,⟨.bin .geq (.t 13) (.c (.int .i64 2)),some 14,(some (11,true)),[],[]⟩,⟨.pick (.t 11) (.t 14) (.c (.bool false)),some 15,none,[],[]⟩,⟨.mv (.t 15),some 16,none,[],[]⟩,⟨.faddr 1 (.t 1),some 17,(some (16,true)),[],[]⟩,⟨.load 1 false (.t 17),some 18,(some (16,true)),[],[]⟩,⟨.bin .leq (.t 18) (.c (.int .i64 64)),some 19,(some (16,true)),[],[]⟩,⟨.pick (.t 16) (.t 19) (.c (.bool false)),some 20,none,[],[]⟩,⟨.mv (.t 20),some 21,none,[],[]⟩,⟨.faddr 2 (.t 1),some 22,(some (21,true)),[],[]⟩,⟨.load 1 false (.t 22),some 23,(some (21,true)),[],[]⟩,⟨.bin .geq (.t 23) (.c (.int .i64 36)),some 24,(some (21,true)),[],[]⟩,⟨.pick (.t 21) (.t 24) (.c (.bool false)),some 25,none,[],[]⟩,⟨.mv (.t 25),some 26,none,[],[]⟩,⟨.faddr 2 (.t 1),some 27,(some (26,true)),[],[]⟩,⟨.load 1 false (.t 27),some 28,(some (26,true)),[],[]⟩,⟨.bin .leq (.t 28) (.c (.int .i64 4096)),some 29,(some (26,true)),[],[]⟩,⟨.pick (.t 26) (.t 29) (.c (.bool false)),some 30,none,[],[]⟩,⟨.mv (.t 30),some 31,none,[],[]⟩,⟨.faddr 3 (.t 1),some 32,(some (31,true)),[],[]⟩,⟨.load 1 false (.t 32),some 33,(some (31,true)),[],[]⟩,⟨.bin .geq (.t 33) (.c (.int .i64 1)),some 34,(some (31,true)),[],[]⟩,⟨.pick (.t 31) (.t 34) (.c (.bool false)),some 35,none,[],[]⟩,⟨.mv (.t 35),some 36,none,[],[]⟩,⟨.faddr 3 (.t 1),some 37,(some (36,true)),[],[]⟩,⟨.load 1 false (.t 37),some 38,(some (36,true)),[],[]⟩,⟨.bin .leq (.t 38) (.c (.int .i64 4096)),some 39,(some (36,true)),[],[]⟩,⟨.pick (.t 36) (.t 39) (.c (.bool false)),some 40,none,[],[]⟩,⟨.mv (.t 40),some 41,none,[],[]⟩,⟨.faddr 4 (.t 1),some 42,(some (41,true)),[],[]⟩,⟨.load 1 false (.t 42),some 43,(some (41,true)),[],[]⟩,⟨.bin .geq (.t 43) (.c (.int .i64 0)),some 44,(some (41,true)),[],[]⟩,⟨.pick (.t 41) (.t 44) (.c (.bool false)),some 45,none,[],[]⟩,⟨.mv (.t 45),some 46,none,[],[]⟩,⟨.faddr 4 (.t 1),some 47,(some (46,true)),[],[]⟩,⟨.load 1 false (.t 47),some 48,(some (46,true)),[],[]⟩,⟨.bin .leq (.t 48) (.c (.int .i64 100)),some 49,(some (46,true)),[],[]⟩,⟨.pick (.t 46) (.t 49) (.c (.bool false)),some 50,none,[],[]⟩,⟨.mv (.t 50),some 2,none,[],[]⟩]
def zgh:Reg:=⟨[],z6y,[],[],false⟩
def zpm:IR:=(.seq (.reg zgi)
 (.seq (.reg zgh)
 .ret))
def zg6:List RDesc:=[(.tmp 2)]
theorem y25:EqR zgi [⟨.box 5 23 (.t 0),some 1,none,[],[]⟩,⟨.mv (.c (.bool false)),some 2,none,[],[]⟩] [1]:=fun _ _ _=>rfl
theorem y24:EqR zgh z6y []:=fun _ _ _=>rfl
theorem fn_right25 {args:List AV} {r:AV} (ha:args.length.ble Tryz.f12.ntmps = true) (h:run (AFn Tryz.prog) zpm (endQ zg6 r) (z0b args)):AFn Tryz.prog 12 args r :=
 AFn.of_code (pv:=false) (hint:=fun _=>[]) (c:=Tryz.f12.body.getD .skip) (by kernel_rfl) (by kernel_rfl) Tryz.func12 (by kernel_rfl) (by kernel_rfl) (by kernel_rfl) (of_decide_eq_true (by kernel_rfl)) (Nat.le_of_ble_eq_true ha) (Nat.le_of_ble_eq_true (by kernel_rfl)) (z09 h)
attribute [local go_sem ↓] y7b
attribute [local go_sem] zto e_onceR_0 e_onceR_1 zff e_onceR_2 e_onceR_3 e_onceR_4 zfe e_onceR_5 e_onceR_6 e_onceR_7 zfd e_onceR_8 zjm e_onceR_9 zfc e_onceR_10 zaf e_onceR_12 e_onceR_13 e_onceR_14 zae e_onceR_16
attribute [local go_sem ↓] zyb
attribute [local go_sem] zl9 e_linked_0 e_linked_1 e_linked_2 zao e_linked_3 e_linked_4 zan zc3 e_linked_5 zam e_linked_6 zal e_linked_7 e_linked_8 zak y37
attribute [local go_sem ↓] y7e
attribute [local go_sem] ztr e_has21_0 e_has21_1 zfo
attribute [local go_sem ↓] zyc
attribute [local go_sem] zla e_leaf21_0 zat e_leaf21_1 zas e_leaf21_2 e_leaf21_3 e_leaf21_4 zar e_leaf21_5 zaq zc4 e_leaf21_6 e_leaf21_7 zap e_leaf21_9
attribute [local go_sem ↓] zpm
attribute [local go_sem] zg6 y25 y24 z6y
theorem countP_at {α:Type} {p:α->Bool} {l:List α} {j:Nat} {x:α} (h:l[j]? = some x):(l.drop j).countP p = (if p x then 1 else 0) + (l.drop (j + 1)).countP p:=by
 rw [z0d h,List.countP_cons,Nat.add_comm]
def o2Inv (l:List Nd) (s:List Seat) (i:Nat) (slot:Int) (k:Nat) (σ:St):Prop :=
 ∃ j n:Nat,j≤s.length∧k = s.length - j∧n≤j∧σ.T 0 = .sl (l.map Nd.a)∧σ.T 1 = .sl (s.map Seat.a)∧σ.T 5 = .int .i64 i∧σ.T 6 = .int .i64 n∧σ.T 7 = .int .i64 j∧n + zd9 (s.drop j) slot = zd9 s slot
def o1Inv (l:List Nd) (s:List Seat) (R:Bool) (k:Nat) (σ:St):Prop :=
 ∃ i:Nat,i≤l.length∧k = l.length - i∧σ.T 0 = .sl (l.map Nd.a)∧σ.T 1 = .sl (s.map Seat.a)∧σ.T 5 = .int .i64 i∧(l.drop i).all (fun n=>zd9 s n.slot == 1) = R
set_option maxHeartbeats 2000000 in
theorem onceT_ok (l:List Nd) (s:List Seat) (hl:l.length≤1000000) (hs:s.length≤1000000):AFn Tryz.prog 41 [.sl (l.map Nd.a),.sl (s.map Seat.a)] (.bool (onceB l s)):=by
 refine fn_onceR rfl ?_
 unfold onceB
 by_cases hq:l.length = s.length
 case neg =>
  have hq':((l.length:Int) != (s.length:Int)) = true:=by simp; omega
  rw [decide_eq_false hq]
  simp (maxSteps:=9^7) only [go_sem,Spn.a,Msg.a,Par.a,Nd.a,Seat.a,Cfg.a,List.length_map,hq',Bool.false_and]
 have hq':((l.length:Int) != (s.length:Int)) = false:=by simp [hq]
 rw [decide_eq_true hq]
 obtain ⟨R,hR⟩:∃ R,l.all (fun n=>zd9 s n.slot == 1) = R:=⟨_,rfl⟩
 rw [hR]
 simp (maxSteps:=9^7) only [go_sem,Spn.a,Msg.a,Par.a,Nd.a,Seat.a,Cfg.a,List.length_map,hq']
 refine z06 (o1Inv l s R) (k:=l.length) ⟨0,by omega,rfl,rfl,rfl,rfl,hR⟩ ?_
 clear hR
 rintro k σ ⟨i,hi,rfl,t0,t1,t5,hr⟩
 simp only [zhu]
 by_cases hlt:i < l.length
 case neg =>
  have hlt':¬ (i:Int) < (l.length:Int):=by omega
  rw [List.drop_eq_nil_of_le (by omega),List.all_nil] at hr
  subst hr
  simp (maxSteps:=9^7) only [go_sem,Spn.a,Msg.a,Par.a,Nd.a,Seat.a,Cfg.a,t0,t1,t5,hlt',List.length_map]
 have hlt':(i:Int) < (l.length:Int):=by omega
 obtain ⟨nd,hx⟩:=z0f hlt
 have hgx:=z0k (f:=Nd.a) hx
 simp only [Nd.a] at hgx
 have hw:=z1a (j:=i) (by omega)
 rw [z0d hx,List.all_cons] at hr
 simp (maxSteps:=9^7) only [go_sem,Spn.a,Msg.a,Par.a,Nd.a,Seat.a,Cfg.a,t0,t1,t5,hlt',List.length_map]
 refine z06 (o2Inv l s i nd.slot) (k:=s.length) ⟨0,0,by omega,rfl,by omega,?_,?_,?_,?_,?_,by rw [List.drop_zero,Nat.zero_add]⟩ ?_
 iterate 5 focus ((simp (maxSteps:=9^7) only [go_sem,Spn.a,Msg.a,Par.a,Nd.a,Seat.a,Cfg.a,t0,t1,t5]) <;> rfl)
 rintro k σ ⟨j,n,hj,rfl,hn,t0,t1,t5,t6,t7,hc⟩
 simp only [zhv]
 by_cases hjt:j < s.length
 ·have hjt':(j:Int) < (s.length:Int):=by omega
  obtain ⟨y,hy⟩:=z0f hjt
  have hgy:=z0k (f:=Seat.a) hy
  simp only [Seat.a] at hgy
  have hwj:=z1a (j:=j) (by omega)
  have hwn:=z1a (j:=n) (by omega)
  unfold zd9 at hc
  rw [countP_at hy] at hc
  cases he:(y.n.slot == nd.slot)
  ·rw [he] at hc
   simp (maxSteps:=9^7) only [go_sem,Spn.a,Msg.a,Par.a,Nd.a,Seat.a,Cfg.a,t0,t1,t5,t6,t7,hlt',hjt',hgx,hgy,he,hwj,List.length_map,Int.toNat_natCast]
   (repeat refine And.intro (by omega) ?_)
   refine ⟨s.length - (j + 1),by omega,j + 1,n,by omega,rfl,by omega,?_,?_,?_,?_,?_,by unfold zd9; rw [← hc]; simp⟩
   iterate 5 focus ((simp (maxSteps:=9^7) only [go_sem,Spn.a,Msg.a,Par.a,Nd.a,Seat.a,Cfg.a,t0,t1,t5,t6,hwj]) <;> rfl)
  ·rw [he] at hc
   simp (maxSteps:=9^7) only [go_sem,Spn.a,Msg.a,Par.a,Nd.a,Seat.a,Cfg.a,t0,t1,t5,t6,t7,hlt',hjt',hgx,hgy,he,hwj,hwn,List.length_map,Int.toNat_natCast]
   (repeat refine And.intro (by omega) ?_)
   refine ⟨s.length - (j + 1),by omega,j + 1,n + 1,by omega,rfl,by omega,?_,?_,?_,?_,?_,by unfold zd9; rw [← hc]; simp; omega⟩
   iterate 5 focus ((simp (maxSteps:=9^7) only [go_sem,Spn.a,Msg.a,Par.a,Nd.a,Seat.a,Cfg.a,t0,t1,t5,hwn,hwj]) <;> rfl)
 ·have hjt':¬ (j:Int) < (s.length:Int):=by omega
  rw [List.drop_eq_nil_of_le (by omega)] at hc
  have hc':n = zd9 s nd.slot:=by rw [← hc]; rfl
  by_cases h1:n = 1
  ·have h1':((n:Int) != 1) = false:=by simp [h1]
   have h2:(zd9 s nd.slot == 1) = true:=by rw [← hc',h1]; rfl
   rw [h2,Bool.true_and] at hr
   simp (maxSteps:=9^7) only [go_sem,Spn.a,Msg.a,Par.a,Nd.a,Seat.a,Cfg.a,t0,t1,t5,t6,t7,hjt',h1',hw,List.length_map]
   refine ⟨l.length - (i + 1),by omega,i + 1,by omega,rfl,?_,?_,?_,hr⟩
   iterate 3 focus ((simp (maxSteps:=9^7) only [go_sem,Spn.a,Msg.a,Par.a,Nd.a,Seat.a,Cfg.a,t0,t1,hw]) <;> rfl)
  ·have h1':((n:Int) != 1) = true:=by simp; omega
   have h2:(zd9 s nd.slot == 1) = false:=by rw [← hc']; simp [h1]
   rw [h2,Bool.false_and] at hr
   subst hr
   simp (maxSteps:=9^7) only [go_sem,Spn.a,Msg.a,Par.a,Nd.a,Seat.a,Cfg.a,t0,t1,t5,t6,t7,hjt',h1',List.length_map]
def lkInv (s:List Seat) (R:Bool) (k:Nat) (σ:St):Prop :=
 ∃ i:Nat,i≤s.length∧k = s.length - i∧σ.T 0 = .sl (s.map Seat.a)∧σ.T 3 = .int .i64 i∧z3t (s.drop i) = R
set_option maxHeartbeats 2000000 in
theorem linked_ok (s:List Seat) (hs:s.length≤1000000):AFn Tryz.prog 42 [.sl (s.map Seat.a)] (.bool (z3t s)):=by
 refine fn_linked rfl ?_
 obtain ⟨R,hR⟩:∃ R,z3t s = R:=⟨_,rfl⟩
 rw [hR]
 simp (maxSteps:=9^7) only [go_sem,Spn.a,Msg.a,Par.a,Nd.a,Seat.a,Cfg.a]
 refine z06 (lkInv s R) (k:=s.length) ⟨0,by omega,rfl,rfl,rfl,hR⟩ ?_
 clear hR
 rintro k σ ⟨i,hi,rfl,t0,t3,hr⟩
 simp only [zhy]
 by_cases hlt:i < s.length
 case neg =>
  have hlt':¬ (i:Int) < (s.length:Int):=by omega
  rw [List.drop_eq_nil_of_le (by omega),z3t] at hr
  subst hr
  simp (maxSteps:=9^7) only [go_sem,Spn.a,Msg.a,Par.a,Nd.a,Seat.a,Cfg.a,t0,t3,hlt',List.length_map]
 have hlt':(i:Int) < (s.length:Int):=by omega
 obtain ⟨x,hx⟩:=z0f hlt
 have hgx:=z0k (f:=Seat.a) hx
 simp only [Seat.a] at hgx
 have hw:=z1a (j:=i) (by omega)
 rw [z0d hx,z3t] at hr
 have fin:∀ w:Int,zkl (x :: s.drop (i + 1)) = w->(x.n.right != w) = !decide (x.n.right = zkl (x :: s.drop (i + 1))):=by
  rintro w rfl
  by_cases h:x.n.right = zkl (x :: s.drop (i + 1))
  ·rw [decide_eq_true h,← h]; simp
  ·rw [decide_eq_false h]; simp [h]
 by_cases hn:i + 1 < s.length
 ·have hn':((i + 1:Nat):Int) < (s.length:Int):=by omega
  obtain ⟨y,hy⟩:=z0f hn
  have hgy:=z0k (f:=Seat.a) hy
  simp only [Seat.a] at hgy
  have hwant:zkl (x :: s.drop (i + 1)) = if y.n.level = x.n.level then y.n.slot else -1:=by rw [z0d hy]; rfl
  cases he:(y.n.level == x.n.level)
  ·have hne:¬ y.n.level = x.n.level:=by simpa using he
   rw [if_neg hne] at hwant
   have hf:=fin _ hwant
   generalize decide (x.n.right = zkl (x :: s.drop (i + 1))) = b at *
   cases b
   ·rw [Bool.false_and] at hr
    subst hr
    simp (maxSteps:=9^7) only [go_sem,Spn.a,Msg.a,Par.a,Nd.a,Seat.a,Cfg.a,t0,t3,hlt',hn',hgx,hgy,he,hf,hw,List.length_map,Int.toNat_natCast]
    all_goals omega
   ·rw [Bool.true_and] at hr
    simp (maxSteps:=9^7) only [go_sem,Spn.a,Msg.a,Par.a,Nd.a,Seat.a,Cfg.a,t0,t3,hlt',hn',hgx,hgy,he,hf,hw,List.length_map,Int.toNat_natCast]
    (repeat refine And.intro (by omega) ?_)
    refine ⟨s.length - (i + 1),by omega,i + 1,by omega,rfl,?_,?_,hr⟩
    iterate 2 focus ((simp (maxSteps:=9^7) only [go_sem,Spn.a,Msg.a,Par.a,Nd.a,Seat.a,Cfg.a,t0,hw]) <;> rfl)
  ·have hne:y.n.level = x.n.level:=by simpa using he
   rw [if_pos hne] at hwant
   have hf:=fin _ hwant
   generalize decide (x.n.right = zkl (x :: s.drop (i + 1))) = b at *
   cases b
   ·rw [Bool.false_and] at hr
    subst hr
    simp (maxSteps:=9^7) only [go_sem,Spn.a,Msg.a,Par.a,Nd.a,Seat.a,Cfg.a,t0,t3,hlt',hn',hgx,hgy,he,hf,hw,List.length_map,Int.toNat_natCast]
    all_goals omega
   ·rw [Bool.true_and] at hr
    simp (maxSteps:=9^7) only [go_sem,Spn.a,Msg.a,Par.a,Nd.a,Seat.a,Cfg.a,t0,t3,hlt',hn',hgx,hgy,he,hf,hw,List.length_map,Int.toNat_natCast]
    (repeat refine And.intro (by omega) ?_)
    refine ⟨s.length - (i + 1),by omega,i + 1,by omega,rfl,?_,?_,hr⟩
    iterate 2 focus ((simp (maxSteps:=9^7) only [go_sem,Spn.a,Msg.a,Par.a,Nd.a,Seat.a,Cfg.a,t0,hw]) <;> rfl)
 ·have hn':¬ ((i + 1:Nat):Int) < (s.length:Int):=by omega
  have hwant:zkl (x :: s.drop (i + 1)) = -1:=by rw [List.drop_eq_nil_of_le (by omega)]; rfl
  have hf:=fin _ hwant
  generalize decide (x.n.right = zkl (x :: s.drop (i + 1))) = b at *
  cases b
  ·rw [Bool.false_and] at hr
   subst hr
   simp (maxSteps:=9^7) only [go_sem,Spn.a,Msg.a,Par.a,Nd.a,Seat.a,Cfg.a,t0,t3,hlt',hn',hgx,hf,hw,List.length_map,Int.toNat_natCast]
   all_goals omega
  ·rw [Bool.true_and] at hr
   simp (maxSteps:=9^7) only [go_sem,Spn.a,Msg.a,Par.a,Nd.a,Seat.a,Cfg.a,t0,t3,hlt',hn',hgx,hf,hw,List.length_map,Int.toNat_natCast]
   (repeat refine And.intro (by omega) ?_)
   refine ⟨s.length - (i + 1),by omega,i + 1,by omega,rfl,?_,?_,hr⟩
   iterate 2 focus ((simp (maxSteps:=9^7) only [go_sem,Spn.a,Msg.a,Par.a,Nd.a,Seat.a,Cfg.a,t0,hw]) <;> rfl)
def hasN (n:Nd) (k:ByteArray):Bool:=n.top || lt k n.high
theorem y7m (n:Nd) (k:ByteArray) (h1:n.high.size≤9223372036854775807) (h2:k.size≤9223372036854775807):AFn Tryz.prog 93 [n.a,.str k] (.bool (hasN n k)):=by
 refine fn_has21 rfl ?_
 have cl:=z3a k n.high h2 h1
 unfold hasN
 obtain ⟨slot,level,pivots,kids,high,top,right,seen,msgs,rows⟩:=n
 simp only at cl ⊢
 generalize lt k high = b at *
 cases top
 ·(repeat (first | simp (maxSteps:=9^7) only [go_sem,Spn.a,Msg.a,Par.a,Nd.a,Seat.a,Cfg.a] | refine z01 (cl) ?_ | refine z00 (cl) ?_ | refine And.intro (by omega) ?_ | refine And.intro (fun d hd=>by (repeat (rcases hd with rfl | hd; · exact ⟨rfl,rfl⟩)); cases hd) ?_))
  all_goals rfl
 ·(repeat (first | simp (maxSteps:=9^7) only [go_sem,Spn.a,Msg.a,Par.a,Nd.a,Seat.a,Cfg.a] | refine z01 (cl) ?_ | refine z00 (cl) ?_ | refine And.intro (by omega) ?_ | refine And.intro (fun d hd=>by (repeat (rcases hd with rfl | hd; · exact ⟨rfl,rfl⟩)); cases hd) ?_))
  all_goals rfl
def leafB (c:Cfg) (n:Nd):Bool:=decide (n.pivots.length + n.kids.length + n.msgs.length = 0) && decide ((n.rows.length:Int)≤c.leaf) && z6s n.rows && n.rows.all fun p=>hasN n p.key
def lfInv (c:Cfg) (n:Nd) (R:Bool) (k:Nat) (σ:St):Prop :=
 ∃ i:Nat,i≤n.rows.length∧k = n.rows.length - i∧σ.T 3 = .ptr 3 0 0∧σ.H 3 = some ⟨10,45,[n.a],0⟩∧σ.T 5 = .int .i64 i∧(n.rows.drop i).all (fun p=>hasN n p.key) = R
set_option maxHeartbeats 2000000 in
theorem leaf21_ok (c:Cfg) (n:Nd) (hn:n.Lt):AFn Tryz.prog 63 [c.a,n.a] (.bool (leafB c n)):=by
 refine fn_leaf21 rfl ?_
 have h1:=hn.npiv
 have h2:=hn.nkid
 have h3:=hn.nmsg
 have h4:=hn.nrow
 have c9:=rRight9_ok n.rows (by omega) (fun p hp=>by have:=(hn.rows p hp).1; omega)
 have hrow:=hn.rows
 have hhi:=hn.high
 unfold leafB
 have hw1:IntKind.i64.wrap ((n.pivots.length:Int) + (n.kids.length:Int)) = ((n.pivots.length + n.kids.length:Nat):Int):=by rw [IntWalk.i64_in _ (by omega)]; omega
 have hw2:IntKind.i64.wrap (((n.pivots.length + n.kids.length:Nat):Int) + (n.msgs.length:Int)) = ((n.pivots.length + n.kids.length + n.msgs.length:Nat):Int):=by rw [IntWalk.i64_in _ (by omega)]; omega
 obtain ⟨R,hR⟩:∃ R,n.rows.all (fun p=>hasN n p.key) = R:=⟨_,rfl⟩
 rw [hR]
 by_cases hz:n.pivots.length + n.kids.length + n.msgs.length = 0
 case neg =>
  have hz':(0:Int) < ((n.pivots.length + n.kids.length + n.msgs.length:Nat):Int):=by omega
  rw [decide_eq_false hz]
  (repeat (first | simp (maxSteps:=9^7) only [go_sem,Spn.a,Msg.a,Par.a,Nd.a,Seat.a,Cfg.a,List.length_map,hw1,hw2,hz'] | refine z01 (c9) ?_ | refine z00 (c9) ?_ | refine And.intro (by omega) ?_ | refine And.intro (fun d hd=>by (repeat (rcases hd with rfl | hd; · exact ⟨rfl,rfl⟩)); cases hd) ?_))
 have hz':¬ (0:Int) < ((n.pivots.length + n.kids.length + n.msgs.length:Nat):Int):=by omega
 rw [decide_eq_true hz]
 by_cases hl:(n.rows.length:Int)≤c.leaf
 case neg =>
  have hl':c.leaf < (n.rows.length:Int):=by omega
  rw [decide_eq_false hl]
  (repeat (first | simp (maxSteps:=9^7) only [go_sem,Spn.a,Msg.a,Par.a,Nd.a,Seat.a,Cfg.a,List.length_map,hw1,hw2,hz',hl'] | refine z01 (c9) ?_ | refine z00 (c9) ?_ | refine And.intro (by omega) ?_ | refine And.intro (fun d hd=>by (repeat (rcases hd with rfl | hd; · exact ⟨rfl,rfl⟩)); cases hd) ?_))
 have hl':¬ c.leaf < (n.rows.length:Int):=by omega
 rw [decide_eq_true hl]
 generalize z6s n.rows = br at *
 cases br
 ·(repeat (first | simp (maxSteps:=9^7) only [go_sem,Spn.a,Msg.a,Par.a,Nd.a,Seat.a,Cfg.a,List.length_map,hw1,hw2,hz',hl'] | refine z01 (c9) ?_ | refine z00 (c9) ?_ | refine And.intro (by omega) ?_ | refine And.intro (fun d hd=>by (repeat (rcases hd with rfl | hd; · exact ⟨rfl,rfl⟩)); cases hd) ?_))
 (repeat (first | simp (maxSteps:=9^7) only [go_sem,Spn.a,Msg.a,Par.a,Nd.a,Seat.a,Cfg.a,List.length_map,hw1,hw2,hz',hl'] | refine z01 (c9) ?_ | refine z00 (c9) ?_ | refine And.intro (by omega) ?_ | refine And.intro (fun d hd=>by (repeat (rcases hd with rfl | hd; · exact ⟨rfl,rfl⟩)); cases hd) ?_))
 refine z06 (lfInv c n R) (k:=n.rows.length) ⟨0,by omega,rfl,?_,?_,?_,hR⟩ ?_
 iterate 3 focus ((simp (maxSteps:=9^7) only [go_sem,Spn.a,Msg.a,Par.a,Nd.a,Seat.a,Cfg.a]) <;> rfl)
 clear hR c9
 rintro k σ ⟨i,hi,rfl,t3,hh3,t5,hr⟩
 simp only [zi0]
 simp only [Nd.a] at hh3
 by_cases hlt:i < n.rows.length
 case neg =>
  have hlt':¬ (i:Int) < (n.rows.length:Int):=by omega
  rw [List.drop_eq_nil_of_le (by omega),List.all_nil] at hr
  subst hr
  simp (maxSteps:=9^7) only [go_sem,Spn.a,Msg.a,Par.a,Nd.a,Seat.a,Cfg.a,t3,hh3,t5,hlt',List.length_map]
 have hlt':(i:Int) < (n.rows.length:Int):=by omega
 obtain ⟨p,hx⟩:=z0f hlt
 have hgx:=z0k (f:=Par.a) hx
 simp only [Par.a] at hgx
 have hw:=z1a (j:=i) (by omega)
 have ch:=y7m n p.key (by omega) (by have:=(hrow p (List.mem_of_getElem? hx)).1; omega)
 rw [z0d hx,List.all_cons] at hr
 generalize hasN n p.key = b at *
 cases b
 ·rw [Bool.false_and] at hr
  subst hr
  (repeat (first | simp (maxSteps:=9^7) only [go_sem,Spn.a,Msg.a,Par.a,Nd.a,Seat.a,Cfg.a,t3,hh3,t5,hlt',hgx,hw,List.length_map,Int.toNat_natCast] | refine z01 (ch) ?_ | refine z00 (ch) ?_ | refine And.intro (by omega) ?_ | refine And.intro (fun d hd=>by (repeat (rcases hd with rfl | hd; · exact ⟨rfl,rfl⟩)); cases hd) ?_))
  all_goals omega
 ·rw [Bool.true_and] at hr
  (repeat (first | simp (maxSteps:=9^7) only [go_sem,Spn.a,Msg.a,Par.a,Nd.a,Seat.a,Cfg.a,t3,hh3,t5,hlt',hgx,hw,List.length_map,Int.toNat_natCast] | refine z01 (ch) ?_ | refine z00 (ch) ?_ | refine And.intro (by omega) ?_ | refine And.intro (fun d hd=>by (repeat (rcases hd with rfl | hd; · exact ⟨rfl,rfl⟩)); cases hd) ?_))
  refine ⟨n.rows.length - (i + 1),by omega,i + 1,by omega,rfl,?_,?_,?_,hr⟩
  iterate 3 focus ((simp (maxSteps:=9^7) only [go_sem,Spn.a,Msg.a,Par.a,Nd.a,Seat.a,Cfg.a,t3,hh3,hw]) <;> rfl)
def cfgB (c:Cfg):Bool:=decide (4≤c.fanout∧c.fanout≤64∧2≤c.leaf∧c.leaf≤64∧36≤c.budget∧c.budget≤4096∧1≤c.slots∧c.slots≤4096∧0≤c.restarts∧c.restarts≤100)
theorem right25_ok (c:Cfg):AFn Tryz.prog 12 [c.a] (.bool (cfgB c)):=by
 refine fn_right25 rfl ?_
 unfold cfgB
 obtain ⟨f,l,b,s,r⟩:=c
 simp only
 by_cases h1:4≤f
 case neg=>rw [decide_eq_false (fun h=>h1 h.1)]; simp (maxSteps:=9^7) only [go_sem,Spn.a,Msg.a,Par.a,Nd.a,Seat.a,Cfg.a,h1]
 by_cases h2:f≤64
 case neg=>rw [decide_eq_false (fun h=>h2 h.2.1)]; simp (maxSteps:=9^7) only [go_sem,Spn.a,Msg.a,Par.a,Nd.a,Seat.a,Cfg.a,h1,h2]
 by_cases h3:2≤l
 case neg=>rw [decide_eq_false (fun h=>h3 h.2.2.1)]; simp (maxSteps:=9^7) only [go_sem,Spn.a,Msg.a,Par.a,Nd.a,Seat.a,Cfg.a,h1,h2,h3]
 by_cases h4:l≤64
 case neg=>rw [decide_eq_false (fun h=>h4 h.2.2.2.1)]; simp (maxSteps:=9^7) only [go_sem,Spn.a,Msg.a,Par.a,Nd.a,Seat.a,Cfg.a,h1,h2,h3,h4]
 by_cases h5:36≤b
 case neg=>rw [decide_eq_false (fun h=>h5 h.2.2.2.2.1)]; simp (maxSteps:=9^7) only [go_sem,Spn.a,Msg.a,Par.a,Nd.a,Seat.a,Cfg.a,h1,h2,h3,h4,h5]
 by_cases h6:b≤4096
 case neg=>rw [decide_eq_false (fun h=>h6 h.2.2.2.2.2.1)]; simp (maxSteps:=9^7) only [go_sem,Spn.a,Msg.a,Par.a,Nd.a,Seat.a,Cfg.a,h1,h2,h3,h4,h5,h6]
 by_cases h7:1≤s
 case neg=>rw [decide_eq_false (fun h=>h7 h.2.2.2.2.2.2.1)]; simp (maxSteps:=9^7) only [go_sem,Spn.a,Msg.a,Par.a,Nd.a,Seat.a,Cfg.a,h1,h2,h3,h4,h5,h6,h7]
 by_cases h8:s≤4096
 case neg=>rw [decide_eq_false (fun h=>h8 h.2.2.2.2.2.2.2.1)]; simp (maxSteps:=9^7) only [go_sem,Spn.a,Msg.a,Par.a,Nd.a,Seat.a,Cfg.a,h1,h2,h3,h4,h5,h6,h7,h8]
 by_cases h9:0≤r
 case neg=>rw [decide_eq_false (fun h=>h9 h.2.2.2.2.2.2.2.2.1)]; simp (maxSteps:=9^7) only [go_sem,Spn.a,Msg.a,Par.a,Nd.a,Seat.a,Cfg.a,h1,h2,h3,h4,h5,h6,h7,h8,h9]
 by_cases h10:r≤100
 case neg=>rw [decide_eq_false (fun h=>h10 h.2.2.2.2.2.2.2.2.2)]; simp (maxSteps:=9^7) only [go_sem,Spn.a,Msg.a,Par.a,Nd.a,Seat.a,Cfg.a,h1,h2,h3,h4,h5,h6,h7,h8,h9,h10]
 rw [decide_eq_true ⟨h1,h2,h3,h4,h5,h6,h7,h8,h9,h10⟩]
 simp (maxSteps:=9^7) only [go_sem,Spn.a,Msg.a,Par.a,Nd.a,Seat.a,Cfg.a,h1,h2,h3,h4,h5,h6,h7,h8,h9,h10]
end
end Go.Proofs.YtlhblpbfhfhlpaaGreat
