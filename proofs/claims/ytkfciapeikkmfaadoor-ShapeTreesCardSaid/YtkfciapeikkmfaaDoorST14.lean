/-
  Part 14 of a proof: RpA, TeD, ShN.
-/
import Derived.Test.YtkfciapeikkmfaaDoorST13
set_option linter.unusedVariables false
set_option linter.unusedSimpArgs false
set_option maxRecDepth 100000
namespace Go.Proofs.YtkfciapeikkmfaaDoor
section
open Go.RowKit
attribute [local go_sem ↓] z1m z0h
def z73:List Par->Bool
 | []=>true
 | [p]=>decide (p.key.size≤16) && decide (p.val.size≤16)
 | p :: q :: l=>decide (p.key.size≤16) && decide (p.val.size≤16) && Op.bytesLess p.key.toList q.key.toList && z73 (q :: l)
def z2o (p:Par):Bool:=decide (p.key.size≤16) && decide (p.val.size≤16)
def z4j:Option Par->List Par->Bool
 | _,[]=>true
 | none,p :: l=>z2o p && z4j (some p) l
 | some q,p :: l=>z2o p && Op.bytesLess q.key.toList p.key.toList && z4j (some p) l
theorem zi5:∀ (p:Par) (l:List Par),(z2o p && z4j (some p) l) = z73 (p :: l)
 | p,[]=>by simp [z4j,z73,z2o]
 | p,q :: l=>by
  have h:=zi5 q l
  show (z2o p && (z2o q && Op.bytesLess p.key.toList q.key.toList && z4j (some q) l)) = (decide (p.key.size≤16) && decide (p.val.size≤16) && Op.bytesLess p.key.toList q.key.toList && z73 (q :: l))
  rw [← h]
  show _ = (z2o p && Op.bytesLess p.key.toList q.key.toList && (z2o q && z4j (some q) l))
  cases z2o p <;> cases z2o q <;> cases Op.bytesLess p.key.toList q.key.toList <;> simp
theorem y34 (l:List Par):z4j none l = z73 l:=by
 cases l with
 | nil=>rfl
 | cons p l=>exact zi5 p l
def y0n (l:List Par) (j:Nat):Option Par:=if j = 0 then none else l[j - 1]?
theorem prevP_next {l:List Par} {j:Nat} {x:Par} (h:l[j]? = some x):y0n l (j + 1) = some x:=by
 unfold y0n
 rw [if_neg (by omega),Nat.add_sub_cancel,h]
theorem rightG_at {l:List Par} {j:Nat} {x:Par} (h:l[j]? = some x) :
  (j = 0->z4j (y0n l j) (l.drop j) = (z2o x && z4j (y0n l (j + 1)) (l.drop (j + 1)))) ∧
  (∀ y,l[j - 1]? = some y->j ≠ 0->z4j (y0n l j) (l.drop j) = (z2o x && Op.bytesLess y.key.toList x.key.toList && z4j (y0n l (j + 1)) (l.drop (j + 1)))):=by
 rw [prevP_next h,z0c h]
 constructor
 ·rintro rfl; rfl
 ·intro y hy hj
  unfold y0n
  rw [if_neg hj,hy]; rfl
theorem rightG_end (l:List Par) (o:Option Par):z4j o (l.drop l.length) = true:=by
 rw [List.drop_eq_nil_of_le (Nat.le_refl _)]
 cases o <;> rfl
def zk0:Reg:=⟨[],[⟨.mv (.c (.bool false)),some 2,none,[],[]⟩],[],[],false⟩
def zjz:Reg:=⟨[],[⟨.mv (.c (.int .i64 0)),some 3,none,[],[]⟩],[],[],false⟩
def z7y:List ROp:=[⟨.mv (.t 3),some 4,none,[],[]⟩,⟨.mv (.t 0),some 5,none,[],[]⟩,⟨.len false (.t 5),some 6,none,[],[]⟩,⟨.bin .lss (.t 4) (.t 6),some 7,none,[],[]⟩]
def zjy:Reg:=⟨[],z7y,[],[],false⟩
def z7x:List ROp:=[⟨.callv (.c (.clo 53 [] [])) [(.t 35),(.t 40)],some 41,(some (29,true)),[],[]⟩,⟨.un .not (.t 41),some 42,(some (29,true)),[],[]⟩,⟨.pick (.t 29) (.t 42) (.c (.bool false)),some 43,(some (26,false)),[],[]⟩,⟨.pick (.t 26) (.c (.bool true)) (.t 43),some 44,none,[],[]⟩]
def z8y:List ROp:=[⟨.mv (.t 0),some 10,none,[41],[]⟩,⟨.mv (.t 3),some 11,none,[41],[]⟩,⟨.iaddr 2 (.t 10) (.t 11),some 12,none,[41],[]⟩,⟨.faddr 0 (.t 12),some 13,none,[41],[]⟩,⟨.load 1 false (.t 13),some 14,none,[41],[]⟩,⟨.len true (.t 14),some 15,none,[41],[]⟩,⟨.bin .gtr (.t 15) (.c (.int .i64 16)),some 16,none,[41],[]⟩,⟨.mv (.t 16),some 17,none,[41],[]⟩,⟨.mv (.t 0),some 18,(some (17,false)),[41],[]⟩,⟨.mv (.t 3),some 19,(some (17,false)),[41],[]⟩,⟨.iaddr 2 (.t 18) (.t 19),some 20,(some (17,false)),[41],[]⟩,⟨.faddr 1 (.t 20),some 21,(some (17,false)),[41],[]⟩,⟨.load 1 false (.t 21),some 22,(some (17,false)),[41],[]⟩,⟨.len true (.t 22),some 23,(some (17,false)),[41],[]⟩,⟨.bin .gtr (.t 23) (.c (.int .i64 16)),some 24,(some (17,false)),[41],[]⟩,⟨.pick (.t 17) (.c (.bool true)) (.t 24),some 25,none,[41],[]⟩,⟨.mv (.t 25),some 26,none,[41],[]⟩,⟨.mv (.t 3),some 27,(some (26,false)),[41],[]⟩,⟨.bin .gtr (.t 27) (.c (.int .i64 0)),some 28,(some (26,false)),[41],[]⟩,⟨.mv (.t 28),some 29,(some (26,false)),[41],[]⟩,⟨.mv (.t 0),some 30,(some (29,true)),[41],[]⟩,⟨.mv (.t 3),some 31,(some (29,true)),[41],[]⟩,⟨.bin .sub (.t 31) (.c (.int .i64 1)),some 32,(some (29,true)),[41],[]⟩,⟨.iaddr 2 (.t 30) (.t 32),some 33,(some (29,true)),[41],[]⟩,⟨.faddr 0 (.t 33),some 34,(some (29,true)),[41],[]⟩,⟨.load 1 false (.t 34),some 35,(some (29,true)),[41],[]⟩,⟨.mv (.t 0),some 36,(some (29,true)),[41],[]⟩,⟨.mv (.t 3),some 37,(some (29,true)),[41],[]⟩,⟨.iaddr 2 (.t 36) (.t 37),some 38,(some (29,true)),[41],[]⟩,⟨.faddr 0 (.t 38),some 39,(some (29,true)),[41],[]⟩,⟨.load 1 false (.t 39),some 40,(some (29,true)),[41],[]⟩]
def zjx:Reg:=⟨z8y,z7x,[41],[],true⟩
def zjw:Reg:=⟨[],[⟨.mv (.c (.bool false)),some 2,none,[],[]⟩],[],[],false⟩
def z7w:List ROp:=[⟨.mv (.t 3),some 8,none,[],[]⟩,⟨.bin .add (.t 8) (.c (.int .i64 1)),some 9,none,[],[]⟩,⟨.mv (.t 9),some 3,none,[],[]⟩]
def zjv:Reg:=⟨[],z7w,[],[],false⟩
def zeg:IR:=(.seq (.seq (.reg zjy)
 (.cond (.t 7) .skip
 (.exit 0)))
 (.seq (.block 1 (.seq (.reg zjx)
 (.cond (.t 44) (.seq (.reg zjw)
 .ret)
 .skip)))
 (.reg zjv)))
def zju:Reg:=⟨[],[⟨.mv (.c (.bool true)),some 2,none,[],[]⟩],[],[],false⟩
def ztm:IR:=(.seq (.reg zk0)
 (.seq (.seq (.reg zjz)
 (.block 0 (.loop zeg)))
 (.seq (.reg zju)
 .ret)))
def zib:List RDesc:=[(.tmp 2)]
theorem y53:EqR zk0 [⟨.mv (.c (.bool false)),some 2,none,[],[]⟩] []:=fun _ _ _=>rfl
theorem y52:EqR zjz [⟨.mv (.c (.int .i64 0)),some 3,none,[],[]⟩] []:=fun _ _ _=>rfl
theorem y51:EqR zjy z7y []:=fun _ _ _=>rfl
theorem y50 (C:FuncId->List AV->AV->Prop) (σ:St) (K:St->Prop):z0m C zjx σ K = z07 C [] z7x z8y (σ.kills [41]) K:=rfl
theorem y4z:EqR zjw [⟨.mv (.c (.bool false)),some 2,none,[],[]⟩] []:=fun _ _ _=>rfl
theorem y4y:EqR zjv z7w []:=fun _ _ _=>rfl
theorem y4x:EqR zju [⟨.mv (.c (.bool true)),some 2,none,[],[]⟩] []:=fun _ _ _=>rfl
theorem fn_rRight9 {args:List AV} {r:AV} (ha:args.length.ble Tryd.f77.ntmps = true) (h:run (AFn Tryd.prog) ztm (endQ zib r) (z0a args)):AFn Tryd.prog 77 args r :=
 AFn.of_code (pv:=false) (hint:=fun _=>[]) (c:=Tryd.f77.body.getD .skip) (by kernel_rfl) (by kernel_rfl) Tryd.func77 (by kernel_rfl) (by kernel_rfl) (by kernel_rfl) (of_decide_eq_true (by kernel_rfl)) (Nat.le_of_ble_eq_true ha) (Nat.le_of_ble_eq_true (by kernel_rfl)) (z0b h)
attribute [local go_sem ↓] ztm
attribute [local go_sem] zib y53 y52 y51 z7y y50 z7x z8y y4z y4y z7w y4x
def r9Inv (l:List Par) (r:Bool) (k:Nat) (σ:St):Prop :=
 ∃ j:Nat,j≤l.length∧k = l.length - j∧σ.T 0 = .sl (l.map Par.a)∧σ.T 3 = .int .i64 j∧r = z4j (y0n l j) (l.drop j)
set_option maxHeartbeats 1000000 in
theorem rRight9_ok (l:List Par) (hl:l.length≤1000000000) (hs:∀ p,p ∈ l->p.key.size≤281474976710656):AFn Tryd.prog 77 [.sl (l.map Par.a)] (.bool (z73 l)):=by
 refine fn_rRight9 rfl ?_
 simp (maxSteps:=9^7) only [go_sem,↓reduceIte,reduceCtorEq,Nat.reduceEqDiff,Nat.reduceBEq,Nat.reduceAdd,Nat.reduceSub,Nat.reduceMul,Nat.reduceLT,Nat.reduceLeDiff,Nat.reduceBNe,Int.reduceBEq,Int.reduceBNe,Int.reduceLT,Int.reduceLE,Par.a]
 refine z08 (r9Inv l (z73 l)) (k:=l.length) ⟨0,by omega,rfl,rfl,rfl,?_⟩ ?_
 ·rw [← y34]; rfl
 rintro k σ ⟨j,hj,rfl,t0,t3,hr⟩
 simp only [zeg]
 generalize hR:z73 l = R at *
 by_cases hlt:j < l.length
 ·have hlt':(j:Int) < (l.length:Int):=by omega
  obtain ⟨x,hx⟩:=z0f hlt
  have hgj:=z0j (f:=Par.a) hx
  simp only [Par.a] at hgj
  have hw:=z1j (j:=j) (by omega)
  obtain ⟨q1,q2⟩:=rightG_at hx
  by_cases hk:(16:Int) < (x.key.size:Int)
  ·have hS:z2o x = false:=by unfold z2o; rw [decide_eq_false (by omega)]; rfl
   have hr':R = false:=by
    by_cases h0:j = 0
    ·rw [hr,q1 h0,hS]; rfl
    ·obtain ⟨y,hy⟩:=z0f (l:=l) (j:=j - 1) (by omega)
     rw [hr,q2 y hy h0,hS]; rfl
   subst hr'
   simp (maxSteps:=9^7) only [go_sem,↓reduceIte,reduceCtorEq,Nat.reduceEqDiff,Nat.reduceBEq,Nat.reduceAdd,Nat.reduceSub,Nat.reduceMul,Nat.reduceLT,Nat.reduceLeDiff,Nat.reduceBNe,Int.reduceBEq,Int.reduceBNe,Int.reduceLT,Int.reduceLE,Par.a,t0,t3,hlt',hgj,hk,List.length_map,Int.toNat_natCast,hw]
   all_goals omega
  by_cases hv:(16:Int) < (x.val.size:Int)
  ·have hS:z2o x = false:=by unfold z2o; rw [decide_eq_false (p:=x.val.size≤16) (by omega),Bool.and_false]
   have hr':R = false:=by
    by_cases h0:j = 0
    ·rw [hr,q1 h0,hS]; rfl
    ·obtain ⟨y,hy⟩:=z0f (l:=l) (j:=j - 1) (by omega)
     rw [hr,q2 y hy h0,hS]; rfl
   subst hr'
   simp (maxSteps:=9^7) only [go_sem,↓reduceIte,reduceCtorEq,Nat.reduceEqDiff,Nat.reduceBEq,Nat.reduceAdd,Nat.reduceSub,Nat.reduceMul,Nat.reduceLT,Nat.reduceLeDiff,Nat.reduceBNe,Int.reduceBEq,Int.reduceBNe,Int.reduceLT,Int.reduceLE,Par.a,t0,t3,hlt',hgj,hk,hv,List.length_map,Int.toNat_natCast,hw]
   all_goals omega
  have hS:z2o x = true:=by unfold z2o; rw [decide_eq_true (by omega),decide_eq_true (by omega)]; rfl
  rw [hS] at q1 q2
  by_cases h0:j = 0
  ·rw [q1 h0] at hr
   have hp:¬ (0:Int) < (j:Int):=by omega
   simp (maxSteps:=9^7) only [go_sem,↓reduceIte,reduceCtorEq,Nat.reduceEqDiff,Nat.reduceBEq,Nat.reduceAdd,Nat.reduceSub,Nat.reduceMul,Nat.reduceLT,Nat.reduceLeDiff,Nat.reduceBNe,Int.reduceBEq,Int.reduceBNe,Int.reduceLT,Int.reduceLE,Par.a,t0,t3,hlt',hgj,hk,hv,hp,List.length_map,Int.toNat_natCast,hw]
   (repeat refine And.intro (by omega) ?_)
   refine ⟨l.length - (j + 1),by omega,j + 1,by omega,rfl,?_,?_,by rw [hr]; simp⟩
   iterate 2 focus ((simp (maxSteps:=9^7) only [go_sem,↓reduceIte,reduceCtorEq,Nat.reduceEqDiff,Nat.reduceBEq,Nat.reduceAdd,Nat.reduceSub,Nat.reduceMul,Nat.reduceLT,Nat.reduceLeDiff,Nat.reduceBNe,Int.reduceBEq,Int.reduceBNe,Int.reduceLT,Int.reduceLE,Par.a,t0,hw]) <;> rfl)
  ·obtain ⟨y,hy⟩:=z0f (l:=l) (j:=j - 1) (by omega)
   have hgy:=z0j (f:=Par.a) hy
   simp only [Par.a] at hgy
   have hp:(0:Int) < (j:Int):=by omega
   have hm:IntKind.i64.wrap ((j:Int) - 1) = ((j - 1:Nat):Int):=by rw [IntWalk.i64_in _ (by omega)]; omega
   have hy':((j - 1:Nat):Int) < (l.length:Int):=by omega
   have cl:=z39 y.key x.key (by have:=hs y (List.mem_of_getElem? hy); omega) (by have:=hs x (List.mem_of_getElem? hx); omega)
   have hB:Op.bytesLess y.key.toList x.key.toList = lt y.key x.key:=rfl
   rw [q2 y hy h0,hB] at hr
   generalize lt y.key x.key = b at *
   cases b
   ·(repeat (first | simp (maxSteps:=9^7) only [go_sem,↓reduceIte,reduceCtorEq,Nat.reduceEqDiff,Nat.reduceBEq,Nat.reduceAdd,Nat.reduceSub,Nat.reduceMul,Nat.reduceLT,Nat.reduceLeDiff,Nat.reduceBNe,Int.reduceBEq,Int.reduceBNe,Int.reduceLT,Int.reduceLE,Par.a,t0,t3,hlt',hgj,hgy,hk,hv,hp,hm,hy',List.length_map,Int.toNat_natCast,hw] | refine z01 (cl) ?_ | refine z00 (cl) ?_ | refine And.intro (by omega) ?_ | refine And.intro (fun d hd=>by (repeat (rcases hd with rfl | hd; · exact ⟨rfl,rfl⟩)); cases hd) ?_))
    all_goals (repeat refine And.intro (by omega) ?_)
    all_goals rw [hr]; rfl
   ·(repeat (first | simp (maxSteps:=9^7) only [go_sem,↓reduceIte,reduceCtorEq,Nat.reduceEqDiff,Nat.reduceBEq,Nat.reduceAdd,Nat.reduceSub,Nat.reduceMul,Nat.reduceLT,Nat.reduceLeDiff,Nat.reduceBNe,Int.reduceBEq,Int.reduceBNe,Int.reduceLT,Int.reduceLE,Par.a,t0,t3,hlt',hgj,hgy,hk,hv,hp,hm,hy',List.length_map,Int.toNat_natCast,hw] | refine z01 (cl) ?_ | refine z00 (cl) ?_ | refine And.intro (by omega) ?_ | refine And.intro (fun d hd=>by (repeat (rcases hd with rfl | hd; · exact ⟨rfl,rfl⟩)); cases hd) ?_))
    refine ⟨l.length - (j + 1),by omega,j + 1,by omega,rfl,?_,?_,by rw [hr]; simp⟩
    iterate 2 focus ((simp (maxSteps:=9^7) only [go_sem,↓reduceIte,reduceCtorEq,Nat.reduceEqDiff,Nat.reduceBEq,Nat.reduceAdd,Nat.reduceSub,Nat.reduceMul,Nat.reduceLT,Nat.reduceLeDiff,Nat.reduceBNe,Int.reduceBEq,Int.reduceBNe,Int.reduceLT,Int.reduceLE,Par.a,t0,hw]) <;> rfl)
 ·have hlt':¬ (j:Int) < (l.length:Int):=by omega
  obtain rfl:j = l.length:=by omega
  simp (maxSteps:=9^7) only [go_sem,↓reduceIte,reduceCtorEq,Nat.reduceEqDiff,Nat.reduceBEq,Nat.reduceAdd,Nat.reduceSub,Nat.reduceMul,Nat.reduceLT,Nat.reduceLeDiff,Nat.reduceBNe,Int.reduceBEq,Int.reduceBNe,Int.reduceLT,Int.reduceLE,Par.a,t0,t3,hlt',List.length_map]
  rw [hr,rightG_end]
end
section
open Go.RowKit
attribute [local go_sem ↓] z1m z0h
def zf3 (seats:List Seat) (s:Int):Nat:=seats.countP fun x=>x.n.slot == s
def y3e (l:List Nd) (seats:List Seat):Bool:=decide (l.length = seats.length) && l.all fun n=>zf3 seats n.slot == 1
def zfp:List Seat->Int
 | x :: y :: _=>if y.n.level = x.n.level then y.n.slot else -1
 | _=>-1
def z21:List Seat->Bool
 | []=>true
 | x :: l=>decide (x.n.right = zfp (x :: l)) && z21 l
def zzr:Reg:=⟨[],[⟨.mv (.c (.bool false)),some 4,none,[],[]⟩],[],[],false⟩
def zhc:List ROp:=[⟨.mv (.t 0),some 8,none,[],[]⟩,⟨.len false (.t 8),some 9,none,[],[]⟩,⟨.mv (.t 1),some 10,none,[],[]⟩,⟨.len false (.t 10),some 11,none,[],[]⟩,⟨.bin .neq (.t 9) (.t 11),some 12,none,[],[]⟩]
def zzq:Reg:=⟨[],zhc,[],[],false⟩
def zzp:Reg:=⟨[],[⟨.mv (.c (.bool false)),some 4,none,[],[]⟩],[],[],false⟩
def zzo:Reg:=⟨[],[⟨.mv (.c (.int .i64 0)),some 5,none,[],[]⟩],[],[],false⟩
def zhb:List ROp:=[⟨.mv (.t 5),some 13,none,[],[]⟩,⟨.mv (.t 0),some 14,none,[],[]⟩,⟨.len false (.t 14),some 15,none,[],[]⟩,⟨.bin .lss (.t 13) (.t 15),some 16,none,[],[]⟩]
def zzn:Reg:=⟨[],zhb,[],[],false⟩
def zzm:Reg:=⟨[],[⟨.mv (.c (.int .i64 0)),some 6,none,[],[]⟩],[],[],false⟩
def zzl:Reg:=⟨[],[⟨.mv (.c (.int .i64 0)),some 7,none,[],[]⟩],[],[],false⟩
def zha:List ROp:=[⟨.mv (.t 7),some 19,none,[],[]⟩,⟨.mv (.t 1),some 20,none,[],[]⟩,⟨.len false (.t 20),some 21,none,[],[]⟩,⟨.bin .lss (.t 19) (.t 21),some 22,none,[],[]⟩]
def zzk:Reg:=⟨[],zha,[],[],false⟩
def zm8:List ROp:=[⟨.mv (.t 1),some 25,none,[],[]⟩,⟨.mv (.t 7),some 26,none,[],[]⟩,⟨.iaddr 14 (.t 25) (.t 26),some 27,none,[],[]⟩,⟨.faddr 0 (.t 27),some 28,none,[],[]⟩,⟨.faddr 0 (.t 28),some 29,none,[],[]⟩,⟨.load 1 false (.t 29),some 30,none,[],[]⟩,⟨.mv (.t 0),some 31,none,[],[]⟩,⟨.mv (.t 5),some 32,none,[],[]⟩,⟨.iaddr 10 (.t 31) (.t 32),some 33,none,[],[]⟩,⟨.faddr 0 (.t 33),some 34,none,[],[]⟩,⟨.load 1 false (.t 34),some 35,none,[],[]⟩]
def zzj:Reg:=⟨zm8,[⟨.bin .eql (.t 30) (.t 35),some 36,none,[],[]⟩],[],[],true⟩
def zh9:List ROp:=[⟨.mv (.t 6),some 37,none,[],[]⟩,⟨.bin .add (.t 37) (.c (.int .i64 1)),some 38,none,[],[]⟩,⟨.mv (.t 38),some 6,none,[],[]⟩]
def zzi:Reg:=⟨[],zh9,[],[],false⟩
def zc5:List ROp:=[⟨.mv (.t 7),some 23,none,[],[]⟩,⟨.bin .add (.t 23) (.c (.int .i64 1)),some 24,none,[],[]⟩,⟨.mv (.t 24),some 7,none,[],[]⟩]
def zrs:Reg:=⟨[],zc5,[],[],false⟩
def zkr:IR:=(.seq (.seq (.reg zzk)
 (.cond (.t 22) .skip
 (.exit 2)))
 (.seq (.block 3 (.seq (.reg zzj)
 (.cond (.t 36) (.reg zzi)
 .skip)))
 (.reg zrs)))
def zrr:Reg:=⟨[],[⟨.mv (.t 6),some 39,none,[],[]⟩,⟨.bin .neq (.t 39) (.c (.int .i64 1)),some 40,none,[],[]⟩],[],[],false⟩
def zrq:Reg:=⟨[],[⟨.mv (.c (.bool false)),some 4,none,[],[]⟩],[],[],false⟩
def zc4:List ROp:=[⟨.mv (.t 5),some 17,none,[],[]⟩,⟨.bin .add (.t 17) (.c (.int .i64 1)),some 18,none,[],[]⟩,⟨.mv (.t 18),some 5,none,[],[]⟩]
def zrp:Reg:=⟨[],zc4,[],[],false⟩
def zkq:IR:=(.seq (.seq (.reg zzn)
 (.cond (.t 16) .skip
 (.exit 0)))
 (.seq (.block 1 (.seq (.reg zzm)
 (.seq (.seq (.reg zzl)
 (.block 2 (.loop zkr)))
 (.seq (.reg zrr)
 (.cond (.t 40) (.seq (.reg zrq)
 .ret)
 .skip)))))
 (.reg zrp)))
def zro:Reg:=⟨[],[⟨.mv (.c (.bool true)),some 4,none,[],[]⟩],[],[],false⟩
def y8r:IR:=(.seq (.reg zzr)
 (.seq (.seq (.reg zzq)
 (.cond (.t 12) (.seq (.reg zzp)
 .ret)
 .skip))
 (.seq (.seq (.reg zzo)
 (.block 0 (.loop zkq)))
 (.seq (.reg zro)
 .ret))))
def zwm:List RDesc:=[(.tmp 4)]
theorem e_onceR_0:EqR zzr [⟨.mv (.c (.bool false)),some 4,none,[],[]⟩] []:=fun _ _ _=>rfl
theorem e_onceR_1:EqR zzq zhc []:=fun _ _ _=>rfl
theorem e_onceR_2:EqR zzp [⟨.mv (.c (.bool false)),some 4,none,[],[]⟩] []:=fun _ _ _=>rfl
theorem e_onceR_3:EqR zzo [⟨.mv (.c (.int .i64 0)),some 5,none,[],[]⟩] []:=fun _ _ _=>rfl
theorem e_onceR_4:EqR zzn zhb []:=fun _ _ _=>rfl
theorem e_onceR_5:EqR zzm [⟨.mv (.c (.int .i64 0)),some 6,none,[],[]⟩] []:=fun _ _ _=>rfl
theorem e_onceR_6:EqR zzl [⟨.mv (.c (.int .i64 0)),some 7,none,[],[]⟩] []:=fun _ _ _=>rfl
theorem e_onceR_7:EqR zzk zha []:=fun _ _ _=>rfl
theorem e_onceR_8 (C:FuncId->List AV->AV->Prop) (σ:St) (K:St->Prop):z0m C zzj σ K = z07 C [] [⟨.bin .eql (.t 30) (.t 35),some 36,none,[],[]⟩] zm8 (σ.kills []) K:=rfl
theorem e_onceR_9:EqR zzi zh9 []:=fun _ _ _=>rfl
theorem e_onceR_10:EqR zrs zc5 []:=fun _ _ _=>rfl
theorem e_onceR_12:EqR zrr [⟨.mv (.t 6),some 39,none,[],[]⟩,⟨.bin .neq (.t 39) (.c (.int .i64 1)),some 40,none,[],[]⟩] []:=fun _ _ _=>rfl
theorem e_onceR_13:EqR zrq [⟨.mv (.c (.bool false)),some 4,none,[],[]⟩] []:=fun _ _ _=>rfl
theorem e_onceR_14:EqR zrp zc4 []:=fun _ _ _=>rfl
theorem e_onceR_16:EqR zro [⟨.mv (.c (.bool true)),some 4,none,[],[]⟩] []:=fun _ _ _=>rfl
theorem fn_onceR {args:List AV} {r:AV} (ha:args.length.ble Tryd.f48.ntmps = true) (h:run (AFn Tryd.prog) y8r (endQ zwm r) (z0a args)):AFn Tryd.prog 48 args r :=
 AFn.of_code (pv:=false) (hint:=fun _=>[]) (c:=Tryd.f48.body.getD .skip) (by kernel_rfl) (by kernel_rfl) Tryd.func48 (by kernel_rfl) (by kernel_rfl) (by kernel_rfl) (of_decide_eq_true (by kernel_rfl)) (Nat.le_of_ble_eq_true ha) (Nat.le_of_ble_eq_true (by kernel_rfl)) (z0b h)
def zs5:Reg:=⟨[],[⟨.mv (.c (.bool false)),some 2,none,[],[]⟩],[],[],false⟩
def zs4:Reg:=⟨[],[⟨.mv (.c (.int .i64 0)),some 3,none,[],[]⟩],[],[],false⟩
def zcb:List ROp:=[⟨.mv (.t 3),some 5,none,[],[]⟩,⟨.mv (.t 0),some 6,none,[],[]⟩,⟨.len false (.t 6),some 7,none,[],[]⟩,⟨.bin .lss (.t 5) (.t 7),some 8,none,[],[]⟩]
def zs3:Reg:=⟨[],zcb,[],[],false⟩
def zs2:Reg:=⟨[],[⟨.mv (.c (.int .i64 (-1))),some 4,none,[],[]⟩],[],[],false⟩
def zca:List ROp:=[⟨.bin .eql (.t 23) (.t 29),some 30,(some (16,true)),[],[]⟩,⟨.pick (.t 16) (.t 30) (.c (.bool false)),some 31,none,[],[]⟩]
def zdp:List ROp:=[⟨.mv (.t 3),some 11,none,[],[]⟩,⟨.bin .add (.t 11) (.c (.int .i64 1)),some 12,none,[],[]⟩,⟨.mv (.t 0),some 13,none,[],[]⟩,⟨.len false (.t 13),some 14,none,[],[]⟩,⟨.bin .lss (.t 12) (.t 14),some 15,none,[],[]⟩,⟨.mv (.t 15),some 16,none,[],[]⟩,⟨.mv (.t 0),some 17,(some (16,true)),[],[]⟩,⟨.mv (.t 3),some 18,(some (16,true)),[],[]⟩,⟨.bin .add (.t 18) (.c (.int .i64 1)),some 19,(some (16,true)),[],[]⟩,⟨.iaddr 14 (.t 17) (.t 19),some 20,(some (16,true)),[],[]⟩,⟨.faddr 0 (.t 20),some 21,(some (16,true)),[],[]⟩,⟨.faddr 1 (.t 21),some 22,(some (16,true)),[],[]⟩,⟨.load 1 false (.t 22),some 23,(some (16,true)),[],[]⟩,⟨.mv (.t 0),some 24,(some (16,true)),[],[]⟩,⟨.mv (.t 3),some 25,(some (16,true)),[],[]⟩,⟨.iaddr 14 (.t 24) (.t 25),some 26,(some (16,true)),[],[]⟩,⟨.faddr 0 (.t 26),some 27,(some (16,true)),[],[]⟩,⟨.faddr 1 (.t 27),some 28,(some (16,true)),[],[]⟩,⟨.load 1 false (.t 28),some 29,(some (16,true)),[],[]⟩]
def zs1:Reg:=⟨zdp,zca,[],[],true⟩
def zc9:List ROp:=[⟨.mv (.t 0),some 32,none,[],[]⟩,⟨.mv (.t 3),some 33,none,[],[]⟩,⟨.bin .add (.t 33) (.c (.int .i64 1)),some 34,none,[],[]⟩,⟨.iaddr 14 (.t 32) (.t 34),some 35,none,[],[]⟩,⟨.faddr 0 (.t 35),some 36,none,[],[]⟩,⟨.faddr 0 (.t 36),some 37,none,[],[]⟩,⟨.load 1 false (.t 37),some 38,none,[],[]⟩,⟨.mv (.t 38),some 4,none,[],[]⟩]
def zs0:Reg:=⟨[],zc9,[],[],false⟩
def zc8:List ROp:=[⟨.mv (.t 0),some 39,none,[],[]⟩,⟨.mv (.t 3),some 40,none,[],[]⟩,⟨.iaddr 14 (.t 39) (.t 40),some 41,none,[],[]⟩,⟨.faddr 0 (.t 41),some 42,none,[],[]⟩,⟨.faddr 6 (.t 42),some 43,none,[],[]⟩,⟨.load 1 false (.t 43),some 44,none,[],[]⟩,⟨.mv (.t 4),some 45,none,[],[]⟩,⟨.bin .neq (.t 44) (.t 45),some 46,none,[],[]⟩]
def zrz:Reg:=⟨[],zc8,[],[],false⟩
def zry:Reg:=⟨[],[⟨.mv (.c (.bool false)),some 2,none,[],[]⟩],[],[],false⟩
def zc7:List ROp:=[⟨.mv (.t 3),some 9,none,[],[]⟩,⟨.bin .add (.t 9) (.c (.int .i64 1)),some 10,none,[],[]⟩,⟨.mv (.t 10),some 3,none,[],[]⟩]
def zrx:Reg:=⟨[],zc7,[],[],false⟩
def zkt:IR:=(.seq (.seq (.reg zs3)
 (.cond (.t 8) .skip
 (.exit 0)))
 (.seq (.block 1 (.seq (.reg zs2)
 (.seq (.seq (.reg zs1)
 (.cond (.t 31) (.reg zs0)
 .skip))
 (.seq (.reg zrz)
 (.cond (.t 46) (.seq (.reg zry)
 .ret)
 .skip)))))
 (.reg zrx)))
def zku:Reg:=⟨[],[⟨.mv (.c (.bool true)),some 2,none,[],[]⟩],[],[],false⟩
def y1f:IR:=(.seq (.reg zs5)
 (.seq (.seq (.reg zs4)
 (.block 0 (.loop zkt)))
 (.seq (.reg zku)
 .ret)))
def zo0:List RDesc:=[(.tmp 2)]
theorem e_linked_0:EqR zs5 [⟨.mv (.c (.bool false)),some 2,none,[],[]⟩] []:=fun _ _ _=>rfl
theorem e_linked_1:EqR zs4 [⟨.mv (.c (.int .i64 0)),some 3,none,[],[]⟩] []:=fun _ _ _=>rfl
theorem e_linked_2:EqR zs3 zcb []:=fun _ _ _=>rfl
theorem e_linked_3:EqR zs2 [⟨.mv (.c (.int .i64 (-1))),some 4,none,[],[]⟩] []:=fun _ _ _=>rfl
theorem e_linked_4 (C:FuncId->List AV->AV->Prop) (σ:St) (K:St->Prop):z0m C zs1 σ K = z07 C [] zca zdp (σ.kills []) K:=rfl
theorem e_linked_5:EqR zs0 zc9 []:=fun _ _ _=>rfl
theorem e_linked_6:EqR zrz zc8 []:=fun _ _ _=>rfl
theorem e_linked_7:EqR zry [⟨.mv (.c (.bool false)),some 2,none,[],[]⟩] []:=fun _ _ _=>rfl
theorem e_linked_8:EqR zrx zc7 []:=fun _ _ _=>rfl
theorem y5p:EqR zku [⟨.mv (.c (.bool true)),some 2,none,[],[]⟩] []:=fun _ _ _=>rfl
theorem fn_linked {args:List AV} {r:AV} (ha:args.length.ble Tryd.f49.ntmps = true) (h:run (AFn Tryd.prog) y1f (endQ zo0 r) (z0a args)):AFn Tryd.prog 49 args r :=
 AFn.of_code (pv:=false) (hint:=fun _=>[]) (c:=Tryd.f49.body.getD .skip) (by kernel_rfl) (by kernel_rfl) Tryd.func49 (by kernel_rfl) (by kernel_rfl) (by kernel_rfl) (of_decide_eq_true (by kernel_rfl)) (Nat.le_of_ble_eq_true ha) (Nat.le_of_ble_eq_true (by kernel_rfl)) (z0b h)
def y0b:Reg:=⟨[],[⟨.box 10 27 (.t 0),some 2,none,[],[]⟩,⟨.mv (.c (.bool false)),some 4,none,[],[]⟩],[2],[],false⟩
def zhl:List ROp:=[⟨.faddr 5 (.t 2),some 5,none,[11],[]⟩,⟨.load 1 false (.t 5),some 6,none,[11],[]⟩,⟨.mv (.t 6),some 7,none,[11],[]⟩,⟨.mv (.t 1),some 8,(some (7,false)),[11],[]⟩,⟨.faddr 4 (.t 2),some 9,(some (7,false)),[11],[]⟩,⟨.load 1 false (.t 9),some 10,(some (7,false)),[11],[]⟩,⟨.callv (.c (.clo 53 [] [])) [(.t 8),(.t 10)],some 11,(some (7,false)),[],[]⟩,⟨.pick (.t 7) (.c (.bool true)) (.t 11),some 12,none,[],[]⟩,⟨.mv (.t 12),some 4,none,[],[]⟩]
def y0a:Reg:=⟨[],zhl,[11],[],false⟩
def y8u:IR:=(.seq (.reg y0b)
 (.seq (.reg y0a)
 .ret))
def zwp:List RDesc:=[(.tmp 4)]
theorem e_has21_0:EqR y0b [⟨.box 10 27 (.t 0),some 2,none,[],[]⟩,⟨.mv (.c (.bool false)),some 4,none,[],[]⟩] [2]:=fun _ _ _=>rfl
theorem e_has21_1:EqR y0a zhl [11]:=fun _ _ _=>rfl
theorem fn_has21 {args:List AV} {r:AV} (ha:args.length.ble Tryd.f78.ntmps = true) (h:run (AFn Tryd.prog) y8u (endQ zwp r) (z0a args)):AFn Tryd.prog 78 args r :=
 AFn.of_code (pv:=false) (hint:=fun _=>[]) (c:=Tryd.f78.body.getD .skip) (by kernel_rfl) (by kernel_rfl) Tryd.func78 (by kernel_rfl) (by kernel_rfl) (by kernel_rfl) (of_decide_eq_true (by kernel_rfl)) (Nat.le_of_ble_eq_true ha) (Nat.le_of_ble_eq_true (by kernel_rfl)) (z0b h)
def zcg:List ROp:=[⟨.box 5 37 (.t 0),some 2,none,[3],[]⟩,⟨.box 10 27 (.t 1),some 3,none,[],[]⟩,⟨.mv (.c (.bool false)),some 4,none,[],[]⟩]
def zsf:Reg:=⟨[],zcg,[2,3],[],false⟩
def zcf:List ROp:=[⟨.faddr 2 (.t 3),some 6,none,[29],[]⟩,⟨.load 1 false (.t 6),some 7,none,[29],[]⟩,⟨.len false (.t 7),some 8,none,[29],[]⟩,⟨.faddr 3 (.t 3),some 9,none,[29],[]⟩,⟨.load 1 false (.t 9),some 10,none,[29],[]⟩,⟨.len false (.t 10),some 11,none,[29],[]⟩,⟨.bin .add (.t 8) (.t 11),some 12,none,[29],[]⟩,⟨.faddr 8 (.t 3),some 13,none,[29],[]⟩,⟨.load 1 false (.t 13),some 14,none,[29],[]⟩,⟨.len false (.t 14),some 15,none,[29],[]⟩,⟨.bin .add (.t 12) (.t 15),some 16,none,[29],[]⟩,⟨.bin .gtr (.t 16) (.c (.int .i64 0)),some 17,none,[29],[]⟩,⟨.mv (.t 17),some 18,none,[29],[]⟩,⟨.faddr 9 (.t 3),some 19,(some (18,false)),[29],[]⟩,⟨.load 1 false (.t 19),some 20,(some (18,false)),[29],[]⟩,⟨.len false (.t 20),some 21,(some (18,false)),[29],[]⟩,⟨.faddr 1 (.t 2),some 22,(some (18,false)),[29],[]⟩,⟨.load 1 false (.t 22),some 23,(some (18,false)),[29],[]⟩,⟨.bin .gtr (.t 21) (.t 23),some 24,(some (18,false)),[29],[]⟩,⟨.pick (.t 18) (.c (.bool true)) (.t 24),some 25,none,[29],[]⟩,⟨.mv (.t 25),some 26,none,[29],[]⟩,⟨.faddr 9 (.t 3),some 27,(some (26,false)),[29],[]⟩,⟨.load 1 false (.t 27),some 28,(some (26,false)),[29],[]⟩,⟨.callv (.c (.clo 77 [] [])) [(.t 28)],some 29,(some (26,false)),[],[]⟩,⟨.un .not (.t 29),some 30,(some (26,false)),[],[]⟩,⟨.pick (.t 26) (.c (.bool true)) (.t 30),some 31,none,[],[]⟩]
def zse:Reg:=⟨[],zcf,[29],[],false⟩
def zsd:Reg:=⟨[],[⟨.mv (.c (.bool false)),some 4,none,[],[]⟩],[],[],false⟩
def zsc:Reg:=⟨[],[⟨.mv (.c (.int .i64 0)),some 5,none,[],[]⟩],[],[],false⟩
def zce:List ROp:=[⟨.mv (.t 5),some 32,none,[],[]⟩,⟨.faddr 9 (.t 3),some 33,none,[],[]⟩,⟨.load 1 false (.t 33),some 34,none,[],[]⟩,⟨.len false (.t 34),some 35,none,[],[]⟩,⟨.bin .lss (.t 32) (.t 35),some 36,none,[],[]⟩]
def zsb:Reg:=⟨[],zce,[],[],false⟩
def zcd:List ROp:=[⟨.callv (.c (.clo 78 [] [])) [(.t 39),(.t 45)],some 46,none,[],[]⟩,⟨.un .not (.t 46),some 47,none,[],[]⟩]
def zdq:List ROp:=[⟨.load 10 true (.t 3),some 39,none,[46],[]⟩,⟨.faddr 9 (.t 3),some 40,none,[46],[]⟩,⟨.load 1 false (.t 40),some 41,none,[46],[]⟩,⟨.mv (.t 5),some 42,none,[46],[]⟩,⟨.iaddr 2 (.t 41) (.t 42),some 43,none,[46],[]⟩,⟨.faddr 0 (.t 43),some 44,none,[46],[]⟩,⟨.load 1 false (.t 44),some 45,none,[46],[]⟩]
def zsa:Reg:=⟨zdq,zcd,[46],[],true⟩
def zs9:Reg:=⟨[],[⟨.mv (.c (.bool false)),some 4,none,[],[]⟩],[],[],false⟩
def zcc:List ROp:=[⟨.mv (.t 5),some 37,none,[],[]⟩,⟨.bin .add (.t 37) (.c (.int .i64 1)),some 38,none,[],[]⟩,⟨.mv (.t 38),some 5,none,[],[]⟩]
def zs8:Reg:=⟨[],zcc,[],[],false⟩
def zkv:IR:=(.seq (.seq (.reg zsb)
 (.cond (.t 36) .skip
 (.exit 0)))
 (.seq (.block 1 (.seq (.reg zsa)
 (.cond (.t 47) (.seq (.reg zs9)
 .ret)
 .skip)))
 (.reg zs8)))
def zs7:Reg:=⟨[],[⟨.mv (.c (.bool true)),some 4,none,[],[]⟩],[],[],false⟩
def y1g:IR:=(.seq (.reg zsf)
 (.seq (.seq (.reg zse)
 (.cond (.t 31) (.seq (.reg zsd)
 .ret)
 .skip))
 (.seq (.seq (.reg zsc)
 (.block 0 (.loop zkv)))
 (.seq (.reg zs7)
 .ret))))
def zo1:List RDesc:=[(.tmp 4)]
theorem e_leaf21_0:EqR zsf zcg [2,3]:=fun _ _ _=>rfl
theorem e_leaf21_1:EqR zse zcf [29]:=fun _ _ _=>rfl
theorem e_leaf21_2:EqR zsd [⟨.mv (.c (.bool false)),some 4,none,[],[]⟩] []:=fun _ _ _=>rfl
theorem e_leaf21_3:EqR zsc [⟨.mv (.c (.int .i64 0)),some 5,none,[],[]⟩] []:=fun _ _ _=>rfl
theorem e_leaf21_4:EqR zsb zce []:=fun _ _ _=>rfl
theorem e_leaf21_5 (C:FuncId->List AV->AV->Prop) (σ:St) (K:St->Prop):z0m C zsa σ K = z07 C [] zcd zdq (σ.kills [46]) K:=rfl
theorem e_leaf21_6:EqR zs9 [⟨.mv (.c (.bool false)),some 4,none,[],[]⟩] []:=fun _ _ _=>rfl
theorem e_leaf21_7:EqR zs8 zcc []:=fun _ _ _=>rfl
theorem e_leaf21_9:EqR zs7 [⟨.mv (.c (.bool true)),some 4,none,[],[]⟩] []:=fun _ _ _=>rfl
theorem fn_leaf21 {args:List AV} {r:AV} (ha:args.length.ble Tryd.f65.ntmps = true) (h:run (AFn Tryd.prog) y1g (endQ zo1 r) (z0a args)):AFn Tryd.prog 65 args r :=
 AFn.of_code (pv:=false) (hint:=fun _=>[]) (c:=Tryd.f65.body.getD .skip) (by kernel_rfl) (by kernel_rfl) Tryd.func65 (by kernel_rfl) (by kernel_rfl) (by kernel_rfl) (of_decide_eq_true (by kernel_rfl)) (Nat.le_of_ble_eq_true ha) (Nat.le_of_ble_eq_true (by kernel_rfl)) (z0b h)
def zj7:Reg:=⟨[],[⟨.box 5 37 (.t 0),some 1,none,[],[]⟩,⟨.mv (.c (.bool false)),some 2,none,[],[]⟩],[1],[],false⟩
def z7n:List ROp:=[⟨.faddr 0 (.t 1),some 3,none,[],[]⟩,⟨.load 1 false (.t 3),some 4,none,[],[]⟩,⟨.bin .geq (.t 4) (.c (.int .i64 4)),some 5,none,[],[]⟩,⟨.mv (.t 5),some 6,none,[],[]⟩,⟨.faddr 0 (.t 1),some 7,(some (6,true)),[],[]⟩,⟨.load 1 false (.t 7),some 8,(some (6,true)),[],[]⟩,⟨.bin .leq (.t 8) (.c (.int .i64 64)),some 9,(some (6,true)),[],[]⟩,⟨.pick (.t 6) (.t 9) (.c (.bool false)),some 10,none,[],[]⟩,⟨.mv (.t 10),some 11,none,[],[]⟩,⟨.faddr 1 (.t 1),some 12,(some (11,true)),[],[]⟩,⟨.load 1 false (.t 12),some 13,(some (11,true)),[],[]⟩,⟨.bin .geq (.t 13) (.c (.int .i64 2)),some 14,(some (11,true)),[],[]⟩,⟨.pick (.t 11) (.t 14) (.c (.bool false)),some 15,none,[],[]⟩,⟨.mv (.t 15),some 16,none,[],[]⟩,⟨.faddr 1 (.t 1),some 17,(some (16,true)),[],[]⟩,⟨.load 1 false (.t 17),some 18,(some (16,true)),[],[]⟩,⟨.bin .leq (.t 18) (.c (.int .i64 64)),some 19,(some (16,true)),[],[]⟩,⟨.pick (.t 16) (.t 19) (.c (.bool false)),some 20,none,[],[]⟩,⟨.mv (.t 20),some 21,none,[],[]⟩,⟨.faddr 2 (.t 1),some 22,(some (21,true)),[],[]⟩,⟨.load 1 false (.t 22),some 23,(some (21,true)),[],[]⟩,⟨.bin .geq (.t 23) (.c (.int .i64 36)),some 24,(some (21,true)),[],[]⟩,⟨.pick (.t 21) (.t 24) (.c (.bool false)),some 25,none,[],[]⟩,⟨.mv (.t 25),some 26,none,[],[]⟩,⟨.faddr 2 (.t 1),some 27,(some (26,true)),[],[]⟩,⟨.load 1 false (.t 27),some 28,(some (26,true)),[],[]⟩,⟨.bin .leq (.t 28) (.c (.int .i64 4096)),some 29,(some (26,true)),[],[]⟩,⟨.pick (.t 26) (.t 29) (.c (.bool false)),some 30,none,[],[]⟩,⟨.mv (.t 30),some 31,none,[],[]⟩,⟨.faddr 3 (.t 1),some 32,(some (31,true)),[],[]⟩,⟨.load 1 false (.t 32),some 33,(some (31,true)),[],[]⟩,⟨.bin .geq (.t 33) (.c (.int .i64 1)),some 34,(some (31,true)),[],[]⟩,⟨.pick (.t 31) (.t 34) (.c (.bool false)),some 35,none,[],[]⟩,⟨.mv (.t 35),some 36,none,[],[]⟩,⟨.faddr 3 (.t 1),some 37,(some (36,true)),[],[]⟩,⟨.load 1 false (.t 37),some 38,(some (36,true)),[],[]⟩,⟨.bin .leq (.t 38) (.c (.int .i64 4096)),some 39,(some (36,true)),[],[]⟩,⟨.pick (.t 36) (.t 39) (.c (.bool false)),some 40,none,[],[]⟩,⟨.mv (.t 40),some 41,none,[],[]⟩,⟨.faddr 4 (.t 1),some 42,(some (41,true)),[],[]⟩,⟨.load 1 false (.t 42),some 43,(some (41,true)),[],[]⟩,⟨.bin .geq (.t 43) (.c (.int .i64 0)),some 44,(some (41,true)),[],[]⟩,⟨.pick (.t 41) (.t 44) (.c (.bool false)),some 45,none,[],[]⟩,⟨.mv (.t 45),some 46,none,[],[]⟩,⟨.faddr 4 (.t 1),some 47,(some (46,true)),[],[]⟩,⟨.load 1 false (.t 47),some 48,(some (46,true)),[],[]⟩,⟨.bin .leq (.t 48) (.c (.int .i64 100)),some 49,(some (46,true)),[],[]⟩,⟨.pick (.t 46) (.t 49) (.c (.bool false)),some 50,none,[],[]⟩,⟨.mv (.t 50),some 2,none,[],[]⟩]
def zj6:Reg:=⟨[],z7n,[],[],false⟩
def ztj:IR:=(.seq (.reg zj7)
 (.seq (.reg zj6)
 .ret))
def zi8:List RDesc:=[(.tmp 2)]
theorem y4k:EqR zj7 [⟨.box 5 37 (.t 0),some 1,none,[],[]⟩,⟨.mv (.c (.bool false)),some 2,none,[],[]⟩] [1]:=fun _ _ _=>rfl
theorem y4j:EqR zj6 z7n []:=fun _ _ _=>rfl
theorem fn_right25 {args:List AV} {r:AV} (ha:args.length.ble Tryd.f26.ntmps = true) (h:run (AFn Tryd.prog) ztj (endQ zi8 r) (z0a args)):AFn Tryd.prog 26 args r :=
 AFn.of_code (pv:=false) (hint:=fun _=>[]) (c:=Tryd.f26.body.getD .skip) (by kernel_rfl) (by kernel_rfl) Tryd.func26 (by kernel_rfl) (by kernel_rfl) (by kernel_rfl) (of_decide_eq_true (by kernel_rfl)) (Nat.le_of_ble_eq_true ha) (Nat.le_of_ble_eq_true (by kernel_rfl)) (z0b h)
attribute [local go_sem ↓] y8r
attribute [local go_sem] zwm e_onceR_0 e_onceR_1 zhc e_onceR_2 e_onceR_3 e_onceR_4 zhb e_onceR_5 e_onceR_6 e_onceR_7 zha e_onceR_8 zm8 e_onceR_9 zh9 e_onceR_10 zc5 e_onceR_12 e_onceR_13 e_onceR_14 zc4 e_onceR_16
attribute [local go_sem ↓] y1f
attribute [local go_sem] zo0 e_linked_0 e_linked_1 e_linked_2 zcb e_linked_3 e_linked_4 zca zdp e_linked_5 zc9 e_linked_6 zc8 e_linked_7 e_linked_8 zc7 y5p
attribute [local go_sem ↓] y8u
attribute [local go_sem] zwp e_has21_0 e_has21_1 zhl
attribute [local go_sem ↓] y1g
attribute [local go_sem] zo1 e_leaf21_0 zcg e_leaf21_1 zcf e_leaf21_2 e_leaf21_3 e_leaf21_4 zce e_leaf21_5 zcd zdq e_leaf21_6 e_leaf21_7 zcc e_leaf21_9
attribute [local go_sem ↓] ztj
attribute [local go_sem] zi8 y4k y4j z7n
theorem countP_at {α:Type} {p:α->Bool} {l:List α} {j:Nat} {x:α} (h:l[j]? = some x):(l.drop j).countP p = (if p x then 1 else 0) + (l.drop (j + 1)).countP p:=by
 rw [z0c h,List.countP_cons,Nat.add_comm]
def o2Inv (l:List Nd) (s:List Seat) (i:Nat) (slot:Int) (k:Nat) (σ:St):Prop :=
 ∃ j n:Nat,j≤s.length∧k = s.length - j∧n≤j∧σ.T 0 = .sl (l.map Nd.a)∧σ.T 1 = .sl (s.map Seat.a)∧σ.T 5 = .int .i64 i∧σ.T 6 = .int .i64 n∧σ.T 7 = .int .i64 j∧n + zf3 (s.drop j) slot = zf3 s slot
def o1Inv (l:List Nd) (s:List Seat) (R:Bool) (k:Nat) (σ:St):Prop :=
 ∃ i:Nat,i≤l.length∧k = l.length - i∧σ.T 0 = .sl (l.map Nd.a)∧σ.T 1 = .sl (s.map Seat.a)∧σ.T 5 = .int .i64 i∧(l.drop i).all (fun n=>zf3 s n.slot == 1) = R
set_option maxHeartbeats 2000000 in
theorem onceT_ok (l:List Nd) (s:List Seat) (hl:l.length≤1000000) (hs:s.length≤1000000):AFn Tryd.prog 48 [.sl (l.map Nd.a),.sl (s.map Seat.a)] (.bool (y3e l s)):=by
 refine fn_onceR rfl ?_
 unfold y3e
 by_cases hq:l.length = s.length
 case neg =>
  have hq':((l.length:Int) != (s.length:Int)) = true:=by simp; omega
  rw [decide_eq_false hq]
  simp (maxSteps:=9^7) only [go_sem,↓reduceIte,reduceCtorEq,Nat.reduceEqDiff,Nat.reduceBEq,Nat.reduceAdd,Nat.reduceSub,Nat.reduceMul,Nat.reduceLT,Nat.reduceLeDiff,Nat.reduceBNe,Int.reduceBEq,Int.reduceBNe,Int.reduceLT,Int.reduceLE,Spn.a,Msg.a,Par.a,Nd.a,Seat.a,Cfg.a,List.length_map,hq',Bool.false_and]
 have hq':((l.length:Int) != (s.length:Int)) = false:=by simp [hq]
 rw [decide_eq_true hq]
 obtain ⟨R,hR⟩:∃ R,l.all (fun n=>zf3 s n.slot == 1) = R:=⟨_,rfl⟩
 rw [hR]
 simp (maxSteps:=9^7) only [go_sem,↓reduceIte,reduceCtorEq,Nat.reduceEqDiff,Nat.reduceBEq,Nat.reduceAdd,Nat.reduceSub,Nat.reduceMul,Nat.reduceLT,Nat.reduceLeDiff,Nat.reduceBNe,Int.reduceBEq,Int.reduceBNe,Int.reduceLT,Int.reduceLE,Spn.a,Msg.a,Par.a,Nd.a,Seat.a,Cfg.a,List.length_map,hq']
 refine z08 (o1Inv l s R) (k:=l.length) ⟨0,by omega,rfl,rfl,rfl,rfl,hR⟩ ?_
 clear hR
 rintro k σ ⟨i,hi,rfl,t0,t1,t5,hr⟩
 simp only [zkq]
 by_cases hlt:i < l.length
 case neg =>
  have hlt':¬ (i:Int) < (l.length:Int):=by omega
  rw [List.drop_eq_nil_of_le (by omega),List.all_nil] at hr
  subst hr
  simp (maxSteps:=9^7) only [go_sem,↓reduceIte,reduceCtorEq,Nat.reduceEqDiff,Nat.reduceBEq,Nat.reduceAdd,Nat.reduceSub,Nat.reduceMul,Nat.reduceLT,Nat.reduceLeDiff,Nat.reduceBNe,Int.reduceBEq,Int.reduceBNe,Int.reduceLT,Int.reduceLE,Spn.a,Msg.a,Par.a,Nd.a,Seat.a,Cfg.a,t0,t1,t5,hlt',List.length_map]
 have hlt':(i:Int) < (l.length:Int):=by omega
 obtain ⟨nd,hx⟩:=z0f hlt
 have hgx:=z0j (f:=Nd.a) hx
 simp only [Nd.a] at hgx
 have hw:=z1j (j:=i) (by omega)
 rw [z0c hx,List.all_cons] at hr
 simp (maxSteps:=9^7) only [go_sem,↓reduceIte,reduceCtorEq,Nat.reduceEqDiff,Nat.reduceBEq,Nat.reduceAdd,Nat.reduceSub,Nat.reduceMul,Nat.reduceLT,Nat.reduceLeDiff,Nat.reduceBNe,Int.reduceBEq,Int.reduceBNe,Int.reduceLT,Int.reduceLE,Spn.a,Msg.a,Par.a,Nd.a,Seat.a,Cfg.a,t0,t1,t5,hlt',List.length_map]
 refine z08 (o2Inv l s i nd.slot) (k:=s.length) ⟨0,0,by omega,rfl,by omega,?_,?_,?_,?_,?_,by rw [List.drop_zero,Nat.zero_add]⟩ ?_
 iterate 5 focus ((simp (maxSteps:=9^7) only [go_sem,↓reduceIte,reduceCtorEq,Nat.reduceEqDiff,Nat.reduceBEq,Nat.reduceAdd,Nat.reduceSub,Nat.reduceMul,Nat.reduceLT,Nat.reduceLeDiff,Nat.reduceBNe,Int.reduceBEq,Int.reduceBNe,Int.reduceLT,Int.reduceLE,Spn.a,Msg.a,Par.a,Nd.a,Seat.a,Cfg.a,t0,t1,t5]) <;> rfl)
 rintro k σ ⟨j,n,hj,rfl,hn,t0,t1,t5,t6,t7,hc⟩
 simp only [zkr]
 by_cases hjt:j < s.length
 ·have hjt':(j:Int) < (s.length:Int):=by omega
  obtain ⟨y,hy⟩:=z0f hjt
  have hgy:=z0j (f:=Seat.a) hy
  simp only [Seat.a] at hgy
  have hwj:=z1j (j:=j) (by omega)
  have hwn:=z1j (j:=n) (by omega)
  unfold zf3 at hc
  rw [countP_at hy] at hc
  cases he:(y.n.slot == nd.slot)
  ·rw [he] at hc
   simp (maxSteps:=9^7) only [go_sem,↓reduceIte,reduceCtorEq,Nat.reduceEqDiff,Nat.reduceBEq,Nat.reduceAdd,Nat.reduceSub,Nat.reduceMul,Nat.reduceLT,Nat.reduceLeDiff,Nat.reduceBNe,Int.reduceBEq,Int.reduceBNe,Int.reduceLT,Int.reduceLE,Spn.a,Msg.a,Par.a,Nd.a,Seat.a,Cfg.a,t0,t1,t5,t6,t7,hlt',hjt',hgx,hgy,he,hwj,List.length_map,Int.toNat_natCast]
   (repeat refine And.intro (by omega) ?_)
   refine ⟨s.length - (j + 1),by omega,j + 1,n,by omega,rfl,by omega,?_,?_,?_,?_,?_,by unfold zf3; rw [← hc]; simp⟩
   iterate 5 focus ((simp (maxSteps:=9^7) only [go_sem,↓reduceIte,reduceCtorEq,Nat.reduceEqDiff,Nat.reduceBEq,Nat.reduceAdd,Nat.reduceSub,Nat.reduceMul,Nat.reduceLT,Nat.reduceLeDiff,Nat.reduceBNe,Int.reduceBEq,Int.reduceBNe,Int.reduceLT,Int.reduceLE,Spn.a,Msg.a,Par.a,Nd.a,Seat.a,Cfg.a,t0,t1,t5,t6,hwj]) <;> rfl)
  ·rw [he] at hc
   simp (maxSteps:=9^7) only [go_sem,↓reduceIte,reduceCtorEq,Nat.reduceEqDiff,Nat.reduceBEq,Nat.reduceAdd,Nat.reduceSub,Nat.reduceMul,Nat.reduceLT,Nat.reduceLeDiff,Nat.reduceBNe,Int.reduceBEq,Int.reduceBNe,Int.reduceLT,Int.reduceLE,Spn.a,Msg.a,Par.a,Nd.a,Seat.a,Cfg.a,t0,t1,t5,t6,t7,hlt',hjt',hgx,hgy,he,hwj,hwn,List.length_map,Int.toNat_natCast]
   (repeat refine And.intro (by omega) ?_)
   refine ⟨s.length - (j + 1),by omega,j + 1,n + 1,by omega,rfl,by omega,?_,?_,?_,?_,?_,by unfold zf3; rw [← hc]; simp; omega⟩
   iterate 5 focus ((simp (maxSteps:=9^7) only [go_sem,↓reduceIte,reduceCtorEq,Nat.reduceEqDiff,Nat.reduceBEq,Nat.reduceAdd,Nat.reduceSub,Nat.reduceMul,Nat.reduceLT,Nat.reduceLeDiff,Nat.reduceBNe,Int.reduceBEq,Int.reduceBNe,Int.reduceLT,Int.reduceLE,Spn.a,Msg.a,Par.a,Nd.a,Seat.a,Cfg.a,t0,t1,t5,hwn,hwj]) <;> rfl)
 ·have hjt':¬ (j:Int) < (s.length:Int):=by omega
  rw [List.drop_eq_nil_of_le (by omega)] at hc
  have hc':n = zf3 s nd.slot:=by rw [← hc]; rfl
  by_cases h1:n = 1
  ·have h1':((n:Int) != 1) = false:=by simp [h1]
   have h2:(zf3 s nd.slot == 1) = true:=by rw [← hc',h1]; rfl
   rw [h2,Bool.true_and] at hr
   simp (maxSteps:=9^7) only [go_sem,↓reduceIte,reduceCtorEq,Nat.reduceEqDiff,Nat.reduceBEq,Nat.reduceAdd,Nat.reduceSub,Nat.reduceMul,Nat.reduceLT,Nat.reduceLeDiff,Nat.reduceBNe,Int.reduceBEq,Int.reduceBNe,Int.reduceLT,Int.reduceLE,Spn.a,Msg.a,Par.a,Nd.a,Seat.a,Cfg.a,t0,t1,t5,t6,t7,hjt',h1',hw,List.length_map]
   refine ⟨l.length - (i + 1),by omega,i + 1,by omega,rfl,?_,?_,?_,hr⟩
   iterate 3 focus ((simp (maxSteps:=9^7) only [go_sem,↓reduceIte,reduceCtorEq,Nat.reduceEqDiff,Nat.reduceBEq,Nat.reduceAdd,Nat.reduceSub,Nat.reduceMul,Nat.reduceLT,Nat.reduceLeDiff,Nat.reduceBNe,Int.reduceBEq,Int.reduceBNe,Int.reduceLT,Int.reduceLE,Spn.a,Msg.a,Par.a,Nd.a,Seat.a,Cfg.a,t0,t1,hw]) <;> rfl)
  ·have h1':((n:Int) != 1) = true:=by simp; omega
   have h2:(zf3 s nd.slot == 1) = false:=by rw [← hc']; simp [h1]
   rw [h2,Bool.false_and] at hr
   subst hr
   simp (maxSteps:=9^7) only [go_sem,↓reduceIte,reduceCtorEq,Nat.reduceEqDiff,Nat.reduceBEq,Nat.reduceAdd,Nat.reduceSub,Nat.reduceMul,Nat.reduceLT,Nat.reduceLeDiff,Nat.reduceBNe,Int.reduceBEq,Int.reduceBNe,Int.reduceLT,Int.reduceLE,Spn.a,Msg.a,Par.a,Nd.a,Seat.a,Cfg.a,t0,t1,t5,t6,t7,hjt',h1',List.length_map]
def lkInv (s:List Seat) (R:Bool) (k:Nat) (σ:St):Prop :=
 ∃ i:Nat,i≤s.length∧k = s.length - i∧σ.T 0 = .sl (s.map Seat.a)∧σ.T 3 = .int .i64 i∧z21 (s.drop i) = R
set_option maxHeartbeats 2000000 in
theorem linked_ok (s:List Seat) (hs:s.length≤1000000):AFn Tryd.prog 49 [.sl (s.map Seat.a)] (.bool (z21 s)):=by
 refine fn_linked rfl ?_
 obtain ⟨R,hR⟩:∃ R,z21 s = R:=⟨_,rfl⟩
 rw [hR]
 simp (maxSteps:=9^7) only [go_sem,↓reduceIte,reduceCtorEq,Nat.reduceEqDiff,Nat.reduceBEq,Nat.reduceAdd,Nat.reduceSub,Nat.reduceMul,Nat.reduceLT,Nat.reduceLeDiff,Nat.reduceBNe,Int.reduceBEq,Int.reduceBNe,Int.reduceLT,Int.reduceLE,Spn.a,Msg.a,Par.a,Nd.a,Seat.a,Cfg.a]
 refine z08 (lkInv s R) (k:=s.length) ⟨0,by omega,rfl,rfl,rfl,hR⟩ ?_
 clear hR
 rintro k σ ⟨i,hi,rfl,t0,t3,hr⟩
 simp only [zkt]
 by_cases hlt:i < s.length
 case neg =>
  have hlt':¬ (i:Int) < (s.length:Int):=by omega
  rw [List.drop_eq_nil_of_le (by omega),z21] at hr
  subst hr
  simp (maxSteps:=9^7) only [go_sem,↓reduceIte,reduceCtorEq,Nat.reduceEqDiff,Nat.reduceBEq,Nat.reduceAdd,Nat.reduceSub,Nat.reduceMul,Nat.reduceLT,Nat.reduceLeDiff,Nat.reduceBNe,Int.reduceBEq,Int.reduceBNe,Int.reduceLT,Int.reduceLE,Spn.a,Msg.a,Par.a,Nd.a,Seat.a,Cfg.a,t0,t3,hlt',List.length_map]
 have hlt':(i:Int) < (s.length:Int):=by omega
 obtain ⟨x,hx⟩:=z0f hlt
 have hgx:=z0j (f:=Seat.a) hx
 simp only [Seat.a] at hgx
 have hw:=z1j (j:=i) (by omega)
 rw [z0c hx,z21] at hr
 have fin:∀ w:Int,zfp (x :: s.drop (i + 1)) = w->(x.n.right != w) = !decide (x.n.right = zfp (x :: s.drop (i + 1))):=by
  rintro w rfl
  by_cases h:x.n.right = zfp (x :: s.drop (i + 1))
  ·rw [decide_eq_true h,← h]; simp
  ·rw [decide_eq_false h]; simp [h]
 by_cases hn:i + 1 < s.length
 ·have hn':((i + 1:Nat):Int) < (s.length:Int):=by omega
  obtain ⟨y,hy⟩:=z0f hn
  have hgy:=z0j (f:=Seat.a) hy
  simp only [Seat.a] at hgy
  have hwant:zfp (x :: s.drop (i + 1)) = if y.n.level = x.n.level then y.n.slot else -1:=by rw [z0c hy]; rfl
  cases he:(y.n.level == x.n.level)
  ·have hne:¬ y.n.level = x.n.level:=by simpa using he
   rw [if_neg hne] at hwant
   have hf:=fin _ hwant
   generalize decide (x.n.right = zfp (x :: s.drop (i + 1))) = b at *
   cases b
   ·rw [Bool.false_and] at hr
    subst hr
    simp (maxSteps:=9^7) only [go_sem,↓reduceIte,reduceCtorEq,Nat.reduceEqDiff,Nat.reduceBEq,Nat.reduceAdd,Nat.reduceSub,Nat.reduceMul,Nat.reduceLT,Nat.reduceLeDiff,Nat.reduceBNe,Int.reduceBEq,Int.reduceBNe,Int.reduceLT,Int.reduceLE,Spn.a,Msg.a,Par.a,Nd.a,Seat.a,Cfg.a,t0,t3,hlt',hn',hgx,hgy,he,hf,hw,List.length_map,Int.toNat_natCast]
    all_goals omega
   ·rw [Bool.true_and] at hr
    simp (maxSteps:=9^7) only [go_sem,↓reduceIte,reduceCtorEq,Nat.reduceEqDiff,Nat.reduceBEq,Nat.reduceAdd,Nat.reduceSub,Nat.reduceMul,Nat.reduceLT,Nat.reduceLeDiff,Nat.reduceBNe,Int.reduceBEq,Int.reduceBNe,Int.reduceLT,Int.reduceLE,Spn.a,Msg.a,Par.a,Nd.a,Seat.a,Cfg.a,t0,t3,hlt',hn',hgx,hgy,he,hf,hw,List.length_map,Int.toNat_natCast]
    (repeat refine And.intro (by omega) ?_)
    refine ⟨s.length - (i + 1),by omega,i + 1,by omega,rfl,?_,?_,hr⟩
    iterate 2 focus ((simp (maxSteps:=9^7) only [go_sem,↓reduceIte,reduceCtorEq,Nat.reduceEqDiff,Nat.reduceBEq,Nat.reduceAdd,Nat.reduceSub,Nat.reduceMul,Nat.reduceLT,Nat.reduceLeDiff,Nat.reduceBNe,Int.reduceBEq,Int.reduceBNe,Int.reduceLT,Int.reduceLE,Spn.a,Msg.a,Par.a,Nd.a,Seat.a,Cfg.a,t0,hw]) <;> rfl)
  ·have hne:y.n.level = x.n.level:=by simpa using he
   rw [if_pos hne] at hwant
   have hf:=fin _ hwant
   generalize decide (x.n.right = zfp (x :: s.drop (i + 1))) = b at *
   cases b
   ·rw [Bool.false_and] at hr
    subst hr
    simp (maxSteps:=9^7) only [go_sem,↓reduceIte,reduceCtorEq,Nat.reduceEqDiff,Nat.reduceBEq,Nat.reduceAdd,Nat.reduceSub,Nat.reduceMul,Nat.reduceLT,Nat.reduceLeDiff,Nat.reduceBNe,Int.reduceBEq,Int.reduceBNe,Int.reduceLT,Int.reduceLE,Spn.a,Msg.a,Par.a,Nd.a,Seat.a,Cfg.a,t0,t3,hlt',hn',hgx,hgy,he,hf,hw,List.length_map,Int.toNat_natCast]
    all_goals omega
   ·rw [Bool.true_and] at hr
    simp (maxSteps:=9^7) only [go_sem,↓reduceIte,reduceCtorEq,Nat.reduceEqDiff,Nat.reduceBEq,Nat.reduceAdd,Nat.reduceSub,Nat.reduceMul,Nat.reduceLT,Nat.reduceLeDiff,Nat.reduceBNe,Int.reduceBEq,Int.reduceBNe,Int.reduceLT,Int.reduceLE,Spn.a,Msg.a,Par.a,Nd.a,Seat.a,Cfg.a,t0,t3,hlt',hn',hgx,hgy,he,hf,hw,List.length_map,Int.toNat_natCast]
    (repeat refine And.intro (by omega) ?_)
    refine ⟨s.length - (i + 1),by omega,i + 1,by omega,rfl,?_,?_,hr⟩
    iterate 2 focus ((simp (maxSteps:=9^7) only [go_sem,↓reduceIte,reduceCtorEq,Nat.reduceEqDiff,Nat.reduceBEq,Nat.reduceAdd,Nat.reduceSub,Nat.reduceMul,Nat.reduceLT,Nat.reduceLeDiff,Nat.reduceBNe,Int.reduceBEq,Int.reduceBNe,Int.reduceLT,Int.reduceLE,Spn.a,Msg.a,Par.a,Nd.a,Seat.a,Cfg.a,t0,hw]) <;> rfl)
 ·have hn':¬ ((i + 1:Nat):Int) < (s.length:Int):=by omega
  have hwant:zfp (x :: s.drop (i + 1)) = -1:=by rw [List.drop_eq_nil_of_le (by omega)]; rfl
  have hf:=fin _ hwant
  generalize decide (x.n.right = zfp (x :: s.drop (i + 1))) = b at *
  cases b
  ·rw [Bool.false_and] at hr
   subst hr
   simp (maxSteps:=9^7) only [go_sem,↓reduceIte,reduceCtorEq,Nat.reduceEqDiff,Nat.reduceBEq,Nat.reduceAdd,Nat.reduceSub,Nat.reduceMul,Nat.reduceLT,Nat.reduceLeDiff,Nat.reduceBNe,Int.reduceBEq,Int.reduceBNe,Int.reduceLT,Int.reduceLE,Spn.a,Msg.a,Par.a,Nd.a,Seat.a,Cfg.a,t0,t3,hlt',hn',hgx,hf,hw,List.length_map,Int.toNat_natCast]
   all_goals omega
  ·rw [Bool.true_and] at hr
   simp (maxSteps:=9^7) only [go_sem,↓reduceIte,reduceCtorEq,Nat.reduceEqDiff,Nat.reduceBEq,Nat.reduceAdd,Nat.reduceSub,Nat.reduceMul,Nat.reduceLT,Nat.reduceLeDiff,Nat.reduceBNe,Int.reduceBEq,Int.reduceBNe,Int.reduceLT,Int.reduceLE,Spn.a,Msg.a,Par.a,Nd.a,Seat.a,Cfg.a,t0,t3,hlt',hn',hgx,hf,hw,List.length_map,Int.toNat_natCast]
   (repeat refine And.intro (by omega) ?_)
   refine ⟨s.length - (i + 1),by omega,i + 1,by omega,rfl,?_,?_,hr⟩
   iterate 2 focus ((simp (maxSteps:=9^7) only [go_sem,↓reduceIte,reduceCtorEq,Nat.reduceEqDiff,Nat.reduceBEq,Nat.reduceAdd,Nat.reduceSub,Nat.reduceMul,Nat.reduceLT,Nat.reduceLeDiff,Nat.reduceBNe,Int.reduceBEq,Int.reduceBNe,Int.reduceLT,Int.reduceLE,Spn.a,Msg.a,Par.a,Nd.a,Seat.a,Cfg.a,t0,hw]) <;> rfl)
def hasN (n:Nd) (k:ByteArray):Bool:=n.top || lt k n.high
theorem y8z (n:Nd) (k:ByteArray) (h1:n.high.size≤9223372036854775807) (h2:k.size≤9223372036854775807):AFn Tryd.prog 78 [n.a,.str k] (.bool (hasN n k)):=by
 refine fn_has21 rfl ?_
 have cl:=z39 k n.high h2 h1
 unfold hasN
 obtain ⟨slot,level,pivots,kids,high,top,right,seen,msgs,rows⟩:=n
 simp only at cl ⊢
 generalize lt k high = b at *
 cases top
 ·(repeat (first | simp (maxSteps:=9^7) only [go_sem,↓reduceIte,reduceCtorEq,Nat.reduceEqDiff,Nat.reduceBEq,Nat.reduceAdd,Nat.reduceSub,Nat.reduceMul,Nat.reduceLT,Nat.reduceLeDiff,Nat.reduceBNe,Int.reduceBEq,Int.reduceBNe,Int.reduceLT,Int.reduceLE,Spn.a,Msg.a,Par.a,Nd.a,Seat.a,Cfg.a] | refine z01 (cl) ?_ | refine z00 (cl) ?_ | refine And.intro (by omega) ?_ | refine And.intro (fun d hd=>by (repeat (rcases hd with rfl | hd; · exact ⟨rfl,rfl⟩)); cases hd) ?_))
  all_goals rfl
 ·(repeat (first | simp (maxSteps:=9^7) only [go_sem,↓reduceIte,reduceCtorEq,Nat.reduceEqDiff,Nat.reduceBEq,Nat.reduceAdd,Nat.reduceSub,Nat.reduceMul,Nat.reduceLT,Nat.reduceLeDiff,Nat.reduceBNe,Int.reduceBEq,Int.reduceBNe,Int.reduceLT,Int.reduceLE,Spn.a,Msg.a,Par.a,Nd.a,Seat.a,Cfg.a] | refine z01 (cl) ?_ | refine z00 (cl) ?_ | refine And.intro (by omega) ?_ | refine And.intro (fun d hd=>by (repeat (rcases hd with rfl | hd; · exact ⟨rfl,rfl⟩)); cases hd) ?_))
  all_goals rfl
def y3r (c:Cfg) (n:Nd):Bool:=decide (n.pivots.length + n.kids.length + n.msgs.length = 0) && decide ((n.rows.length:Int)≤c.leaf) && z73 n.rows && n.rows.all fun p=>hasN n p.key
def lfInv (c:Cfg) (n:Nd) (R:Bool) (k:Nat) (σ:St):Prop :=
 ∃ i:Nat,i≤n.rows.length∧k = n.rows.length - i∧σ.T 3 = .ptr 3 0 0∧σ.H 3 = some ⟨10,27,[n.a],0⟩∧σ.T 5 = .int .i64 i∧(n.rows.drop i).all (fun p=>hasN n p.key) = R
set_option maxHeartbeats 2000000 in
theorem leaf21_ok (c:Cfg) (n:Nd) (hn:n.Lt):AFn Tryd.prog 65 [c.a,n.a] (.bool (y3r c n)):=by
 refine fn_leaf21 rfl ?_
 have h1:=hn.npiv
 have h2:=hn.nkid
 have h3:=hn.nmsg
 have h4:=hn.nrow
 have c9:=rRight9_ok n.rows (by omega) (fun p hp=>by have:=(hn.rows p hp).1; omega)
 have hrow:=hn.rows
 have hhi:=hn.high
 unfold y3r
 have hw1:IntKind.i64.wrap ((n.pivots.length:Int) + (n.kids.length:Int)) = ((n.pivots.length + n.kids.length:Nat):Int):=by rw [IntWalk.i64_in _ (by omega)]; omega
 have hw2:IntKind.i64.wrap (((n.pivots.length + n.kids.length:Nat):Int) + (n.msgs.length:Int)) = ((n.pivots.length + n.kids.length + n.msgs.length:Nat):Int):=by rw [IntWalk.i64_in _ (by omega)]; omega
 obtain ⟨R,hR⟩:∃ R,n.rows.all (fun p=>hasN n p.key) = R:=⟨_,rfl⟩
 rw [hR]
 by_cases hz:n.pivots.length + n.kids.length + n.msgs.length = 0
 case neg =>
  have hz':(0:Int) < ((n.pivots.length + n.kids.length + n.msgs.length:Nat):Int):=by omega
  rw [decide_eq_false hz]
  (repeat (first | simp (maxSteps:=9^7) only [go_sem,↓reduceIte,reduceCtorEq,Nat.reduceEqDiff,Nat.reduceBEq,Nat.reduceAdd,Nat.reduceSub,Nat.reduceMul,Nat.reduceLT,Nat.reduceLeDiff,Nat.reduceBNe,Int.reduceBEq,Int.reduceBNe,Int.reduceLT,Int.reduceLE,Spn.a,Msg.a,Par.a,Nd.a,Seat.a,Cfg.a,List.length_map,hw1,hw2,hz'] | refine z01 (c9) ?_ | refine z00 (c9) ?_ | refine And.intro (by omega) ?_ | refine And.intro (fun d hd=>by (repeat (rcases hd with rfl | hd; · exact ⟨rfl,rfl⟩)); cases hd) ?_))
 have hz':¬ (0:Int) < ((n.pivots.length + n.kids.length + n.msgs.length:Nat):Int):=by omega
 rw [decide_eq_true hz]
 by_cases hl:(n.rows.length:Int)≤c.leaf
 case neg =>
  have hl':c.leaf < (n.rows.length:Int):=by omega
  rw [decide_eq_false hl]
  (repeat (first | simp (maxSteps:=9^7) only [go_sem,↓reduceIte,reduceCtorEq,Nat.reduceEqDiff,Nat.reduceBEq,Nat.reduceAdd,Nat.reduceSub,Nat.reduceMul,Nat.reduceLT,Nat.reduceLeDiff,Nat.reduceBNe,Int.reduceBEq,Int.reduceBNe,Int.reduceLT,Int.reduceLE,Spn.a,Msg.a,Par.a,Nd.a,Seat.a,Cfg.a,List.length_map,hw1,hw2,hz',hl'] | refine z01 (c9) ?_ | refine z00 (c9) ?_ | refine And.intro (by omega) ?_ | refine And.intro (fun d hd=>by (repeat (rcases hd with rfl | hd; · exact ⟨rfl,rfl⟩)); cases hd) ?_))
 have hl':¬ c.leaf < (n.rows.length:Int):=by omega
 rw [decide_eq_true hl]
 generalize z73 n.rows = br at *
 cases br
 ·(repeat (first | simp (maxSteps:=9^7) only [go_sem,↓reduceIte,reduceCtorEq,Nat.reduceEqDiff,Nat.reduceBEq,Nat.reduceAdd,Nat.reduceSub,Nat.reduceMul,Nat.reduceLT,Nat.reduceLeDiff,Nat.reduceBNe,Int.reduceBEq,Int.reduceBNe,Int.reduceLT,Int.reduceLE,Spn.a,Msg.a,Par.a,Nd.a,Seat.a,Cfg.a,List.length_map,hw1,hw2,hz',hl'] | refine z01 (c9) ?_ | refine z00 (c9) ?_ | refine And.intro (by omega) ?_ | refine And.intro (fun d hd=>by (repeat (rcases hd with rfl | hd; · exact ⟨rfl,rfl⟩)); cases hd) ?_))
 (repeat (first | simp (maxSteps:=9^7) only [go_sem,↓reduceIte,reduceCtorEq,Nat.reduceEqDiff,Nat.reduceBEq,Nat.reduceAdd,Nat.reduceSub,Nat.reduceMul,Nat.reduceLT,Nat.reduceLeDiff,Nat.reduceBNe,Int.reduceBEq,Int.reduceBNe,Int.reduceLT,Int.reduceLE,Spn.a,Msg.a,Par.a,Nd.a,Seat.a,Cfg.a,List.length_map,hw1,hw2,hz',hl'] | refine z01 (c9) ?_ | refine z00 (c9) ?_ | refine And.intro (by omega) ?_ | refine And.intro (fun d hd=>by (repeat (rcases hd with rfl | hd; · exact ⟨rfl,rfl⟩)); cases hd) ?_))
 refine z08 (lfInv c n R) (k:=n.rows.length) ⟨0,by omega,rfl,?_,?_,?_,hR⟩ ?_
 iterate 3 focus ((simp (maxSteps:=9^7) only [go_sem,↓reduceIte,reduceCtorEq,Nat.reduceEqDiff,Nat.reduceBEq,Nat.reduceAdd,Nat.reduceSub,Nat.reduceMul,Nat.reduceLT,Nat.reduceLeDiff,Nat.reduceBNe,Int.reduceBEq,Int.reduceBNe,Int.reduceLT,Int.reduceLE,Spn.a,Msg.a,Par.a,Nd.a,Seat.a,Cfg.a]) <;> rfl)
 clear hR c9
 rintro k σ ⟨i,hi,rfl,t3,hh3,t5,hr⟩
 simp only [zkv]
 simp only [Nd.a] at hh3
 by_cases hlt:i < n.rows.length
 case neg =>
  have hlt':¬ (i:Int) < (n.rows.length:Int):=by omega
  rw [List.drop_eq_nil_of_le (by omega),List.all_nil] at hr
  subst hr
  simp (maxSteps:=9^7) only [go_sem,↓reduceIte,reduceCtorEq,Nat.reduceEqDiff,Nat.reduceBEq,Nat.reduceAdd,Nat.reduceSub,Nat.reduceMul,Nat.reduceLT,Nat.reduceLeDiff,Nat.reduceBNe,Int.reduceBEq,Int.reduceBNe,Int.reduceLT,Int.reduceLE,Spn.a,Msg.a,Par.a,Nd.a,Seat.a,Cfg.a,t3,hh3,t5,hlt',List.length_map]
 have hlt':(i:Int) < (n.rows.length:Int):=by omega
 obtain ⟨p,hx⟩:=z0f hlt
 have hgx:=z0j (f:=Par.a) hx
 simp only [Par.a] at hgx
 have hw:=z1j (j:=i) (by omega)
 have ch:=y8z n p.key (by omega) (by have:=(hrow p (List.mem_of_getElem? hx)).1; omega)
 rw [z0c hx,List.all_cons] at hr
 generalize hasN n p.key = b at *
 cases b
 ·rw [Bool.false_and] at hr
  subst hr
  (repeat (first | simp (maxSteps:=9^7) only [go_sem,↓reduceIte,reduceCtorEq,Nat.reduceEqDiff,Nat.reduceBEq,Nat.reduceAdd,Nat.reduceSub,Nat.reduceMul,Nat.reduceLT,Nat.reduceLeDiff,Nat.reduceBNe,Int.reduceBEq,Int.reduceBNe,Int.reduceLT,Int.reduceLE,Spn.a,Msg.a,Par.a,Nd.a,Seat.a,Cfg.a,t3,hh3,t5,hlt',hgx,hw,List.length_map,Int.toNat_natCast] | refine z01 (ch) ?_ | refine z00 (ch) ?_ | refine And.intro (by omega) ?_ | refine And.intro (fun d hd=>by (repeat (rcases hd with rfl | hd; · exact ⟨rfl,rfl⟩)); cases hd) ?_))
  all_goals omega
 ·rw [Bool.true_and] at hr
  (repeat (first | simp (maxSteps:=9^7) only [go_sem,↓reduceIte,reduceCtorEq,Nat.reduceEqDiff,Nat.reduceBEq,Nat.reduceAdd,Nat.reduceSub,Nat.reduceMul,Nat.reduceLT,Nat.reduceLeDiff,Nat.reduceBNe,Int.reduceBEq,Int.reduceBNe,Int.reduceLT,Int.reduceLE,Spn.a,Msg.a,Par.a,Nd.a,Seat.a,Cfg.a,t3,hh3,t5,hlt',hgx,hw,List.length_map,Int.toNat_natCast] | refine z01 (ch) ?_ | refine z00 (ch) ?_ | refine And.intro (by omega) ?_ | refine And.intro (fun d hd=>by (repeat (rcases hd with rfl | hd; · exact ⟨rfl,rfl⟩)); cases hd) ?_))
  refine ⟨n.rows.length - (i + 1),by omega,i + 1,by omega,rfl,?_,?_,?_,hr⟩
  iterate 3 focus ((simp (maxSteps:=9^7) only [go_sem,↓reduceIte,reduceCtorEq,Nat.reduceEqDiff,Nat.reduceBEq,Nat.reduceAdd,Nat.reduceSub,Nat.reduceMul,Nat.reduceLT,Nat.reduceLeDiff,Nat.reduceBNe,Int.reduceBEq,Int.reduceBNe,Int.reduceLT,Int.reduceLE,Spn.a,Msg.a,Par.a,Nd.a,Seat.a,Cfg.a,t3,hh3,hw]) <;> rfl)
def cfgB (c:Cfg):Bool:=decide (4≤c.fanout∧c.fanout≤64∧2≤c.leaf∧c.leaf≤64∧36≤c.budget∧c.budget≤4096∧1≤c.slots∧c.slots≤4096∧0≤c.restarts∧c.restarts≤100)
theorem right25_ok (c:Cfg):AFn Tryd.prog 26 [c.a] (.bool (cfgB c)):=by
 refine fn_right25 rfl ?_
 unfold cfgB
 obtain ⟨f,l,b,s,r⟩:=c
 simp only
 by_cases h1:4≤f
 case neg=>rw [decide_eq_false (fun h=>h1 h.1)]; simp (maxSteps:=9^7) only [go_sem,↓reduceIte,reduceCtorEq,Nat.reduceEqDiff,Nat.reduceBEq,Nat.reduceAdd,Nat.reduceSub,Nat.reduceMul,Nat.reduceLT,Nat.reduceLeDiff,Nat.reduceBNe,Int.reduceBEq,Int.reduceBNe,Int.reduceLT,Int.reduceLE,Spn.a,Msg.a,Par.a,Nd.a,Seat.a,Cfg.a,h1]
 by_cases h2:f≤64
 case neg=>rw [decide_eq_false (fun h=>h2 h.2.1)]; simp (maxSteps:=9^7) only [go_sem,↓reduceIte,reduceCtorEq,Nat.reduceEqDiff,Nat.reduceBEq,Nat.reduceAdd,Nat.reduceSub,Nat.reduceMul,Nat.reduceLT,Nat.reduceLeDiff,Nat.reduceBNe,Int.reduceBEq,Int.reduceBNe,Int.reduceLT,Int.reduceLE,Spn.a,Msg.a,Par.a,Nd.a,Seat.a,Cfg.a,h1,h2]
 by_cases h3:2≤l
 case neg=>rw [decide_eq_false (fun h=>h3 h.2.2.1)]; simp (maxSteps:=9^7) only [go_sem,↓reduceIte,reduceCtorEq,Nat.reduceEqDiff,Nat.reduceBEq,Nat.reduceAdd,Nat.reduceSub,Nat.reduceMul,Nat.reduceLT,Nat.reduceLeDiff,Nat.reduceBNe,Int.reduceBEq,Int.reduceBNe,Int.reduceLT,Int.reduceLE,Spn.a,Msg.a,Par.a,Nd.a,Seat.a,Cfg.a,h1,h2,h3]
 by_cases h4:l≤64
 case neg=>rw [decide_eq_false (fun h=>h4 h.2.2.2.1)]; simp (maxSteps:=9^7) only [go_sem,↓reduceIte,reduceCtorEq,Nat.reduceEqDiff,Nat.reduceBEq,Nat.reduceAdd,Nat.reduceSub,Nat.reduceMul,Nat.reduceLT,Nat.reduceLeDiff,Nat.reduceBNe,Int.reduceBEq,Int.reduceBNe,Int.reduceLT,Int.reduceLE,Spn.a,Msg.a,Par.a,Nd.a,Seat.a,Cfg.a,h1,h2,h3,h4]
 by_cases h5:36≤b
 case neg=>rw [decide_eq_false (fun h=>h5 h.2.2.2.2.1)]; simp (maxSteps:=9^7) only [go_sem,↓reduceIte,reduceCtorEq,Nat.reduceEqDiff,Nat.reduceBEq,Nat.reduceAdd,Nat.reduceSub,Nat.reduceMul,Nat.reduceLT,Nat.reduceLeDiff,Nat.reduceBNe,Int.reduceBEq,Int.reduceBNe,Int.reduceLT,Int.reduceLE,Spn.a,Msg.a,Par.a,Nd.a,Seat.a,Cfg.a,h1,h2,h3,h4,h5]
 by_cases h6:b≤4096
 case neg=>rw [decide_eq_false (fun h=>h6 h.2.2.2.2.2.1)]; simp (maxSteps:=9^7) only [go_sem,↓reduceIte,reduceCtorEq,Nat.reduceEqDiff,Nat.reduceBEq,Nat.reduceAdd,Nat.reduceSub,Nat.reduceMul,Nat.reduceLT,Nat.reduceLeDiff,Nat.reduceBNe,Int.reduceBEq,Int.reduceBNe,Int.reduceLT,Int.reduceLE,Spn.a,Msg.a,Par.a,Nd.a,Seat.a,Cfg.a,h1,h2,h3,h4,h5,h6]
 by_cases h7:1≤s
 case neg=>rw [decide_eq_false (fun h=>h7 h.2.2.2.2.2.2.1)]; simp (maxSteps:=9^7) only [go_sem,↓reduceIte,reduceCtorEq,Nat.reduceEqDiff,Nat.reduceBEq,Nat.reduceAdd,Nat.reduceSub,Nat.reduceMul,Nat.reduceLT,Nat.reduceLeDiff,Nat.reduceBNe,Int.reduceBEq,Int.reduceBNe,Int.reduceLT,Int.reduceLE,Spn.a,Msg.a,Par.a,Nd.a,Seat.a,Cfg.a,h1,h2,h3,h4,h5,h6,h7]
 by_cases h8:s≤4096
 case neg=>rw [decide_eq_false (fun h=>h8 h.2.2.2.2.2.2.2.1)]; simp (maxSteps:=9^7) only [go_sem,↓reduceIte,reduceCtorEq,Nat.reduceEqDiff,Nat.reduceBEq,Nat.reduceAdd,Nat.reduceSub,Nat.reduceMul,Nat.reduceLT,Nat.reduceLeDiff,Nat.reduceBNe,Int.reduceBEq,Int.reduceBNe,Int.reduceLT,Int.reduceLE,Spn.a,Msg.a,Par.a,Nd.a,Seat.a,Cfg.a,h1,h2,h3,h4,h5,h6,h7,h8]
 by_cases h9:0≤r
 case neg=>rw [decide_eq_false (fun h=>h9 h.2.2.2.2.2.2.2.2.1)]; simp (maxSteps:=9^7) only [go_sem,↓reduceIte,reduceCtorEq,Nat.reduceEqDiff,Nat.reduceBEq,Nat.reduceAdd,Nat.reduceSub,Nat.reduceMul,Nat.reduceLT,Nat.reduceLeDiff,Nat.reduceBNe,Int.reduceBEq,Int.reduceBNe,Int.reduceLT,Int.reduceLE,Spn.a,Msg.a,Par.a,Nd.a,Seat.a,Cfg.a,h1,h2,h3,h4,h5,h6,h7,h8,h9]
 by_cases h10:r≤100
 case neg=>rw [decide_eq_false (fun h=>h10 h.2.2.2.2.2.2.2.2.2)]; simp (maxSteps:=9^7) only [go_sem,↓reduceIte,reduceCtorEq,Nat.reduceEqDiff,Nat.reduceBEq,Nat.reduceAdd,Nat.reduceSub,Nat.reduceMul,Nat.reduceLT,Nat.reduceLeDiff,Nat.reduceBNe,Int.reduceBEq,Int.reduceBNe,Int.reduceLT,Int.reduceLE,Spn.a,Msg.a,Par.a,Nd.a,Seat.a,Cfg.a,h1,h2,h3,h4,h5,h6,h7,h8,h9,h10]
 rw [decide_eq_true ⟨h1,h2,h3,h4,h5,h6,h7,h8,h9,h10⟩]
 simp (maxSteps:=9^7) only [go_sem,↓reduceIte,reduceCtorEq,Nat.reduceEqDiff,Nat.reduceBEq,Nat.reduceAdd,Nat.reduceSub,Nat.reduceMul,Nat.reduceLT,Nat.reduceLeDiff,Nat.reduceBNe,Int.reduceBEq,Int.reduceBNe,Int.reduceLT,Int.reduceLE,Spn.a,Msg.a,Par.a,Nd.a,Seat.a,Cfg.a,h1,h2,h3,h4,h5,h6,h7,h8,h9,h10]
end
section
open Go.RowKit
def stepL (l:List Nd) (n:Nd):Nd:=match n.kids with
 | []=>n
 | k :: _=>(ndAt l k).getD n
theorem zdb (l:List Nd):∀ (f:Nat) (n:Nd),z4e l (f + 1) n = z4e l f (stepL l n)
 | f,n=>by
  rw [z4e]
  unfold stepL
  cases hk:n.kids with
  | nil =>
   simp only
   induction f with
   | zero=>rfl
   | succ f ih=>rw [z4e,hk]
  | cons k r =>
   simp only
   cases hn:ndAt l k with
   | none =>
    simp only [Option.getD_none]
    induction f with
    | zero=>rfl
    | succ f ih=>rw [z4e,hk]; simp only [hn]
   | some y=>rfl
theorem zte (l:List Nd):∀ (f:Nat) (n:Nd),z4e l (f + 1) n = stepL l (z4e l f n)
 | 0,n=>by rw [zdb]; rfl
 | f + 1,n=>by rw [zdb,zte l f (stepL l n),← zdb]
def z6j (l:List Nd) (level:Int):Nat->Nd->List Nd
 | 0,_=>[]
 | f + 1,n=>if n.level = level then n :: (match ndAt l n.right with
  | none=>[]
  | some y=>z6j l level f y) else []
theorem y9f {l:List Nd} {level:Int}:∀ (T:List Seat) (f:Nat) (x:Seat),T.length + 1≤f->z21 (x :: T) = true->y69 (x :: T)->(∀ y,y ∈ x :: T->ndAt l y.n.slot = some y.n)->x.n.level = level ->
  z6j l level f x.n = ((x :: T).filter fun y=>decide (y.n.level = level)).map fun y=>y.n
 | T,0,x,hf,_,_,_,_=>by omega
 | [],f + 1,x,hf,hl,hF,hn,hx=>by
  rw [z21,Bool.and_eq_true,decide_eq_true_eq] at hl
  have hr:x.n.right = -1:=hl.1
  have:ndAt l x.n.right = none:=by rw [hr]; rfl
  rw [z6j,if_pos hx,this]
  simp [hx]
 | y :: T,f + 1,x,hf,hl,hF,hn,hx=>by
  rw [z21,Bool.and_eq_true,decide_eq_true_eq] at hl
  obtain ⟨hr,hl⟩:=hl
  rw [zfp] at hr
  have hF2:=(List.pairwise_cons.1 hF)
  rw [z6j,if_pos hx]
  by_cases hy:y.n.level = x.n.level
  ·rw [if_pos hy] at hr
   have e:ndAt l x.n.right = some y.n:=by rw [hr]; exact hn y (by simp)
   rw [e]
   simp only
   rw [y9f T f y (by simp only [List.length_cons] at hf; omega) hl hF2.2 (fun z hz=>hn z (List.mem_cons_of_mem _ hz)) (by omega),List.filter_cons (x:=x),if_pos (by simp [hx]),List.map_cons]
  ·rw [if_neg hy] at hr
   have:ndAt l x.n.right = none:=by rw [hr]; rfl
   rw [this]
   simp only
   have hlow:∀ z,z ∈ y :: T->z.n.level ≠ level:=fun z hz=>by
    have a:=hF2.1 y (List.mem_cons_self ..)
    have b:z.n.level≤y.n.level:=by
     rcases List.mem_cons.1 hz with rfl | hz
     ·exact Int.le_refl _
     ·exact (List.pairwise_cons.1 hF2.2).1 z hz
    omega
   have:(y :: T).filter (fun z=>decide (z.n.level = level)) = []:=List.filter_eq_nil_iff.2 fun z hz=>by simp [hlow z hz]
   rw [List.filter_cons,if_pos (by simp [hx]),this,List.map_cons,List.map_nil]
end
end Go.Proofs.YtkfciapeikkmfaaDoor
