/-
  'Rows.StoryBetweenSaid' is proved: the law percolatelaw57.StoryBetween returns true at every input, and its arguments read as they did. No condition.
-/
import Derived.SizedLaws
import Derived.Test.YtlhblpbfhfhlpaaGreatDoorCards
import Derived.Test.YtlhblpbfhfhlpaaGreatDoorTie
import Derived.Deep.DeepHandedRow
import Derived.LaidLaws
import Derived.Lay
import Derived.SevenTiedAt
import Derived.Test.YtlhblpbfhfhlpaaGreatDoorSB16
set_option linter.unusedVariables false
set_option linter.unusedSimpArgs false
set_option maxRecDepth 100000
attribute [local go_sem] reduceCtorEq Nat.reduceEqDiff Nat.reduceBEq Nat.reduceAdd Nat.reduceSub Nat.reduceMul Nat.reduceLT Nat.reduceLeDiff Nat.reduceBNe Int.reduceBEq Int.reduceBNe Int.reduceLT Int.reduceLE
attribute [local go_sem ↓] reduceIte
namespace Go.Proofs.YtlhblpbfhfhlpaaGreatDoor
section
open Go.RowKit
attribute [local go_sem ↓] z1y z0n
def sumN {α:Type} (f:α->Nat):List α->Nat
 | []=>0
 | x :: l=>f x + sumN f l
theorem sumN_at {α:Type} {f:α->Nat} {l:List α} {j:Nat} {x:α} (h:l[j]? = some x):sumN f (l.drop j) = f x + sumN f (l.drop (j + 1)):=by
 rw [z0u h]; rfl
theorem z89 {α:Type} {f:α->Nat} (hf:∀ x,1≤f x):∀ l:List α,l.length≤sumN f l
 | []=>Nat.le_refl _
 | x :: l=>by
  have:=z89 hf l
  have:=hf x
  show l.length + 1≤f x + sumN f l
  omega
def Par.bulk (p:Par):Nat:=1 + p.key.size + p.val.size
def Msg.bulkN (m:Msg):Nat:=1 + m.key.size + m.hi.size + m.val.size
def z3d (s:ByteArray):Nat:=s.size + 1
def longInv (l:List AV) (most:Int) (rest:Nat->Nat) (r:Bool) (k:Nat) (σ:St):Prop :=
 ∃ (j n:Nat),j≤l.length∧k = l.length - j∧σ.T 0 = .sl l∧σ.T 1 = .int .i64 most∧σ.T 5 = .int .i64 n∧σ.T 6 = .int .i64 j∧n≤900000000000000∧decide (((n + rest j:Nat):Int)≤most) = r
def zbx:Reg:=⟨[],[⟨.mv (.c (.bool false)),some 4,none,[],[]⟩],[],[],false⟩
def zbw:Reg:=⟨[],[⟨.mv (.c (.int .i64 0)),some 5,none,[],[]⟩],[],[],false⟩
def zbv:Reg:=⟨[],[⟨.mv (.c (.int .i64 0)),some 6,none,[],[]⟩],[],[],false⟩
def z74:List ROp:=[⟨.mv (.t 6),some 7,none,[],[]⟩,⟨.mv (.t 0),some 8,none,[],[]⟩,⟨.len false (.t 8),some 9,none,[],[]⟩,⟨.bin .lss (.t 7) (.t 9),some 10,none,[],[]⟩,⟨.mv (.t 10),some 11,none,[],[]⟩,⟨.mv (.t 5),some 12,(some (11,true)),[],[]⟩,⟨.mv (.t 1),some 13,(some (11,true)),[],[]⟩,⟨.bin .leq (.t 12) (.t 13),some 14,(some (11,true)),[],[]⟩,⟨.pick (.t 11) (.t 14) (.c (.bool false)),some 15,none,[],[]⟩]
def zbu:Reg:=⟨[],z74,[],[],false⟩
def z7i:List ROp:=[⟨.mv (.t 5),some 18,none,[],[]⟩,⟨.mv (.t 0),some 19,none,[],[]⟩,⟨.mv (.t 6),some 20,none,[],[]⟩,⟨.iaddr 2 (.t 19) (.t 20),some 21,none,[],[]⟩,⟨.faddr 0 (.t 21),some 22,none,[],[]⟩,⟨.load 1 false (.t 22),some 23,none,[],[]⟩,⟨.len true (.t 23),some 24,none,[],[]⟩,⟨.bin .add (.c (.int .i64 1)) (.t 24),some 25,none,[],[]⟩,⟨.mv (.t 0),some 26,none,[],[]⟩,⟨.mv (.t 6),some 27,none,[],[]⟩,⟨.iaddr 2 (.t 26) (.t 27),some 28,none,[],[]⟩,⟨.faddr 1 (.t 28),some 29,none,[],[]⟩,⟨.load 1 false (.t 29),some 30,none,[],[]⟩,⟨.len true (.t 30),some 31,none,[],[]⟩,⟨.bin .add (.t 25) (.t 31),some 32,none,[],[]⟩]
def zbt:Reg:=⟨z7i,[⟨.bin .add (.t 18) (.t 32),some 33,none,[],[]⟩,⟨.mv (.t 33),some 5,none,[],[]⟩],[],[],true⟩
def z73:List ROp:=[⟨.mv (.t 6),some 16,none,[],[]⟩,⟨.bin .add (.t 16) (.c (.int .i64 1)),some 17,none,[],[]⟩,⟨.mv (.t 17),some 6,none,[],[]⟩]
def zbs:Reg:=⟨[],z73,[],[],false⟩
def z9k:IR:=(.seq (.seq (.reg zbu)
 (.cond (.t 15) .skip
 (.exit 0)))
 (.seq (.block 1 (.reg zbt))
 (.reg zbs)))
def z71:List ROp:=[⟨.mv (.t 5),some 34,none,[],[]⟩,⟨.mv (.t 1),some 35,none,[],[]⟩,⟨.bin .leq (.t 34) (.t 35),some 36,none,[],[]⟩,⟨.mv (.t 36),some 4,none,[],[]⟩]
def zbr:Reg:=⟨[],z71,[],[],false⟩
def zia:IR:=(.seq (.reg zbx)
 (.seq (.reg zbw)
 (.seq (.seq (.reg zbv)
 (.block 0 (.loop z9k)))
 (.seq (.reg zbr)
 .ret))))
def zbn:List RDesc:=[(.tmp 4)]
theorem e_rLong9_0:EqR zbx [⟨.mv (.c (.bool false)),some 4,none,[],[]⟩] []:=fun _ _ _=>rfl
theorem e_rLong9_1:EqR zbw [⟨.mv (.c (.int .i64 0)),some 5,none,[],[]⟩] []:=fun _ _ _=>rfl
theorem e_rLong9_2:EqR zbv [⟨.mv (.c (.int .i64 0)),some 6,none,[],[]⟩] []:=fun _ _ _=>rfl
theorem e_rLong9_3:EqR zbu z74 []:=fun _ _ _=>rfl
theorem e_rLong9_4 (C:FuncId->List AV->AV->Prop) (σ:St) (K:St->Prop):z1d C zbt σ K = z07 C [] [⟨.bin .add (.t 18) (.t 32),some 33,none,[],[]⟩,⟨.mv (.t 33),some 5,none,[],[]⟩] z7i (σ.kills []) K:=rfl
theorem e_rLong9_5:EqR zbs z73 []:=fun _ _ _=>rfl
theorem e_rLong9_7:EqR zbr z71 []:=fun _ _ _=>rfl
theorem fn_rLong9 {args:List AV} {r:AV} (ha:args.length.ble Tryz.f24.ntmps = true) (h:run (AFn Tryz.prog) zia (endQ zbn r) (z0h args)):AFn Tryz.prog 24 args r :=
 AFn.of_code (pv:=false) (hint:=fun _=>[]) (c:=Tryz.f24.body.getD .skip) (by kernel_rfl) (by kernel_rfl) Tryz.func24 (by kernel_rfl) (by kernel_rfl) (by kernel_rfl) (of_decide_eq_true (by kernel_rfl)) (Nat.le_of_ble_eq_true ha) (Nat.le_of_ble_eq_true (by kernel_rfl)) (z0g h)
def zgy:Reg:=⟨[],[⟨.mv (.c (.bool false)),some 4,none,[],[]⟩],[],[],false⟩
def zgx:Reg:=⟨[],[⟨.mv (.c (.int .i64 0)),some 5,none,[],[]⟩],[],[],false⟩
def zgw:Reg:=⟨[],[⟨.mv (.c (.int .i64 0)),some 6,none,[],[]⟩],[],[],false⟩
def z8z:List ROp:=[⟨.mv (.t 6),some 7,none,[],[]⟩,⟨.mv (.t 0),some 8,none,[],[]⟩,⟨.len false (.t 8),some 9,none,[],[]⟩,⟨.bin .lss (.t 7) (.t 9),some 10,none,[],[]⟩,⟨.mv (.t 10),some 11,none,[],[]⟩,⟨.mv (.t 5),some 12,(some (11,true)),[],[]⟩,⟨.mv (.t 1),some 13,(some (11,true)),[],[]⟩,⟨.bin .leq (.t 12) (.t 13),some 14,(some (11,true)),[],[]⟩,⟨.pick (.t 11) (.t 14) (.c (.bool false)),some 15,none,[],[]⟩]
def zgv:Reg:=⟨[],z8z,[],[],false⟩
def zae:List ROp:=[⟨.mv (.t 5),some 18,none,[],[]⟩,⟨.mv (.t 0),some 19,none,[],[]⟩,⟨.mv (.t 6),some 20,none,[],[]⟩,⟨.iaddr 6 (.t 19) (.t 20),some 21,none,[],[]⟩,⟨.faddr 2 (.t 21),some 22,none,[],[]⟩,⟨.load 1 false (.t 22),some 23,none,[],[]⟩,⟨.len true (.t 23),some 24,none,[],[]⟩,⟨.bin .add (.c (.int .i64 1)) (.t 24),some 25,none,[],[]⟩,⟨.mv (.t 0),some 26,none,[],[]⟩,⟨.mv (.t 6),some 27,none,[],[]⟩,⟨.iaddr 6 (.t 26) (.t 27),some 28,none,[],[]⟩,⟨.faddr 3 (.t 28),some 29,none,[],[]⟩,⟨.load 1 false (.t 29),some 30,none,[],[]⟩,⟨.len true (.t 30),some 31,none,[],[]⟩,⟨.bin .add (.t 25) (.t 31),some 32,none,[],[]⟩,⟨.mv (.t 0),some 33,none,[],[]⟩,⟨.mv (.t 6),some 34,none,[],[]⟩,⟨.iaddr 6 (.t 33) (.t 34),some 35,none,[],[]⟩,⟨.faddr 5 (.t 35),some 36,none,[],[]⟩,⟨.load 1 false (.t 36),some 37,none,[],[]⟩,⟨.len true (.t 37),some 38,none,[],[]⟩,⟨.bin .add (.t 32) (.t 38),some 39,none,[],[]⟩]
def zgu:Reg:=⟨zae,[⟨.bin .add (.t 18) (.t 39),some 40,none,[],[]⟩,⟨.mv (.t 40),some 5,none,[],[]⟩],[],[],true⟩
def z8y:List ROp:=[⟨.mv (.t 6),some 16,none,[],[]⟩,⟨.bin .add (.t 16) (.c (.int .i64 1)),some 17,none,[],[]⟩,⟨.mv (.t 17),some 6,none,[],[]⟩]
def zgt:Reg:=⟨[],z8y,[],[],false⟩
def zc5:IR:=(.seq (.seq (.reg zgv)
 (.cond (.t 15) .skip
 (.exit 0)))
 (.seq (.block 1 (.reg zgu))
 (.reg zgt)))
def z8x:List ROp:=[⟨.mv (.t 5),some 41,none,[],[]⟩,⟨.mv (.t 1),some 42,none,[],[]⟩,⟨.bin .leq (.t 41) (.t 42),some 43,none,[],[]⟩,⟨.mv (.t 43),some 4,none,[],[]⟩]
def zgs:Reg:=⟨[],z8x,[],[],false⟩
def zqd:IR:=(.seq (.reg zgy)
 (.seq (.reg zgx)
 (.seq (.seq (.reg zgw)
 (.block 0 (.loop zc5)))
 (.seq (.reg zgs)
 .ret))))
def zgj:List RDesc:=[(.tmp 4)]
theorem e_rFewN_0:EqR zgy [⟨.mv (.c (.bool false)),some 4,none,[],[]⟩] []:=fun _ _ _=>rfl
theorem e_rFewN_1:EqR zgx [⟨.mv (.c (.int .i64 0)),some 5,none,[],[]⟩] []:=fun _ _ _=>rfl
theorem e_rFewN_2:EqR zgw [⟨.mv (.c (.int .i64 0)),some 6,none,[],[]⟩] []:=fun _ _ _=>rfl
theorem e_rFewN_3:EqR zgv z8z []:=fun _ _ _=>rfl
theorem e_rFewN_4 (C:FuncId->List AV->AV->Prop) (σ:St) (K:St->Prop):z1d C zgu σ K = z07 C [] [⟨.bin .add (.t 18) (.t 39),some 40,none,[],[]⟩,⟨.mv (.t 40),some 5,none,[],[]⟩] zae (σ.kills []) K:=rfl
theorem e_rFewN_5:EqR zgt z8y []:=fun _ _ _=>rfl
theorem e_rFewN_7:EqR zgs z8x []:=fun _ _ _=>rfl
theorem fn_rFewN {args:List AV} {r:AV} (ha:args.length.ble Tryz.f26.ntmps = true) (h:run (AFn Tryz.prog) zqd (endQ zgj r) (z0h args)):AFn Tryz.prog 26 args r :=
 AFn.of_code (pv:=false) (hint:=fun _=>[]) (c:=Tryz.f26.body.getD .skip) (by kernel_rfl) (by kernel_rfl) Tryz.func26 (by kernel_rfl) (by kernel_rfl) (by kernel_rfl) (of_decide_eq_true (by kernel_rfl)) (Nat.le_of_ble_eq_true ha) (Nat.le_of_ble_eq_true (by kernel_rfl)) (z0g h)
def zc4:Reg:=⟨[],[⟨.mv (.c (.int .i64 0)),some 4,none,[],[]⟩],[],[],false⟩
def zc3:Reg:=⟨[],[⟨.mv (.c (.int .i64 0)),some 5,none,[],[]⟩],[],[],false⟩
def zc2:Reg:=⟨[],[⟨.mv (.c (.int .i64 0)),some 6,none,[],[]⟩],[],[],false⟩
def z79:List ROp:=[⟨.mv (.t 6),some 7,none,[],[]⟩,⟨.mv (.t 0),some 8,none,[],[]⟩,⟨.len false (.t 8),some 9,none,[],[]⟩,⟨.bin .lss (.t 7) (.t 9),some 10,none,[],[]⟩,⟨.mv (.t 10),some 11,none,[],[]⟩,⟨.mv (.t 5),some 12,(some (11,true)),[],[]⟩,⟨.mv (.t 1),some 13,(some (11,true)),[],[]⟩,⟨.bin .leq (.t 12) (.t 13),some 14,(some (11,true)),[],[]⟩,⟨.pick (.t 11) (.t 14) (.c (.bool false)),some 15,none,[],[]⟩]
def zc1:Reg:=⟨[],z79,[],[],false⟩
def z78:List ROp:=[⟨.mv (.t 5),some 18,none,[],[]⟩,⟨.mv (.t 0),some 19,none,[],[]⟩,⟨.mv (.t 6),some 20,none,[],[]⟩,⟨.iaddr 1 (.t 19) (.t 20),some 21,none,[],[]⟩,⟨.load 1 false (.t 21),some 22,none,[],[]⟩,⟨.len true (.t 22),some 23,none,[],[]⟩,⟨.bin .add (.t 23) (.c (.int .i64 1)),some 24,none,[],[]⟩,⟨.bin .add (.t 18) (.t 24),some 25,none,[],[]⟩,⟨.mv (.t 25),some 5,none,[],[]⟩]
def zc0:Reg:=⟨[],z78,[],[],false⟩
def z77:List ROp:=[⟨.mv (.t 6),some 16,none,[],[]⟩,⟨.bin .add (.t 16) (.c (.int .i64 1)),some 17,none,[],[]⟩,⟨.mv (.t 17),some 6,none,[],[]⟩]
def zbz:Reg:=⟨[],z77,[],[],false⟩
def z9l:IR:=(.seq (.seq (.reg zc1)
 (.cond (.t 15) .skip
 (.exit 0)))
 (.seq (.block 1 (.reg zc0))
 (.reg zbz)))
def zby:Reg:=⟨[],[⟨.mv (.t 5),some 26,none,[],[]⟩,⟨.mv (.t 26),some 4,none,[],[]⟩],[],[],false⟩
def zib:IR:=(.seq (.reg zc4)
 (.seq (.reg zc3)
 (.seq (.seq (.reg zc2)
 (.block 0 (.loop z9l)))
 (.seq (.reg zby)
 .ret))))
def zbo:List RDesc:=[(.tmp 4)]
theorem e_rLong1_0:EqR zc4 [⟨.mv (.c (.int .i64 0)),some 4,none,[],[]⟩] []:=fun _ _ _=>rfl
theorem e_rLong1_1:EqR zc3 [⟨.mv (.c (.int .i64 0)),some 5,none,[],[]⟩] []:=fun _ _ _=>rfl
theorem e_rLong1_2:EqR zc2 [⟨.mv (.c (.int .i64 0)),some 6,none,[],[]⟩] []:=fun _ _ _=>rfl
theorem e_rLong1_3:EqR zc1 z79 []:=fun _ _ _=>rfl
theorem e_rLong1_4:EqR zc0 z78 []:=fun _ _ _=>rfl
theorem e_rLong1_5:EqR zbz z77 []:=fun _ _ _=>rfl
theorem e_rLong1_7:EqR zby [⟨.mv (.t 5),some 26,none,[],[]⟩,⟨.mv (.t 26),some 4,none,[],[]⟩] []:=fun _ _ _=>rfl
theorem fn_rLong1 {args:List AV} {r:AV} (ha:args.length.ble Tryz.f25.ntmps = true) (h:run (AFn Tryz.prog) zib (endQ zbo r) (z0h args)):AFn Tryz.prog 25 args r :=
 AFn.of_code (pv:=false) (hint:=fun _=>[]) (c:=Tryz.f25.body.getD .skip) (by kernel_rfl) (by kernel_rfl) Tryz.func25 (by kernel_rfl) (by kernel_rfl) (by kernel_rfl) (of_decide_eq_true (by kernel_rfl)) (Nat.le_of_ble_eq_true ha) (Nat.le_of_ble_eq_true (by kernel_rfl)) (z0g h)
attribute [local go_sem ↓] zia
attribute [local go_sem] zbn e_rLong9_0 e_rLong9_1 e_rLong9_2 e_rLong9_3 z74 e_rLong9_4 z7i e_rLong9_5 z73 e_rLong9_7 z71
attribute [local go_sem ↓] zqd
attribute [local go_sem] zgj e_rFewN_0 e_rFewN_1 e_rFewN_2 e_rFewN_3 z8z e_rFewN_4 zae e_rFewN_5 z8y e_rFewN_7 z8x
attribute [local go_sem ↓] zib
attribute [local go_sem] zbo e_rLong1_0 e_rLong1_1 e_rLong1_2 e_rLong1_3 z79 e_rLong1_4 z78 e_rLong1_5 z77 e_rLong1_7
theorem zhl (l:List Par) (most:Int) (h1:0≤most) (h2:most≤1000000) (hs:∀ m,m ∈ l->m.key.size≤281474976710656∧m.val.size≤281474976710656) (hl:l.length≤281474976710656) :
  AFn Tryz.prog 24 [.sl (l.map Par.a),.int .i64 most] (.bool (decide ((sumN Par.bulk l:Int)≤most))):=by
 refine fn_rLong9 rfl ?_
 simp (maxSteps:=9^7) only [go_sem,Msg.a,Par.a,Nd.a]
 refine z0c (longInv (l.map Par.a) most (fun j=>sumN Par.bulk (l.drop j)) (decide ((sumN Par.bulk l:Int)≤most))) (k:=(l.map Par.a).length) ⟨0,0,by omega,rfl,rfl,rfl,rfl,rfl,by omega,?_⟩ ?_
 ·simp
 rintro k σ ⟨j,n,hj,rfl,t0,t1,t5,t6,hn2,hr⟩
 rw [List.length_map] at hj
 simp only [z9k]
 by_cases hlt:j < l.length
 ·have hlt':(j:Int) < (l.length:Int):=by omega
  by_cases hm:(n:Int)≤most
  ·obtain ⟨x,hx⟩:=z0o hlt
   have hgj:=z0v (f:=Par.a) hx
   simp only [Par.a] at hgj
   have hw:=z2s (j:=j) (by omega)
   obtain ⟨s1,s3⟩:=hs x (List.mem_of_getElem? hx)
   have w1:IntKind.i64.wrap (1 + (x.key.size:Int)) = 1 + (x.key.size:Int):=IntWalk.i64_in _ (by omega)
   have w3:IntKind.i64.wrap (1 + (x.key.size:Int) + (x.val.size:Int)) = 1 + (x.key.size:Int) + (x.val.size:Int):=IntWalk.i64_in _ (by omega)
   have w4:IntKind.i64.wrap ((n:Int) + (1 + (x.key.size:Int) + (x.val.size:Int))) = ((n + x.bulk:Nat):Int):=by
    rw [IntWalk.i64_in _ (by omega)]; unfold Par.bulk; omega
   simp only [sumN_at hx] at hr
   simp (maxSteps:=9^7) only [go_sem,Msg.a,Par.a,Nd.a,t0,t1,t5,t6,hlt',hm,hgj,List.length_map,Int.toNat_natCast,w1,w3,w4,hw]
   (repeat refine And.intro (by omega) ?_)
   refine ⟨l.length - (j + 1),by omega,j + 1,n + x.bulk,by rw [List.length_map]; omega,by rw [List.length_map],?_,?_,?_,?_,by unfold Par.bulk; omega,?_⟩
   iterate 4 focus ((simp (maxSteps:=9^7) only [go_sem,Msg.a,Par.a,Nd.a,t0,t1,t5,t6]) <;> rfl)
   ·rw [← hr,Nat.add_assoc]
  ·simp (maxSteps:=9^7) only [go_sem,Msg.a,Par.a,Nd.a,t0,t1,t5,t6,hlt',hm,List.length_map]
   have:¬ ((n + sumN Par.bulk (l.drop j):Nat):Int)≤most:=by omega
   simp only [decide_eq_false this] at hr
   exact of_decide_eq_false hr.symm
 ·have hlt':¬ (j:Int) < (l.length:Int):=by omega
  simp (maxSteps:=9^7) only [go_sem,Msg.a,Par.a,Nd.a,t0,t1,t5,t6,hlt',List.length_map]
  rw [← hr]
  show decide (((n + sumN Par.bulk (l.drop j):Nat):Int)≤most) = _
  rw [List.drop_eq_nil_of_le (by omega)]
  exact decide_eq_decide.2 Iff.rfl
theorem rFewN_ok (l:List Msg) (most:Int) (h1:0≤most) (h2:most≤1000000) (hs:∀ m,m ∈ l->m.key.size≤281474976710656∧m.hi.size≤281474976710656∧m.val.size≤281474976710656) (hl:l.length≤281474976710656) :
  AFn Tryz.prog 26 [.sl (l.map Msg.a),.int .i64 most] (.bool (decide ((sumN Msg.bulkN l:Int)≤most))):=by
 refine fn_rFewN rfl ?_
 simp (maxSteps:=9^7) only [go_sem,Msg.a,Par.a,Nd.a]
 refine z0c (longInv (l.map Msg.a) most (fun j=>sumN Msg.bulkN (l.drop j)) (decide ((sumN Msg.bulkN l:Int)≤most))) (k:=(l.map Msg.a).length) ⟨0,0,by omega,rfl,rfl,rfl,rfl,rfl,by omega,?_⟩ ?_
 ·simp
 rintro k σ ⟨j,n,hj,rfl,t0,t1,t5,t6,hn2,hr⟩
 rw [List.length_map] at hj
 simp only [zc5]
 by_cases hlt:j < l.length
 ·have hlt':(j:Int) < (l.length:Int):=by omega
  by_cases hm:(n:Int)≤most
  ·obtain ⟨x,hx⟩:=z0o hlt
   have hgj:=z0v (f:=Msg.a) hx
   simp only [Msg.a] at hgj
   have hw:=z2s (j:=j) (by omega)
   obtain ⟨s1,s2,s3⟩:=hs x (List.mem_of_getElem? hx)
   have w1:IntKind.i64.wrap (1 + (x.key.size:Int)) = 1 + (x.key.size:Int):=IntWalk.i64_in _ (by omega)
   have w2:IntKind.i64.wrap (1 + (x.key.size:Int) + (x.hi.size:Int)) = 1 + (x.key.size:Int) + (x.hi.size:Int):=IntWalk.i64_in _ (by omega)
   have w3:IntKind.i64.wrap (1 + (x.key.size:Int) + (x.hi.size:Int) + (x.val.size:Int)) = 1 + (x.key.size:Int) + (x.hi.size:Int) + (x.val.size:Int):=IntWalk.i64_in _ (by omega)
   have w4:IntKind.i64.wrap ((n:Int) + (1 + (x.key.size:Int) + (x.hi.size:Int) + (x.val.size:Int))) = ((n + x.bulkN:Nat):Int):=by
    rw [IntWalk.i64_in _ (by omega)]; unfold Msg.bulkN; omega
   simp only [sumN_at hx] at hr
   simp (maxSteps:=9^7) only [go_sem,Msg.a,Par.a,Nd.a,t0,t1,t5,t6,hlt',hm,hgj,List.length_map,Int.toNat_natCast,w1,w2,w3,w4,hw]
   (repeat refine And.intro (by omega) ?_)
   refine ⟨l.length - (j + 1),by omega,j + 1,n + x.bulkN,by rw [List.length_map]; omega,by rw [List.length_map],?_,?_,?_,?_,by unfold Msg.bulkN; omega,?_⟩
   iterate 4 focus ((simp (maxSteps:=9^7) only [go_sem,Msg.a,Par.a,Nd.a,t0,t1,t5,t6]) <;> rfl)
   ·rw [← hr,Nat.add_assoc]
  ·simp (maxSteps:=9^7) only [go_sem,Msg.a,Par.a,Nd.a,t0,t1,t5,t6,hlt',hm,List.length_map]
   have:¬ ((n + sumN Msg.bulkN (l.drop j):Nat):Int)≤most:=by omega
   simp only [decide_eq_false this] at hr
   exact of_decide_eq_false hr.symm
 ·have hlt':¬ (j:Int) < (l.length:Int):=by omega
  simp (maxSteps:=9^7) only [go_sem,Msg.a,Par.a,Nd.a,t0,t1,t5,t6,hlt',List.length_map]
  rw [← hr]
  show decide (((n + sumN Msg.bulkN (l.drop j):Nat):Int)≤most) = _
  rw [List.drop_eq_nil_of_le (by omega)]
  exact decide_eq_decide.2 Iff.rfl
def sGo (most:Int):Nat->List ByteArray->Nat
 | n,[]=>n
 | n,x :: l=>if (n:Int)≤most then sGo most (n + z3d x) l else n
theorem sGo_iff (most:Int):∀ (l:List ByteArray) (n:Nat),decide (most < (sGo most n l:Int)) = !decide (((n + sumN z3d l:Nat):Int)≤most)
 | [],n=>by
  show decide (most < (n:Int)) = !decide (((n + 0:Nat):Int)≤most)
  by_cases h:(n:Int)≤most
  ·rw [decide_eq_false (by omega),decide_eq_true (by omega)]; rfl
  ·rw [decide_eq_true (by omega),decide_eq_false (by omega)]; rfl
 | x :: l,n=>by
  rw [sGo]
  by_cases h:(n:Int)≤most
  ·rw [if_pos h,sGo_iff most l (n + z3d x),Nat.add_assoc]; rfl
  ·rw [if_neg h,decide_eq_true (by omega),decide_eq_false (by omega)]; rfl
def long1Inv (l:List ByteArray) (most:Int) (r:Nat) (k:Nat) (σ:St):Prop :=
 ∃ (j n:Nat),j≤l.length∧k = l.length - j∧σ.T 0 = .sl (l.map .str)∧σ.T 1 = .int .i64 most∧σ.T 5 = .int .i64 n∧σ.T 6 = .int .i64 j∧n≤900000000000000∧sGo most n (l.drop j) = r
theorem rLong1_ok (l:List ByteArray) (most:Int) (h1:0≤most) (h2:most≤1000000) (hs:∀ m,m ∈ l->m.size≤281474976710656) (hl:l.length≤281474976710656) :
  AFn Tryz.prog 25 [.sl (l.map .str),.int .i64 most] (.int .i64 (sGo most 0 l:Int)):=by
 refine fn_rLong1 rfl ?_
 simp (maxSteps:=9^7) only [go_sem,Msg.a,Par.a,Nd.a]
 refine z0c (long1Inv l most (sGo most 0 l)) (k:=l.length) ⟨0,0,by omega,rfl,rfl,rfl,rfl,rfl,by omega,?_⟩ ?_
 ·rfl
 rintro k σ ⟨j,n,hj,rfl,t0,t1,t5,t6,hn2,hr⟩
 simp only [z9l]
 by_cases hlt:j < l.length
 ·have hlt':(j:Int) < (l.length:Int):=by omega
  obtain ⟨x,hx⟩:=z0o hlt
  rw [z0u hx,sGo] at hr
  by_cases hm:(n:Int)≤most
  ·have hgj:=z0v (f:=AV.str) hx
   have hw:=z2s (j:=j) (by omega)
   have s1:=hs x (List.mem_of_getElem? hx)
   have w1:IntKind.i64.wrap ((x.size:Int) + 1) = (x.size:Int) + 1:=IntWalk.i64_in _ (by omega)
   have w4:IntKind.i64.wrap ((n:Int) + ((x.size:Int) + 1)) = ((n + z3d x:Nat):Int):=by
    rw [IntWalk.i64_in _ (by omega)]; unfold z3d; omega
   rw [if_pos hm] at hr
   simp (maxSteps:=9^7) only [go_sem,Msg.a,Par.a,Nd.a,t0,t1,t5,t6,hlt',hm,hgj,List.length_map,Int.toNat_natCast,w1,w4,hw]
   (repeat refine And.intro (by omega) ?_)
   refine ⟨l.length - (j + 1),by omega,j + 1,n + z3d x,by omega,rfl,?_,?_,?_,?_,by unfold z3d; omega,hr⟩ <;> (simp (maxSteps:=9^7) only [go_sem,Msg.a,Par.a,Nd.a,t0,t1,t5,t6])
  ·rw [if_neg hm] at hr
   simp (maxSteps:=9^7) only [go_sem,Msg.a,Par.a,Nd.a,t0,t1,t5,t6,hlt',hm,List.length_map,← hr]
 ·have hlt':¬ (j:Int) < (l.length:Int):=by omega
  rw [List.drop_eq_nil_of_le (by omega),sGo] at hr
  simp (maxSteps:=9^7) only [go_sem,Msg.a,Par.a,Nd.a,t0,t1,t5,t6,hlt',List.length_map,← hr]
def Nd.light (most:Int) (x:Nd):Bool:=decide ((sumN Par.bulk x.rows:Int)≤most) && decide ((sumN z3d x.pivots:Int)≤most) && decide ((x.kids.length:Int)≤most) && decide ((sumN Msg.bulkN x.msgs:Int)≤most) && decide ((x.high.size:Int)≤most)
def zi5 (l:List Nd) (n most:Int):Bool:=decide ((l.length:Int)≤n) && l.all (Nd.light most)
def zhk:Reg:=⟨[],[⟨.mv (.c (.bool false)),some 6,none,[],[]⟩],[],[],false⟩
def z98:List ROp:=[⟨.mv (.t 0),some 8,none,[],[]⟩,⟨.len false (.t 8),some 9,none,[],[]⟩,⟨.mv (.t 1),some 10,none,[],[]⟩,⟨.bin .gtr (.t 9) (.t 10),some 11,none,[],[]⟩]
def zhj:Reg:=⟨[],z98,[],[],false⟩
def zhi:Reg:=⟨[],[⟨.mv (.c (.bool false)),some 6,none,[],[]⟩],[],[],false⟩
def zhh:Reg:=⟨[],[⟨.mv (.c (.int .i64 0)),some 7,none,[],[]⟩],[],[],false⟩
def z97:List ROp:=[⟨.mv (.t 7),some 12,none,[],[]⟩,⟨.mv (.t 0),some 13,none,[],[]⟩,⟨.len false (.t 13),some 14,none,[],[]⟩,⟨.bin .lss (.t 12) (.t 14),some 15,none,[],[]⟩]
def zhg:Reg:=⟨[],z97,[],[],false⟩
def z96:List ROp:=[⟨.mv (.t 0),some 18,none,[24,33,54],[]⟩,⟨.mv (.t 7),some 19,none,[24,33,54],[]⟩,⟨.iaddr 10 (.t 18) (.t 19),some 20,none,[24,33,54],[]⟩,⟨.faddr 9 (.t 20),some 21,none,[24,33,54],[]⟩,⟨.load 1 false (.t 21),some 22,none,[24,33,54],[]⟩,⟨.mv (.t 2),some 23,none,[24,33,54],[]⟩,⟨.callv (.c (.clo 24 [] [])) [(.t 22),(.t 23)],some 24,none,[33,54],[]⟩,⟨.un .not (.t 24),some 25,none,[33,54],[]⟩,⟨.mv (.t 25),some 26,none,[33,54],[]⟩,⟨.mv (.t 0),some 27,(some (26,false)),[33,54],[]⟩,⟨.mv (.t 7),some 28,(some (26,false)),[33,54],[]⟩,⟨.iaddr 10 (.t 27) (.t 28),some 29,(some (26,false)),[33,54],[]⟩,⟨.faddr 2 (.t 29),some 30,(some (26,false)),[33,54],[]⟩,⟨.load 1 false (.t 30),some 31,(some (26,false)),[33,54],[]⟩,⟨.mv (.t 2),some 32,(some (26,false)),[33,54],[]⟩,⟨.callv (.c (.clo 25 [] [])) [(.t 31),(.t 32)],some 33,(some (26,false)),[54],[]⟩,⟨.mv (.t 2),some 34,(some (26,false)),[54],[]⟩,⟨.bin .gtr (.t 33) (.t 34),some 35,(some (26,false)),[54],[]⟩,⟨.pick (.t 26) (.c (.bool true)) (.t 35),some 36,none,[54],[]⟩,⟨.mv (.t 36),some 37,none,[54],[]⟩,⟨.mv (.t 0),some 38,(some (37,false)),[54],[]⟩,⟨.mv (.t 7),some 39,(some (37,false)),[54],[]⟩,⟨.iaddr 10 (.t 38) (.t 39),some 40,(some (37,false)),[54],[]⟩,⟨.faddr 3 (.t 40),some 41,(some (37,false)),[54],[]⟩,⟨.load 1 false (.t 41),some 42,(some (37,false)),[54],[]⟩,⟨.len false (.t 42),some 43,(some (37,false)),[54],[]⟩,⟨.mv (.t 2),some 44,(some (37,false)),[54],[]⟩,⟨.bin .gtr (.t 43) (.t 44),some 45,(some (37,false)),[54],[]⟩,⟨.pick (.t 37) (.c (.bool true)) (.t 45),some 46,none,[54],[]⟩,⟨.mv (.t 46),some 47,none,[54],[]⟩,⟨.mv (.t 0),some 48,(some (47,false)),[54],[]⟩,⟨.mv (.t 7),some 49,(some (47,false)),[54],[]⟩,⟨.iaddr 10 (.t 48) (.t 49),some 50,(some (47,false)),[54],[]⟩,⟨.faddr 8 (.t 50),some 51,(some (47,false)),[54],[]⟩,⟨.load 1 false (.t 51),some 52,(some (47,false)),[54],[]⟩,⟨.mv (.t 2),some 53,(some (47,false)),[54],[]⟩,⟨.callv (.c (.clo 26 [] [])) [(.t 52),(.t 53)],some 54,(some (47,false)),[],[]⟩,⟨.un .not (.t 54),some 55,(some (47,false)),[],[]⟩,⟨.pick (.t 47) (.c (.bool true)) (.t 55),some 56,none,[],[]⟩,⟨.mv (.t 56),some 57,none,[],[]⟩,⟨.mv (.t 0),some 58,(some (57,false)),[],[]⟩,⟨.mv (.t 7),some 59,(some (57,false)),[],[]⟩,⟨.iaddr 10 (.t 58) (.t 59),some 60,(some (57,false)),[],[]⟩,⟨.faddr 4 (.t 60),some 61,(some (57,false)),[],[]⟩,⟨.load 1 false (.t 61),some 62,(some (57,false)),[],[]⟩,⟨.len true (.t 62),some 63,(some (57,false)),[],[]⟩,⟨.mv (.t 2),some 64,(some (57,false)),[],[]⟩,⟨.bin .gtr (.t 63) (.t 64),some 65,(some (57,false)),[],[]⟩,⟨.pick (.t 57) (.c (.bool true)) (.t 65),some 66,none,[],[]⟩]
def zhf:Reg:=⟨[],z96,[24,33,54],[],false⟩
def zhe:Reg:=⟨[],[⟨.mv (.c (.bool false)),some 6,none,[],[]⟩],[],[],false⟩
def z95:List ROp:=[⟨.mv (.t 7),some 16,none,[],[]⟩,⟨.bin .add (.t 16) (.c (.int .i64 1)),some 17,none,[],[]⟩,⟨.mv (.t 17),some 7,none,[],[]⟩]
def zhd:Reg:=⟨[],z95,[],[],false⟩
def zc6:IR:=(.seq (.seq (.reg zhg)
 (.cond (.t 15) .skip
 (.exit 0)))
 (.seq (.block 1 (.seq (.reg zhf)
 (.cond (.t 66) (.seq (.reg zhe)
 .ret)
 .skip)))
 (.reg zhd)))
def zhc:Reg:=⟨[],[⟨.mv (.c (.bool true)),some 6,none,[],[]⟩],[],[],false⟩
def zqg:IR:=(.seq (.reg zhk)
 (.seq (.seq (.reg zhj)
 (.cond (.t 11) (.seq (.reg zhi)
 .ret)
 .skip))
 (.seq (.seq (.reg zhh)
 (.block 0 (.loop zc6)))
 (.seq (.reg zhc)
 .ret))))
def zgm:List RDesc:=[(.tmp 6)]
theorem e_light_0:EqR zhk [⟨.mv (.c (.bool false)),some 6,none,[],[]⟩] []:=fun _ _ _=>rfl
theorem e_light_1:EqR zhj z98 []:=fun _ _ _=>rfl
theorem e_light_2:EqR zhi [⟨.mv (.c (.bool false)),some 6,none,[],[]⟩] []:=fun _ _ _=>rfl
theorem e_light_3:EqR zhh [⟨.mv (.c (.int .i64 0)),some 7,none,[],[]⟩] []:=fun _ _ _=>rfl
theorem e_light_4:EqR zhg z97 []:=fun _ _ _=>rfl
theorem e_light_5:EqR zhf z96 [24,33,54]:=fun _ _ _=>rfl
theorem e_light_6:EqR zhe [⟨.mv (.c (.bool false)),some 6,none,[],[]⟩] []:=fun _ _ _=>rfl
theorem e_light_7:EqR zhd z95 []:=fun _ _ _=>rfl
theorem e_light_9:EqR zhc [⟨.mv (.c (.bool true)),some 6,none,[],[]⟩] []:=fun _ _ _=>rfl
theorem fn_light {args:List AV} {r:AV} (ha:args.length.ble Tryz.f8.ntmps = true) (h:run (AFn Tryz.prog) zqg (endQ zgm r) (z0h args)):AFn Tryz.prog 8 args r :=
 AFn.of_code (pv:=false) (hint:=fun _=>[]) (c:=Tryz.f8.body.getD .skip) (by kernel_rfl) (by kernel_rfl) Tryz.func8 (by kernel_rfl) (by kernel_rfl) (by kernel_rfl) (of_decide_eq_true (by kernel_rfl)) (Nat.le_of_ble_eq_true ha) (Nat.le_of_ble_eq_true (by kernel_rfl)) (z0g h)
attribute [local go_sem ↓] zqg
attribute [local go_sem] zgm e_light_0 e_light_1 z98 e_light_2 e_light_3 e_light_4 z97 e_light_5 z96 e_light_6 e_light_7 z95 e_light_9
def lightInv (l:List Nd) (n most:Int) (r:Bool) (k:Nat) (σ:St):Prop :=
 ∃ j:Nat,j≤l.length∧k = l.length - j∧σ.T 0 = .sl (l.map Nd.a)∧σ.T 2 = .int .i64 most∧σ.T 7 = .int .i64 j∧(l.drop j).all (Nd.light most) = r
theorem light_ok (l:List Nd) (n most:Int) (h1:0≤most) (h2:most≤1000000) (hs:∀ x,x ∈ l->x.ok) (hl:l.length≤281474976710656) :
  AFn Tryz.prog 8 [.sl (l.map Nd.a),.int .i64 n,.int .i64 most] (.bool (zi5 l n most)):=by
 refine fn_light rfl ?_
 unfold zi5
 by_cases hn:(l.length:Int)≤n
 case neg =>
  have hn':n < (l.length:Int):=by omega
  rw [decide_eq_false hn]
  simp (maxSteps:=9^7) only [go_sem,Msg.a,Par.a,Nd.a,hn',List.length_map,Bool.false_and]
 have hn':¬ n < (l.length:Int):=by omega
 rw [decide_eq_true hn]
 obtain ⟨R,hR⟩:∃ R,l.all (Nd.light most) = R:=⟨_,rfl⟩
 rw [hR]
 simp (maxSteps:=9^7) only [go_sem,Msg.a,Par.a,Nd.a,hn',List.length_map,Bool.true_and]
 refine z0c (lightInv l n most R) (k:=l.length) ⟨0,by omega,rfl,rfl,rfl,rfl,hR⟩ ?_
 clear hR
 rintro k σ ⟨j,hj,rfl,t0,t2,t7,hr⟩
 simp only [zc6]
 by_cases hlt:j < l.length
 ·have hlt':(j:Int) < (l.length:Int):=by omega
  obtain ⟨x,hx⟩:=z0o hlt
  have hgj:=z0v (f:=Nd.a) hx
  simp only [Nd.a] at hgj
  have hw:=z2s (j:=j) (by omega)
  have ok:=hs x (List.mem_of_getElem? hx)
  have c1:=zhl x.rows most h1 h2 (fun m hm=>⟨(ok.rows.2 m hm).key,(ok.rows.2 m hm).val⟩) ok.rows.1
  have c2:=rLong1_ok x.pivots most h1 h2 ok.pivots.2 ok.pivots.1
  have c3:=rFewN_ok x.msgs most h1 h2 (fun m hm=>⟨(ok.msgs.2 m hm).key,(ok.msgs.2 m hm).hi,(ok.msgs.2 m hm).val⟩) ok.msgs.1
  have e2:=sGo_iff most x.pivots 0
  rw [z0u hx,List.all_cons] at hr
  unfold Nd.light at hr
  rw [Nat.zero_add] at e2
  have z0:IntKind.i64.wrap (j:Int) = (j:Int):=IntWalk.i64_in _ (by omega)
  cases q1:decide ((sumN Par.bulk x.rows:Int)≤most) with
  | false =>
   rw [q1] at c1 hr
   simp only [Bool.false_and] at hr
   (repeat (first | simp (maxSteps:=9^7) only [go_sem,Msg.a,Par.a,Nd.a,t0,t2,t7,hlt',hgj,List.length_map,Int.toNat_natCast,← hr] | refine z01 (c1) ?_ | refine z00 (c1) ?_ | refine And.intro (by omega) ?_ | refine And.intro (fun d hd=>by (repeat (rcases hd with rfl | hd; · exact ⟨rfl,rfl⟩)); cases hd) ?_))
  | true =>
   rw [q1] at c1 hr
   cases q2:decide ((sumN z3d x.pivots:Int)≤most) with
   | false =>
    rw [q2] at e2 hr
    have e3:=of_decide_eq_true e2
    simp only [Bool.false_and,Bool.and_false] at hr
    (repeat (first | simp (maxSteps:=9^7) only [go_sem,Msg.a,Par.a,Nd.a,t0,t2,t7,hlt',hgj,List.length_map,Int.toNat_natCast,e3,← hr] | refine z01 (c1) ?_ | refine z00 (c1) ?_ | refine z01 (c2) ?_ | refine z00 (c2) ?_ | refine And.intro (by omega) ?_ | refine And.intro (fun d hd=>by (repeat (rcases hd with rfl | hd; · exact ⟨rfl,rfl⟩)); cases hd) ?_))
   | true =>
    rw [q2] at e2 hr
    have e3:=of_decide_eq_false e2
    by_cases q3:(x.kids.length:Int)≤most
    case neg =>
     rw [decide_eq_false q3] at hr
     have q3':most < (x.kids.length:Int):=by omega
     simp only [Bool.false_and,Bool.and_false] at hr
     (repeat (first | simp (maxSteps:=9^7) only [go_sem,Msg.a,Par.a,Nd.a,t0,t2,t7,hlt',hgj,List.length_map,Int.toNat_natCast,e3,q3',← hr] | refine z01 (c1) ?_ | refine z00 (c1) ?_ | refine z01 (c2) ?_ | refine z00 (c2) ?_ | refine And.intro (by omega) ?_ | refine And.intro (fun d hd=>by (repeat (rcases hd with rfl | hd; · exact ⟨rfl,rfl⟩)); cases hd) ?_))
     all_goals omega
    rw [decide_eq_true q3] at hr
    have q3':¬ most < (x.kids.length:Int):=by omega
    cases q4:decide ((sumN Msg.bulkN x.msgs:Int)≤most) with
    | false =>
     rw [q4] at c3 hr
     simp only [Bool.false_and,Bool.and_false] at hr
     (repeat (first | simp (maxSteps:=9^7) only [go_sem,Msg.a,Par.a,Nd.a,t0,t2,t7,hlt',hgj,List.length_map,Int.toNat_natCast,e3,q3',← hr] | refine z01 (c1) ?_ | refine z00 (c1) ?_ | refine z01 (c2) ?_ | refine z00 (c2) ?_ | refine z01 (c3) ?_ | refine z00 (c3) ?_ | refine And.intro (by omega) ?_ | refine And.intro (fun d hd=>by (repeat (rcases hd with rfl | hd; · exact ⟨rfl,rfl⟩)); cases hd) ?_))
    | true =>
     rw [q4] at c3 hr
     by_cases q5:(x.high.size:Int)≤most
     case neg =>
      rw [decide_eq_false q5] at hr
      have q5':most < (x.high.size:Int):=by omega
      simp only [Bool.false_and,Bool.and_false] at hr
      (repeat (first | simp (maxSteps:=9^7) only [go_sem,Msg.a,Par.a,Nd.a,t0,t2,t7,hlt',hgj,List.length_map,Int.toNat_natCast,e3,q3',q5',← hr] | refine z01 (c1) ?_ | refine z00 (c1) ?_ | refine z01 (c2) ?_ | refine z00 (c2) ?_ | refine z01 (c3) ?_ | refine z00 (c3) ?_ | refine And.intro (by omega) ?_ | refine And.intro (fun d hd=>by (repeat (rcases hd with rfl | hd; · exact ⟨rfl,rfl⟩)); cases hd) ?_))
      all_goals omega
     rw [decide_eq_true q5] at hr
     have q5':¬ most < (x.high.size:Int):=by omega
     simp only [Bool.true_and,Bool.and_true] at hr
     (repeat (first | simp (maxSteps:=9^7) only [go_sem,Msg.a,Par.a,Nd.a,t0,t2,t7,hlt',hgj,List.length_map,Int.toNat_natCast,e3,q3',q5',hw] | refine z01 (c1) ?_ | refine z00 (c1) ?_ | refine z01 (c2) ?_ | refine z00 (c2) ?_ | refine z01 (c3) ?_ | refine z00 (c3) ?_ | refine And.intro (by omega) ?_ | refine And.intro (fun d hd=>by (repeat (rcases hd with rfl | hd; · exact ⟨rfl,rfl⟩)); cases hd) ?_))
     refine ⟨l.length - (j + 1),by omega,j + 1,by omega,rfl,?_,?_,?_,hr⟩ <;> (simp (maxSteps:=9^7) only [go_sem,Msg.a,Par.a,Nd.a,t0,t2,t7,hw])
 ·have hlt':¬ (j:Int) < (l.length:Int):=by omega
  rw [List.drop_eq_nil_of_le (by omega)] at hr
  simp (maxSteps:=9^7) only [go_sem,Msg.a,Par.a,Nd.a,t0,t2,t7,hlt',List.length_map,← hr,List.all_nil]
end
section
open Go.RowKit
attribute [local go_sem ↓] z1y z0n
def r_l7_0:Reg:=⟨[],[⟨.box 6 41 (.t 0),some 2,none,[],[]⟩,⟨.mv (.c (.bool false)),some 4,none,[],[]⟩],[2],[],false⟩
def t_l7_1:List ROp:=[⟨.faddr 1 (.t 2),some 5,none,[],[]⟩,⟨.load 1 false (.t 5),some 6,none,[],[]⟩,⟨.len true (.t 6),some 7,none,[],[]⟩,⟨.mv (.t 1),some 8,none,[],[]⟩,⟨.bin .leq (.t 7) (.t 8),some 9,none,[],[]⟩,⟨.mv (.t 9),some 10,none,[],[]⟩,⟨.faddr 2 (.t 2),some 11,(some (10,true)),[],[]⟩,⟨.load 1 false (.t 11),some 12,(some (10,true)),[],[]⟩,⟨.len true (.t 12),some 13,(some (10,true)),[],[]⟩,⟨.mv (.t 1),some 14,(some (10,true)),[],[]⟩,⟨.bin .leq (.t 13) (.t 14),some 15,(some (10,true)),[],[]⟩,⟨.pick (.t 10) (.t 15) (.c (.bool false)),some 16,none,[],[]⟩,⟨.mv (.t 16),some 17,none,[],[]⟩,⟨.faddr 4 (.t 2),some 18,(some (17,true)),[],[]⟩,⟨.load 1 false (.t 18),some 19,(some (17,true)),[],[]⟩,⟨.len true (.t 19),some 20,(some (17,true)),[],[]⟩,⟨.mv (.t 1),some 21,(some (17,true)),[],[]⟩,⟨.bin .leq (.t 20) (.t 21),some 22,(some (17,true)),[],[]⟩,⟨.pick (.t 17) (.t 22) (.c (.bool false)),some 23,none,[],[]⟩,⟨.mv (.t 23),some 4,none,[],[]⟩]
def r_l7_1:Reg:=⟨[],t_l7_1,[],[],false⟩
def ir_l7:IR:=(.seq (.reg r_l7_0)
 (.seq (.reg r_l7_1)
 .ret))
def res_l7:List RDesc:=[(.tmp 4)]
theorem e_l7_0:EqR r_l7_0 [⟨.box 6 41 (.t 0),some 2,none,[],[]⟩,⟨.mv (.c (.bool false)),some 4,none,[],[]⟩] [2]:=fun _ _ _=>rfl
theorem e_l7_1:EqR r_l7_1 t_l7_1 []:=fun _ _ _=>rfl
theorem fn_l7 {args:List AV} {r:AV} (ha:args.length.ble Tryz.f27.ntmps = true) (h:run (AFn Tryz.prog) ir_l7 (endQ res_l7 r) (z0h args)):AFn Tryz.prog 27 args r :=
 AFn.of_code (pv:=false) (hint:=fun _=>[]) (c:=Tryz.f27.body.getD .skip) (by kernel_rfl) (by kernel_rfl) Tryz.func27 (by kernel_rfl) (by kernel_rfl) (by kernel_rfl) (of_decide_eq_true (by kernel_rfl)) (Nat.le_of_ble_eq_true ha) (Nat.le_of_ble_eq_true (by kernel_rfl)) (z0g h)
def r_rLt_0:Reg:=⟨[],[⟨.mv (.c (.bool false)),some 6,none,[],[]⟩],[],[],false⟩
def zjw:List ROp:=[⟨.mv (.t 0),some 8,none,[],[]⟩,⟨.len false (.t 8),some 9,none,[],[]⟩,⟨.mv (.t 1),some 10,none,[],[]⟩,⟨.bin .gtr (.t 9) (.t 10),some 11,none,[],[]⟩]
def r_rLt_1:Reg:=⟨[],zjw,[],[],false⟩
def r_rLt_2:Reg:=⟨[],[⟨.mv (.c (.bool false)),some 6,none,[],[]⟩],[],[],false⟩
def r_rLt_3:Reg:=⟨[],[⟨.mv (.c (.int .i64 0)),some 7,none,[],[]⟩],[],[],false⟩
def zjv:List ROp:=[⟨.mv (.t 7),some 12,none,[],[]⟩,⟨.mv (.t 0),some 13,none,[],[]⟩,⟨.len false (.t 13),some 14,none,[],[]⟩,⟨.bin .lss (.t 12) (.t 14),some 15,none,[],[]⟩]
def r_rLt_4:Reg:=⟨[],zjv,[],[],false⟩
def zju:List ROp:=[⟨.mv (.t 0),some 18,none,[24,45],[]⟩,⟨.mv (.t 7),some 19,none,[24,45],[]⟩,⟨.iaddr 15 (.t 18) (.t 19),some 20,none,[24,45],[]⟩,⟨.faddr 1 (.t 20),some 21,none,[24,45],[]⟩,⟨.load 6 true (.t 21),some 22,none,[24,45],[]⟩,⟨.mv (.t 2),some 23,none,[24,45],[]⟩,⟨.callv (.c (.clo 27 [] [])) [(.t 22),(.t 23)],some 24,none,[45],[]⟩,⟨.un .not (.t 24),some 25,none,[45],[]⟩,⟨.mv (.t 25),some 26,none,[45],[]⟩,⟨.mv (.t 0),some 27,(some (26,false)),[45],[]⟩,⟨.mv (.t 7),some 28,(some (26,false)),[45],[]⟩,⟨.iaddr 15 (.t 27) (.t 28),some 29,(some (26,false)),[45],[]⟩,⟨.faddr 7 (.t 29),some 30,(some (26,false)),[45],[]⟩,⟨.faddr 2 (.t 30),some 31,(some (26,false)),[45],[]⟩,⟨.load 1 false (.t 31),some 32,(some (26,false)),[45],[]⟩,⟨.len true (.t 32),some 33,(some (26,false)),[45],[]⟩,⟨.mv (.t 2),some 34,(some (26,false)),[45],[]⟩,⟨.bin .gtr (.t 33) (.t 34),some 35,(some (26,false)),[45],[]⟩,⟨.pick (.t 26) (.c (.bool true)) (.t 35),some 36,none,[45],[]⟩,⟨.mv (.t 36),some 37,none,[45],[]⟩,⟨.mv (.t 0),some 38,(some (37,false)),[45],[]⟩,⟨.mv (.t 7),some 39,(some (37,false)),[45],[]⟩,⟨.iaddr 15 (.t 38) (.t 39),some 40,(some (37,false)),[45],[]⟩,⟨.faddr 7 (.t 40),some 41,(some (37,false)),[45],[]⟩,⟨.faddr 3 (.t 41),some 42,(some (37,false)),[45],[]⟩,⟨.load 1 false (.t 42),some 43,(some (37,false)),[45],[]⟩,⟨.mv (.t 2),some 44,(some (37,false)),[45],[]⟩,⟨.callv (.c (.clo 24 [] [])) [(.t 43),(.t 44)],some 45,(some (37,false)),[],[]⟩,⟨.un .not (.t 45),some 46,(some (37,false)),[],[]⟩,⟨.pick (.t 37) (.c (.bool true)) (.t 46),some 47,none,[],[]⟩]
def r_rLt_5:Reg:=⟨[],zju,[24,45],[],false⟩
def r_rLt_6:Reg:=⟨[],[⟨.mv (.c (.bool false)),some 6,none,[],[]⟩],[],[],false⟩
def zjt:List ROp:=[⟨.mv (.t 7),some 16,none,[],[]⟩,⟨.bin .add (.t 16) (.c (.int .i64 1)),some 17,none,[],[]⟩,⟨.mv (.t 17),some 7,none,[],[]⟩]
def r_rLt_7:Reg:=⟨[],zjt,[],[],false⟩
def zo9:IR:=(.seq (.seq (.reg r_rLt_4)
 (.cond (.t 15) .skip
 (.exit 0)))
 (.seq (.block 1 (.seq (.reg r_rLt_5)
 (.cond (.t 47) (.seq (.reg r_rLt_6)
 .ret)
 .skip)))
 (.reg r_rLt_7)))
def r_rLt_9:Reg:=⟨[],[⟨.mv (.c (.bool true)),some 6,none,[],[]⟩],[],[],false⟩
def ir_rLt:IR:=(.seq (.reg r_rLt_0)
 (.seq (.seq (.reg r_rLt_1)
 (.cond (.t 11) (.seq (.reg r_rLt_2)
 .ret)
 .skip))
 (.seq (.seq (.reg r_rLt_3)
 (.block 0 (.loop zo9)))
 (.seq (.reg r_rLt_9)
 .ret))))
def res_rLt:List RDesc:=[(.tmp 6)]
theorem e_rLt_0:EqR r_rLt_0 [⟨.mv (.c (.bool false)),some 6,none,[],[]⟩] []:=fun _ _ _=>rfl
theorem e_rLt_1:EqR r_rLt_1 zjw []:=fun _ _ _=>rfl
theorem e_rLt_2:EqR r_rLt_2 [⟨.mv (.c (.bool false)),some 6,none,[],[]⟩] []:=fun _ _ _=>rfl
theorem e_rLt_3:EqR r_rLt_3 [⟨.mv (.c (.int .i64 0)),some 7,none,[],[]⟩] []:=fun _ _ _=>rfl
theorem e_rLt_4:EqR r_rLt_4 zjv []:=fun _ _ _=>rfl
theorem e_rLt_5:EqR r_rLt_5 zju [24,45]:=fun _ _ _=>rfl
theorem e_rLt_6:EqR r_rLt_6 [⟨.mv (.c (.bool false)),some 6,none,[],[]⟩] []:=fun _ _ _=>rfl
theorem e_rLt_7:EqR r_rLt_7 zjt []:=fun _ _ _=>rfl
theorem e_rLt_9:EqR r_rLt_9 [⟨.mv (.c (.bool true)),some 6,none,[],[]⟩] []:=fun _ _ _=>rfl
theorem fn_rLt {args:List AV} {r:AV} (ha:args.length.ble Tryz.f9.ntmps = true) (h:run (AFn Tryz.prog) ir_rLt (endQ res_rLt r) (z0h args)):AFn Tryz.prog 9 args r :=
 AFn.of_code (pv:=false) (hint:=fun _=>[]) (c:=Tryz.f9.body.getD .skip) (by kernel_rfl) (by kernel_rfl) Tryz.func9 (by kernel_rfl) (by kernel_rfl) (by kernel_rfl) (of_decide_eq_true (by kernel_rfl)) (Nat.le_of_ble_eq_true ha) (Nat.le_of_ble_eq_true (by kernel_rfl)) (z0g h)
attribute [local go_sem ↓] ir_l7
attribute [local go_sem] res_l7 e_l7_0 e_l7_1 t_l7_1
attribute [local go_sem ↓] ir_rLt
attribute [local go_sem] res_rLt e_rLt_0 e_rLt_1 zjw e_rLt_2 e_rLt_3 e_rLt_4 zjv e_rLt_5 zju e_rLt_6 e_rLt_7 zjt e_rLt_9
def opL (o:Opr) (n:Int):Bool:=decide ((o.key.size:Int)≤n) && (decide ((o.hi.size:Int)≤n) && decide ((o.val.size:Int)≤n))
theorem l7_ok (o:Opr) (n:Int):AFn Tryz.prog 27 [o.a,.int .i64 n] (.bool (opL o n)):=by
 refine fn_l7 rfl ?_
 unfold opL
 by_cases c1:(o.key.size:Int)≤n
 ·rw [decide_eq_true c1,Bool.true_and]
  by_cases c2:(o.hi.size:Int)≤n
  ·rw [decide_eq_true c2,Bool.true_and]
   by_cases c3:(o.val.size:Int)≤n
   ·rw [decide_eq_true c3]
    simp (maxSteps:=9^7) only [go_sem,Par.a,Opr.a,Ans.a,nul,c1,c2,c3]
   ·rw [decide_eq_false c3]
    simp (maxSteps:=9^7) only [go_sem,Par.a,Opr.a,Ans.a,nul,c1,c2,c3]
  ·rw [decide_eq_false c2,Bool.false_and]
   simp (maxSteps:=9^7) only [go_sem,Par.a,Opr.a,Ans.a,nul,c1,c2]
 ·rw [decide_eq_false c1,Bool.false_and]
  simp (maxSteps:=9^7) only [go_sem,Par.a,Opr.a,Ans.a,nul,c1]
def evL (n:Int) (e:Evt):Bool:=opL e.op n && (decide ((e.ans.val.size:Int)≤n) && decide ((sumN Par.bulk e.ans.prs:Int)≤n))
def zi4 (l:List Evt) (n most:Int):Bool:=decide ((l.length:Int)≤n) && l.all (evL most)
def rLtInv (l:List Evt) (n most:Int) (R:Bool) (k:Nat) (σ:St):Prop :=
 ∃ j:Nat,j≤l.length∧k = l.length - j∧σ.T 0 = .sl (l.map Evt.a)∧σ.T 2 = .int .i64 most∧σ.T 7 = .int .i64 j∧(l.drop j).all (evL most) = R
set_option maxHeartbeats 2000000 in
theorem rLt_ok (l:List Evt) (n most:Int) (h1:0≤most) (h2:most≤1000000) (hs:∀ x,x ∈ l->x.ok) (hl:l.length≤281474976710656) :
  AFn Tryz.prog 9 [.sl (l.map Evt.a),.int .i64 n,.int .i64 most] (.bool (zi4 l n most)):=by
 refine fn_rLt rfl ?_
 unfold zi4
 by_cases hn:(l.length:Int)≤n
 case neg =>
  have hn':n < (l.length:Int):=by omega
  rw [decide_eq_false hn,Bool.false_and]
  simp (maxSteps:=9^7) only [go_sem,Par.a,Opr.a,Ans.a,nul,hn',List.length_map]
 have hn':¬ n < (l.length:Int):=by omega
 rw [decide_eq_true hn,Bool.true_and]
 obtain ⟨R,hR⟩:∃ R,l.all (evL most) = R:=⟨_,rfl⟩
 rw [hR]
 simp (maxSteps:=9^7) only [go_sem,Par.a,Opr.a,Ans.a,nul,hn',List.length_map]
 refine z0c (rLtInv l n most R) (k:=l.length) ⟨0,by omega,rfl,?_,?_,?_,hR⟩ ?_
 iterate 3 focus ((simp (maxSteps:=9^7) only [go_sem,Par.a,Opr.a,Ans.a,nul]) <;> rfl)
 clear hR hn hn'
 rintro k σ ⟨j,hj,rfl,t0,t2,t7,hr⟩
 simp only [zo9]
 by_cases hlt:j < l.length
 case neg =>
  have hlt':¬ (j:Int) < (l.length:Int):=by omega
  rw [List.drop_eq_nil_of_le (by omega),List.all_nil] at hr
  subst hr
  simp (maxSteps:=9^7) only [go_sem,Par.a,Opr.a,Ans.a,nul,t0,t2,t7,hlt',List.length_map]
 have hlt':(j:Int) < (l.length:Int):=by omega
 obtain ⟨x,hx⟩:=z0o hlt
 have hgx:=z0v (f:=Evt.a) hx
 have hxo:=hs x (List.mem_of_getElem? hx)
 have c1:=l7_ok x.op most
 have c2:=zhl x.ans.prs most h1 h2 (fun m hm=>by have:=hxo.ans.prs.2 m hm; exact ⟨this.key,this.val⟩) hxo.ans.prs.1
 simp only [Evt.a] at hgx
 simp only [Opr.a] at c1
 have hw:=z2s (j:=j) (by omega)
 rw [z0u hx,List.all_cons] at hr
 have hb:evL most x = (opL x.op most && (decide ((x.ans.val.size:Int)≤most) && decide ((sumN Par.bulk x.ans.prs:Int)≤most))):=rfl
 rw [hb] at hr
 generalize decide ((sumN Par.bulk x.ans.prs:Int)≤most) = b3 at *
 generalize opL x.op most = b1 at *
 cases b1
 ·simp only [Bool.false_and] at hr
  subst hr
  (repeat (first | simp (maxSteps:=9^7) only [go_sem,Par.a,Opr.a,Ans.a,nul,t0,t2,t7,hlt',hgx,hlt,List.length_map,Int.toNat_natCast] | refine z01 (c1) ?_ | refine z00 (c1) ?_ | refine z01 (c2) ?_ | refine z00 (c2) ?_ | refine And.intro (by omega) ?_ | refine And.intro (fun d hd=>by (repeat (rcases hd with rfl | hd; · exact ⟨rfl,rfl⟩)); cases hd) ?_))
 by_cases q:(x.ans.val.size:Int)≤most
 ·have q':¬ most < (x.ans.val.size:Int):=by omega
  rw [decide_eq_true q] at hr
  cases b3
  ·simp only [Bool.and_false,Bool.false_and] at hr
   subst hr
   (repeat (first | simp (maxSteps:=9^7) only [go_sem,Par.a,Opr.a,Ans.a,nul,t0,t2,t7,hlt',hgx,hlt,q',List.length_map,Int.toNat_natCast] | refine z01 (c1) ?_ | refine z00 (c1) ?_ | refine z01 (c2) ?_ | refine z00 (c2) ?_ | refine And.intro (by omega) ?_ | refine And.intro (fun d hd=>by (repeat (rcases hd with rfl | hd; · exact ⟨rfl,rfl⟩)); cases hd) ?_))
  ·simp only [Bool.true_and] at hr
   (repeat (first | simp (maxSteps:=9^7) only [go_sem,Par.a,Opr.a,Ans.a,nul,t0,t2,t7,hlt',hgx,hlt,q',hw,List.length_map,Int.toNat_natCast] | refine z01 (c1) ?_ | refine z00 (c1) ?_ | refine z01 (c2) ?_ | refine z00 (c2) ?_ | refine And.intro (by omega) ?_ | refine And.intro (fun d hd=>by (repeat (rcases hd with rfl | hd; · exact ⟨rfl,rfl⟩)); cases hd) ?_))
   refine ⟨l.length - (j + 1),by omega,j + 1,by omega,rfl,?_,?_,?_,hr⟩
   iterate 3 focus ((simp (maxSteps:=9^7) only [go_sem,Par.a,Opr.a,Ans.a,nul,t0,t2,hw]) <;> rfl)
 ·have q':most < (x.ans.val.size:Int):=by omega
  rw [decide_eq_false q] at hr
  simp only [Bool.false_and,Bool.and_false] at hr
  subst hr
  (repeat (first | simp (maxSteps:=9^7) only [go_sem,Par.a,Opr.a,Ans.a,nul,t0,t2,t7,hlt',hgx,hlt,q',List.length_map,Int.toNat_natCast] | refine z01 (c1) ?_ | refine z00 (c1) ?_ | refine z01 (c2) ?_ | refine z00 (c2) ?_ | refine And.intro (by omega) ?_ | refine And.intro (fun d hd=>by (repeat (rcases hd with rfl | hd; · exact ⟨rfl,rfl⟩)); cases hd) ?_))
  all_goals omega
end
section
open Go.RowKit
attribute [local go_sem ↓] z1y z0n
def r_lgt_0:Reg:=⟨[],[⟨.box 4 26 (.t 0),some 1,none,[],[]⟩,⟨.mv (.c (.bool false)),some 2,none,[],[]⟩],[1],[],false⟩
def zk5:List ROp:=[⟨.faddr 1 (.t 1),some 3,none,[10,15],[]⟩,⟨.load 1 false (.t 3),some 4,none,[10,15],[]⟩,⟨.len false (.t 4),some 5,none,[10,15],[]⟩,⟨.bin .leq (.t 5) (.c (.int .i64 40)),some 6,none,[10,15],[]⟩,⟨.mv (.t 6),some 7,none,[10,15],[]⟩,⟨.faddr 2 (.t 1),some 8,(some (7,true)),[10,15],[]⟩,⟨.load 1 false (.t 8),some 9,(some (7,true)),[10,15],[]⟩,⟨.callv (.c (.clo 8 [] [])) [(.t 9),(.c (.int .i64 20)),(.c (.int .i64 1000))],some 10,(some (7,true)),[15],[]⟩,⟨.pick (.t 7) (.t 10) (.c (.bool false)),some 11,none,[15],[]⟩,⟨.mv (.t 11),some 12,none,[15],[]⟩,⟨.faddr 3 (.t 1),some 13,(some (12,true)),[15],[]⟩,⟨.load 1 false (.t 13),some 14,(some (12,true)),[15],[]⟩,⟨.callv (.c (.clo 9 [] [])) [(.t 14),(.c (.int .i64 20)),(.c (.int .i64 300))],some 15,(some (12,true)),[],[]⟩,⟨.pick (.t 12) (.t 15) (.c (.bool false)),some 16,none,[],[]⟩,⟨.mv (.t 16),some 2,none,[],[]⟩]
def r_lgt_1:Reg:=⟨[],zk5,[10,15],[],false⟩
def ir_lgt:IR:=(.seq (.reg r_lgt_0)
 (.seq (.reg r_lgt_1)
 .ret))
def res_lgt:List RDesc:=[(.tmp 2)]
theorem e_lgt_0:EqR r_lgt_0 [⟨.box 4 26 (.t 0),some 1,none,[],[]⟩,⟨.mv (.c (.bool false)),some 2,none,[],[]⟩] [1]:=fun _ _ _=>rfl
theorem e_lgt_1:EqR r_lgt_1 zk5 [10,15]:=fun _ _ _=>rfl
theorem fn_lgt {args:List AV} {r:AV} (ha:args.length.ble Tryz.f4.ntmps = true) (h:run (AFn Tryz.prog) ir_lgt (endQ res_lgt r) (z0h args)):AFn Tryz.prog 4 args r :=
 AFn.of_code (pv:=false) (hint:=fun _=>[]) (c:=Tryz.f4.body.getD .skip) (by kernel_rfl) (by kernel_rfl) Tryz.func4 (by kernel_rfl) (by kernel_rfl) (by kernel_rfl) (of_decide_eq_true (by kernel_rfl)) (Nat.le_of_ble_eq_true ha) (Nat.le_of_ble_eq_true (by kernel_rfl)) (z0g h)
def zjs:List ROp:=[⟨.box 4 26 (.t 0),some 2,none,[3],[]⟩,⟨.box 4 26 (.t 1),some 3,none,[],[]⟩,⟨.mv (.c (.bool false)),some 4,none,[],[]⟩]
def r_sbl_0:Reg:=⟨[],zjs,[2,3],[],false⟩
def zjr:List ROp:=[⟨.load 4 true (.t 2),some 5,none,[6,10],[]⟩,⟨.callv (.c (.clo 4 [] [])) [(.t 5)],some 6,none,[10],[]⟩,⟨.un .not (.t 6),some 7,none,[10],[]⟩,⟨.mv (.t 7),some 8,none,[10],[]⟩,⟨.load 4 true (.t 3),some 9,(some (8,false)),[10],[]⟩,⟨.callv (.c (.clo 4 [] [])) [(.t 9)],some 10,(some (8,false)),[],[]⟩,⟨.un .not (.t 10),some 11,(some (8,false)),[],[]⟩,⟨.pick (.t 8) (.c (.bool true)) (.t 11),some 12,none,[],[]⟩]
def r_sbl_1:Reg:=⟨[],zjr,[6,10],[],false⟩
def r_sbl_2:Reg:=⟨[],[⟨.callv (.c (.clo 5 [] [])) [],some 13,none,[],[]⟩,⟨.mv (.t 13),some 4,none,[],[]⟩],[13],[],false⟩
def zjq:List ROp:=[⟨.callv (.c (.clo 6 [] [])) [(.t 22),(.t 23)],some 24,(some (21,true)),[28],[]⟩,⟨.bin .eql (.t 24) (.c (.str ⟨#[]⟩)),some 25,(some (21,true)),[28],[]⟩,⟨.pick (.t 21) (.t 25) (.c (.bool false)),some 26,none,[28],[]⟩,⟨.mv (.t 26),some 27,none,[28],[]⟩,⟨.callv (.c (.clo 5 [] [])) [],some 28,(some (27,true)),[],[]⟩,⟨.pick (.t 27) (.t 28) (.c (.bool false)),some 29,none,[],[]⟩,⟨.mv (.t 29),some 4,none,[],[]⟩]
def zll:List ROp:=[⟨.load 4 true (.t 2),some 14,none,[16,19,24,28],[]⟩,⟨.load 4 true (.t 3),some 15,none,[16,19,24,28],[]⟩,⟨.callv (.c (.clo 6 [] [])) [(.t 14),(.t 15)],some 16,none,[19,24,28],[]⟩,⟨.load 4 true (.t 2),some 17,none,[16,19,24,28],[]⟩,⟨.load 4 true (.t 3),some 18,none,[16,19,24,28],[]⟩,⟨.callv (.c (.clo 7 [] [])) [(.t 17),(.t 18)],some 19,none,[24,28],[]⟩,⟨.bin .eql (.t 16) (.t 19),some 20,none,[24,28],[]⟩,⟨.mv (.t 20),some 21,none,[24,28],[]⟩,⟨.load 4 true (.t 2),some 22,(some (21,true)),[24,28],[]⟩,⟨.load 4 true (.t 2),some 23,(some (21,true)),[24,28],[]⟩]
def r_sbl_3:Reg:=⟨zll,zjq,[16,19,24,28],[],true⟩
def ir_sbl:IR:=(.seq (.reg r_sbl_0)
 (.seq (.seq (.reg r_sbl_1)
 (.cond (.t 12) (.seq (.reg r_sbl_2)
 .ret)
 .skip))
 (.seq (.reg r_sbl_3)
 .ret)))
def res_sbl:List RDesc:=[(.tmp 4)]
theorem e_sbl_0:EqR r_sbl_0 zjs [2,3]:=fun _ _ _=>rfl
theorem e_sbl_1:EqR r_sbl_1 zjr [6,10]:=fun _ _ _=>rfl
theorem e_sbl_2:EqR r_sbl_2 [⟨.callv (.c (.clo 5 [] [])) [],some 13,none,[],[]⟩,⟨.mv (.t 13),some 4,none,[],[]⟩] [13]:=fun _ _ _=>rfl
theorem e_sbl_3 (C:FuncId->List AV->AV->Prop) (σ:St) (K:St->Prop):z1d C r_sbl_3 σ K = z07 C [] zjq zll (σ.kills [16,19,24,28]) K:=rfl
theorem fn_sbl {args:List AV} {r:AV} (ha:args.length.ble Tryz.f3.ntmps = true) (h:run (AFn Tryz.prog) ir_sbl (endQ res_sbl r) (z0h args)):AFn Tryz.prog 3 args r :=
 AFn.of_code (pv:=false) (hint:=fun _=>[]) (c:=Tryz.f3.body.getD .skip) (by kernel_rfl) (by kernel_rfl) Tryz.func3 (by kernel_rfl) (by kernel_rfl) (by kernel_rfl) (of_decide_eq_true (by kernel_rfl)) (Nat.le_of_ble_eq_true ha) (Nat.le_of_ble_eq_true (by kernel_rfl)) (z0g h)
attribute [local go_sem ↓] ir_lgt
attribute [local go_sem] res_lgt e_lgt_0 e_lgt_1 zk5
attribute [local go_sem ↓] ir_sbl
attribute [local go_sem] res_sbl e_sbl_0 zjs e_sbl_1 zjr e_sbl_2 e_sbl_3 zjq zll
def frmB (f:Frm):Bool:=decide (f.holds.length≤40) && (zi5 f.nodes 20 1000 && zi4 f.events 20 300)
theorem lgt_ok (f:Frm) (ho:f.ok):AFn Tryz.prog 4 [f.a] (.bool (frmB f)):=by
 refine fn_lgt rfl ?_
 have c1:=light_ok f.nodes 20 1000 (by omega) (by omega) ho.nodes.2 ho.nodes.1
 have c2:=rLt_ok f.events 20 300 (by omega) (by omega) ho.events.2 ho.events.1
 unfold frmB
 simp only [Frm.a]
 generalize zi5 f.nodes 20 1000 = b1 at *
 generalize zi4 f.events 20 300 = b2 at *
 by_cases h:f.holds.length≤40
 ·have h':(f.holds.length:Int)≤40:=by omega
  rw [decide_eq_true h,Bool.true_and]
  cases b1
  ·(repeat (first | simp (maxSteps:=9^7) only [go_sem,Frm.a,h',List.length_map,Bool.false_and,Bool.true_and] | refine z01 (c1) ?_ | refine z00 (c1) ?_ | refine z01 (c2) ?_ | refine z00 (c2) ?_ | refine And.intro (by omega) ?_ | refine And.intro (fun d hd=>by (repeat (rcases hd with rfl | hd; · exact ⟨rfl,rfl⟩)); cases hd) ?_))
  ·(repeat (first | simp (maxSteps:=9^7) only [go_sem,Frm.a,h',List.length_map,Bool.false_and,Bool.true_and] | refine z01 (c1) ?_ | refine z00 (c1) ?_ | refine z01 (c2) ?_ | refine z00 (c2) ?_ | refine And.intro (by omega) ?_ | refine And.intro (fun d hd=>by (repeat (rcases hd with rfl | hd; · exact ⟨rfl,rfl⟩)); cases hd) ?_))
 ·have h':¬ (f.holds.length:Int)≤40:=by omega
  rw [decide_eq_false h,Bool.false_and]
  (repeat (first | simp (maxSteps:=9^7) only [go_sem,Frm.a,h',List.length_map,Bool.false_and,Bool.true_and] | refine z01 (c1) ?_ | refine z00 (c1) ?_ | refine z01 (c2) ?_ | refine z00 (c2) ?_ | refine And.intro (by omega) ?_ | refine And.intro (fun d hd=>by (repeat (rcases hd with rfl | hd; · exact ⟨rfl,rfl⟩)); cases hd) ?_))
theorem few_of {f:Frm} (ho:f.ok) (h:frmB f = true):f.few:=by
 unfold frmB zi5 zi4 at h
 simp only [Bool.and_eq_true,decide_eq_true_eq,List.all_eq_true] at h
 obtain ⟨h1,⟨h2,h3⟩,h4,h5⟩:=h
 refine ⟨ho,by omega,by omega,by omega,fun n hn=>?_⟩
 have h:=h3 n hn
 unfold Nd.light at h
 simp only [Bool.and_eq_true,decide_eq_true_eq] at h
 obtain ⟨⟨⟨⟨h1,h2⟩,h3⟩,h4⟩,h5⟩:=h
 have l1:=z89 (f:=Par.bulk) (fun x=>by unfold Par.bulk; omega) n.rows
 have l2:=z89 (f:=z3d) (fun x=>by unfold z3d; omega) n.pivots
 have l4:=z89 (f:=Msg.bulkN) (fun x=>by unfold Msg.bulkN; omega) n.msgs
 exact ⟨by omega,by omega,by omega,by omega⟩
theorem hldE_refl (h:Hld):hldE h h = true:=by
 unfold hldE
 rw [beq_self_eq_true,beq_self_eq_true,beq_self_eq_true]
 rfl
theorem newH_self (l:List Hld):newH l l = []:=by
 unfold newH
 rw [List.filter_eq_nil_iff]
 intro h hh
 rw [show (l.any (hldE h)) = true from List.any_eq_true.2 ⟨h,hh,hldE_refl h⟩]
 simp
theorem newN_self (l:List Nd):newN l l = []:=by
 unfold newN
 rw [List.filter_eq_nil_iff]
 intro n hn
 rw [show (l.any fun x=>ndE x n) = true from List.any_eq_true.2 ⟨n,hn,ndE_refl n⟩]
 simp
theorem z7w (a:List Evt):∀ (l:List Evt) (i:Nat),(∀ k,l[k]? = a[i + k]?)->z09 a l i = []
 | [],_,_=>rfl
 | e :: l,i,h=>by
  have h0:=h 0
  rw [Nat.add_zero] at h0
  rw [z09,← h0,z7w a l (i + 1) (fun k=>by have:=h (k + 1); rw [List.getElem?_cons_succ] at this; rw [this]; congr 1; omega)]
  have hd:(e.done && !e.done) = false:=by cases e.done <;> rfl
  have hp:(e.point != e.point) = false:=by rw [bne,beq_self_eq_true]; rfl
  show evX (some e) i e ++ [] = []
  simp only [evX,hd,hp,Bool.false_and]
  rfl
theorem zfq (a:Frm):z1i a a = []:=by
 unfold z1i z3x z3m z26
 rw [newH_self,newN_self,z7w a.events a.events 0 (fun k=>by rw [Nat.zero_add])]
 rfl
theorem story_law (a b:Frm) (ha:a.ok) (hb:b.ok):AFn Tryz.prog 3 [a.a,b.a] (.bool true):=by
 refine fn_sbl rfl ?_
 have c1:=lgt_ok a ha
 have c2:=lgt_ok b hb
 have aw:=awake57_ok
 cases q1:frmB a with
 | false =>
  rw [q1] at c1
  simp only [Frm.a] at c1 c2 ⊢
  (repeat (first | simp (maxSteps:=9^7) only [go_sem,Frm.a] | refine z01 (c1) ?_ | refine z00 (c1) ?_ | refine z01 (c2) ?_ | refine z00 (c2) ?_ | refine z01 (aw) ?_ | refine z00 (aw) ?_ | refine And.intro (by omega) ?_ | refine And.intro (fun d hd=>by (repeat (rcases hd with rfl | hd; · exact ⟨rfl,rfl⟩)); cases hd) ?_))
 | true =>
  rw [q1] at c1
  cases q2:frmB b with
  | false =>
   rw [q2] at c2
   simp only [Frm.a] at c1 c2 ⊢
   (repeat (first | simp (maxSteps:=9^7) only [go_sem,Frm.a] | refine z01 (c1) ?_ | refine z00 (c1) ?_ | refine z01 (c2) ?_ | refine z00 (c2) ?_ | refine z01 (aw) ?_ | refine z00 (aw) ?_ | refine And.intro (by omega) ?_ | refine And.intro (fun d hd=>by (repeat (rcases hd with rfl | hd; · exact ⟨rfl,rfl⟩)); cases hd) ?_))
  | true =>
   rw [q2] at c2
   have fa:=few_of ha q1
   have fb:=few_of hb q2
   have k1:=sbt_ok a b fa fb
   have k2:=rbt_ok a b fa fb
   have k3:=sbt_ok a a fa fa
   rw [zfq] at k3
   have e3:z4h [] ⟨#[32]⟩ = (⟨#[]⟩:ByteArray):=rfl
   rw [e3] at k3
   generalize z4h (z1i a b) ⟨#[32]⟩ = R at *
   simp only [Frm.a] at c1 c2 k1 k2 k3 ⊢
   (repeat (first | simp (maxSteps:=9^7) only [go_sem,Frm.a,beq_self_eq_true] | refine z01 (c1) ?_ | refine z00 (c1) ?_ | refine z01 (c2) ?_ | refine z00 (c2) ?_ | refine z01 (k1) ?_ | refine z00 (k1) ?_ | refine z01 (k3) ?_ | refine z00 (k3) ?_ | refine z01 (k2) ?_ | refine z00 (k2) ?_ | refine z01 (aw) ?_ | refine z00 (aw) ?_ | refine And.intro (by omega) ?_ | refine And.intro (fun d hd=>by (repeat (rcases hd with rfl | hd; · exact ⟨rfl,rfl⟩)); cases hd) ?_))
theorem zbq {w:World} {fs:List Ty} {c:Array Value} {ds:List AV} (h:z4c w (.st fs) c.toList ds):VR (fun b _=>b < w.heap.size) w (.agg ds) (.agg c):=by
 have:=VR.agg (Pr:=fun b _=>b < w.heap.size) (w:=w) ds c.toList h.2.1 h.2.2
 simpa using this
theorem story_walk (c d:Array Value) (w:World) (hG:Glob w) (f0:∃ ds,z4c w FrmT c.toList ds) (f1:∃ ds,z4c w FrmT d.toList ds) :
  Calls Tryz.prog 3 #[.agg c,.agg d] w fun e w'=>e = .returned (.bool true)∧Below w.heap.size w w':=by
 obtain ⟨d0,r0⟩:=f0
 obtain ⟨d1,r1⟩:=f1
 obtain ⟨a,e0,oa⟩:=Frm.of r0.1
 obtain ⟨b,e1,ob⟩:=Frm.of r1.1
 have v0:=zbq r0
 have v1:=zbq r1
 rw [e0] at v0
 rw [e1] at v1
 have hA:=story_law a b oa ob
 have:=hA.calls w (fun b _=>b < w.heap.size) [.agg c,.agg d] hG (fun b o hb=>hb) rfl (fun j x u hj hu=>by
  match j with
  | 0=>cases hj; cases hu; exact v0
  | 1=>cases hj; cases hu; exact v1
  | j + 2=>simp at hj)
 refine this.mono fun e w' ⟨u,he,hb,hr⟩=>?_
 have hr':VR _ w' (.bool true) u:=hr
 cases hr'
 exact ⟨he,hb⟩
end
section
namespace storyBetween
open Go.ChangeShapes Go.WideShapes Go.ChangeAt Go.RowKit
open Go.ChangeMaps (open_string shut_string)
set_option maxRecDepth 100000 in
theorem lifted (os:Os) (started:os.Started) (H:Type) (enc:TypeId × Value->H) :
  ReturnsInHanded {} Tryz.checked os 3 .any (fun w args=>(Rows.storyBetweenSpec.pre enc Tryz.prog Tryz.f3 [] false w args∧laidMetH Tryz.prog Rows.storyBetweenRow.laid w)∧sizedMet enc Tryz.prog Tryz.f3 (OpenSpec.ofChange Rows.storyBetweenSpec) false w args) (Rows.storyBetweenSpec.post enc Tryz.prog Tryz.f3 false true false false):=by
 refine returnsInHanded_of_row (C:=Tryz.checked) (s:=OpenSpec.ofChange Rows.storyBetweenSpec) (F:=fun _ _ _=>0) ownK started (by kernel_rfl) Tryz.func3
  (ChangeSpec.witness_shaped (enc:=enc) (C:=Tryz.checked) (os:=os) (X:=fun w _=>laidMetH Tryz.prog Rows.storyBetweenRow.laid w) false (World.laidAll Tryz.prog os Rows.storyBetweenRow.laid) #[.agg #[.int .i64 0,.slice none 0 0,.slice none 0 0,.slice none 0 0],.agg #[.int .i64 0,.slice none 0 0,.slice none 0 0,.slice none 0 0]] 8 (World.laidAll_os _ _ _)
   (World.shaped_of_ZipB (by kernel_rfl) (by kernel_rfl)) (by kernel_rfl) (by kernel_rfl) (by kernel_rfl)
   (by rw [MakeChecks.laidMetH_plain _ _ _ (by kernel_rfl)]; exact laidMet_laidAll _ (by kernel_rfl) (by kernel_rfl))) ?_
 intro W base args ds gs before hval0 hW hcnd hk hsz hL hsh _
 have hval:∀ (j:Nat) t v,Tryz.f3.params[j]? = some t->args[j]? = some v->Value.okWide Tryz.prog W .any base t v:=hval0
 have hW':=hW
 obtain ⟨p,q,hA0,hV,rfl,hfz,hnd⟩:=hW
 have hA:DataW.TrodAll enc Tryz.prog W 0 (fun _=>true) true Tryz.f3.params.toList args.toList ds p:=hA0
 rw [Tryz.params3] at hA hval
 obtain ⟨v0,vs0,d0,ds0,p0,q0,hargs,rfl,rfl,h0,r0⟩:=trodAll_cons hA
 obtain ⟨v1,vs1,d1,ds1,p1,q1,rfl,rfl,rfl,h1,r1⟩:=trodAll_cons r0
 obtain ⟨rfl,rfl,rfl⟩:=trodAll_nil r1
 obtain rfl:args = #[v0,v1]:=by cases args; simp_all
 obtain ⟨rfl,rfl⟩:=trodVars_none hV
 have hw0:(d0.weights Tryz.prog 26).all (·≤reachBytes) = true:=z3b hsz 0 26 d0 rfl rfl
 obtain ⟨c0,rfl,hc0⟩:=okWide_struct Tryz.underlying26 (hval 0 26 v0 rfl rfl)
 obtain ⟨fu0,ht0⟩:=h0
 have f0:∃ ds,z4c W (FrmT) c0.toList ds:=z5s 8 (x:=(d0,p0)) (by kernel_rfl) hw0 ht0
 have hw1:(d1.weights Tryz.prog 26).all (·≤reachBytes) = true:=z3b hsz 1 26 d1 rfl rfl
 obtain ⟨c1,rfl,hc1⟩:=okWide_struct Tryz.underlying26 (hval 1 26 v1 rfl rfl)
 obtain ⟨fu1,ht1⟩:=h1
 have f1:∃ ds,z4c W (FrmT) c1.toList ds:=z5s 8 (x:=(d1,p1)) (by kernel_rfl) hw1 ht1
 have hL':=hL
 rw [MakeChecks.laidMetH_plain _ _ _ (by kernel_rfl)] at hL'
 have hL3:laidMet Tryz.prog (("internal/strconv.uint64pow10",Rows.laid_internal_strconv_uint64pow10) :: []) W:=(laidMet.tail (laidMet.tail hL'))
 rw [show (Rows.laid_internal_strconv_uint64pow10:DataW Unit) = Lib.tabData .u64 Lib.pow10Tab by kernel_rfl] at hL3
 have htab:zaz W:=Lib.tabIs_of_head (g:=1) (t:=237) (e:=215) (n:=20) (by kernel_rfl) (by kernel_rfl) Tryz.underlying237 Tryz.underlying215 (by kernel_rfl) (by kernel_rfl) hL3
 refine (story_walk c0 c1 W (Glob.start hsh htab) f0 f1).mono fun e W' ⟨he,hb⟩=>?_
 subst he
 exact ⟨_,rfl,post_law laidOut hW' rfl rfl rfl rfl rfl Tryz.underlying4 (by intro t ht; rw [Tryz.params3] at ht; simp only [List.mem_cons,List.not_mem_nil,or_false] at ht; rcases ht with rfl | rfl <;> exact ⟨by kernel_rfl,of_decide_eq_true (by kernel_rfl)⟩) hb⟩
end storyBetween
end
end Go.Proofs.YtlhblpbfhfhlpaaGreatDoor
