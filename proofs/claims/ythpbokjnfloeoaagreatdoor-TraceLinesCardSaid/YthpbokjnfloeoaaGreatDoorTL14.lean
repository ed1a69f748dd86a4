/-
  Part 14 of a proof: NdB, TrH, TrI, SqG, SqH, SqJ, SqK.
-/
import Derived.Test.YthpbokjnfloeoaaGreatDoorTL13
namespace Go.Proofs.YthpbokjnfloeoaaGreatDoor
set_option linter.unusedVariables false
section
/-
 Are nodes few,with few things? The document's Light,walked.
-/
open Go.RowKit
set_option linter.unusedVariables false
set_option linter.unusedSimpArgs false
set_option maxRecDepth 100000
attribute [local go_sem ↓] z11 z0l
def sumN {α:Type} (f:α->Nat):List α->Nat
 | []=>0
 | x :: l=>f x + sumN f l
theorem sumN_at {α:Type} {f:α->Nat} {l:List α} {j:Nat} {x:α} (h:l[j]? = some x):sumN f (l.drop j) = f x + sumN f (l.drop (j + 1)):=by
 rw [z0h h]; rfl
theorem z4y {α:Type} {f:α->Nat}:∀ {l:List α} {x:α},x ∈ l->f x≤sumN f l
 | y :: l,x,h=>by
  show _≤f y + sumN f l
  rcases List.mem_cons.1 h with rfl | h
  ·omega
  ·have:=z4y (f:=f) h; omega
theorem z4z {α:Type} {f:α->Nat} (hf:∀ x,1≤f x):∀ l:List α,l.length≤sumN f l
 | []=>Nat.le_refl _
 | x :: l=>by
  have:=z4z hf l
  have:=hf x
  show l.length + 1≤f x + sumN f l
  omega
def Par.bulk (p:Par):Nat:=1 + p.key.size + p.val.size
def Msg.bulkN (m:Msg):Nat:=1 + m.key.size + m.hi.size + m.val.size
def z1o (s:ByteArray):Nat:=s.size + 1
def longInv (l:List AV) (most:Int) (rest:Nat->Nat) (r:Bool) (k:Nat) (σ:St):Prop :=
 ∃ (j n:Nat),j≤l.length∧k = l.length - j∧σ.T 0 = .sl l∧σ.T 1 = .int .i64 most∧σ.T 5 = .int .i64 n∧σ.T 6 = .int .i64 j∧n≤900000000000000∧decide (((n + rest j:Nat):Int)≤most) = r
/-! ### percolate/percolateref09.Long -/
def zti:Reg:=⟨[],[⟨.mv (.c (.bool false)),some 4,none,[],[]⟩],[],[],false⟩
def zth:Reg:=⟨[],[⟨.mv (.c (.int .i64 0)),some 5,none,[],[]⟩],[],[],false⟩
def ztg:Reg:=⟨[],[⟨.mv (.c (.int .i64 0)),some 6,none,[],[]⟩],[],[],false⟩
def zca:List ROp:=[⟨.mv (.t 6),some 7,none,[],[]⟩,⟨.mv (.t 0),some 8,none,[],[]⟩,⟨.len false (.t 8),some 9,none,[],[]⟩,⟨.bin .lss (.t 7) (.t 9),some 10,none,[],[]⟩,⟨.mv (.t 10),some 11,none,[],[]⟩,⟨.mv (.t 5),some 12,(some (11,true)),[],[]⟩,⟨.mv (.t 1),some 13,(some (11,true)),[],[]⟩,⟨.bin .leq (.t 12) (.t 13),some 14,(some (11,true)),[],[]⟩,⟨.pick (.t 11) (.t 14) (.c (.bool false)),some 15,none,[],[]⟩]
def ztf:Reg:=⟨[],zca,[],[],false⟩
def zeq:List ROp:=[⟨.mv (.t 5),some 18,none,[],[]⟩,⟨.mv (.t 0),some 19,none,[],[]⟩,⟨.mv (.t 6),some 20,none,[],[]⟩,⟨.iaddr 2 (.t 19) (.t 20),some 21,none,[],[]⟩,⟨.faddr 0 (.t 21),some 22,none,[],[]⟩,⟨.load 1 false (.t 22),some 23,none,[],[]⟩,⟨.len true (.t 23),some 24,none,[],[]⟩,⟨.bin .add (.c (.int .i64 1)) (.t 24),some 25,none,[],[]⟩,⟨.mv (.t 0),some 26,none,[],[]⟩,⟨.mv (.t 6),some 27,none,[],[]⟩,⟨.iaddr 2 (.t 26) (.t 27),some 28,none,[],[]⟩,⟨.faddr 1 (.t 28),some 29,none,[],[]⟩,⟨.load 1 false (.t 29),some 30,none,[],[]⟩,⟨.len true (.t 30),some 31,none,[],[]⟩,⟨.bin .add (.t 25) (.t 31),some 32,none,[],[]⟩]
def zte:Reg:=⟨zeq,[⟨.bin .add (.t 18) (.t 32),some 33,none,[],[]⟩,⟨.mv (.t 33),some 5,none,[],[]⟩],[],[],true⟩
def zc9:List ROp:=[⟨.mv (.t 6),some 16,none,[],[]⟩,⟨.bin .add (.t 16) (.c (.int .i64 1)),some 17,none,[],[]⟩,⟨.mv (.t 17),some 6,none,[],[]⟩]
def ztd:Reg:=⟨[],zc9,[],[],false⟩
def zlm:IR:=(.seq (.seq (.reg ztf)
 (.cond (.t 15) .skip
 (.exit 0)))
 (.seq (.block 1 (.reg zte))
 (.reg ztd)))
def zc8:List ROp:=[⟨.mv (.t 5),some 34,none,[],[]⟩,⟨.mv (.t 1),some 35,none,[],[]⟩,⟨.bin .leq (.t 34) (.t 35),some 36,none,[],[]⟩,⟨.mv (.t 36),some 4,none,[],[]⟩]
def ztc:Reg:=⟨[],zc8,[],[],false⟩
def y6w:IR:=(.seq (.reg zti)
 (.seq (.reg zth)
 (.seq (.seq (.reg ztg)
 (.block 0 (.loop zlm)))
 (.seq (.reg ztc)
 .ret))))
def zq9:List RDesc:=[(.tmp 4)]
theorem e_rLong9_0:EqR zti [⟨.mv (.c (.bool false)),some 4,none,[],[]⟩] []:=fun _ _ _=>rfl
theorem e_rLong9_1:EqR zth [⟨.mv (.c (.int .i64 0)),some 5,none,[],[]⟩] []:=fun _ _ _=>rfl
theorem e_rLong9_2:EqR ztg [⟨.mv (.c (.int .i64 0)),some 6,none,[],[]⟩] []:=fun _ _ _=>rfl
theorem e_rLong9_3:EqR ztf zca []:=fun _ _ _=>rfl
theorem e_rLong9_4 (C:FuncId->List AV->AV->Prop) (σ:St) (K:St->Prop):z0k C zte σ K = z08 C [] [⟨.bin .add (.t 18) (.t 32),some 33,none,[],[]⟩,⟨.mv (.t 33),some 5,none,[],[]⟩] zeq (σ.kills []) K:=rfl
theorem e_rLong9_5:EqR ztd zc9 []:=fun _ _ _=>rfl
theorem e_rLong9_7:EqR ztc zc8 []:=fun _ _ _=>rfl
theorem fn_rLong9 {args:List AV} {r:AV} (ha:args.length.ble Tryz.f24.ntmps = true) (h:run (AFn Tryz.prog) y6w (endQ zq9 r) (z0b args)):AFn Tryz.prog 24 args r :=
 AFn.of_code (pv:=false) (hint:=fun _=>[]) (c:=Tryz.f24.body.getD .skip) (by kernel_rfl) (by kernel_rfl) Tryz.func24 (by kernel_rfl) (by kernel_rfl) (by kernel_rfl) (of_decide_eq_true (by kernel_rfl)) (Nat.le_of_ble_eq_true ha) (Nat.le_of_ble_eq_true (by kernel_rfl)) (z0c h)
/-! ### percolate/percolateref05.Few -/
def y3n:Reg:=⟨[],[⟨.mv (.c (.bool false)),some 4,none,[],[]⟩],[],[],false⟩
def y3m:Reg:=⟨[],[⟨.mv (.c (.int .i64 0)),some 5,none,[],[]⟩],[],[],false⟩
def y3l:Reg:=⟨[],[⟨.mv (.c (.int .i64 0)),some 6,none,[],[]⟩],[],[],false⟩
def zid:List ROp:=[⟨.mv (.t 6),some 7,none,[],[]⟩,⟨.mv (.t 0),some 8,none,[],[]⟩,⟨.len false (.t 8),some 9,none,[],[]⟩,⟨.bin .lss (.t 7) (.t 9),some 10,none,[],[]⟩,⟨.mv (.t 10),some 11,none,[],[]⟩,⟨.mv (.t 5),some 12,(some (11,true)),[],[]⟩,⟨.mv (.t 1),some 13,(some (11,true)),[],[]⟩,⟨.bin .leq (.t 12) (.t 13),some 14,(some (11,true)),[],[]⟩,⟨.pick (.t 11) (.t 14) (.c (.bool false)),some 15,none,[],[]⟩]
def y3k:Reg:=⟨[],zid,[],[],false⟩
def zo4:List ROp:=[⟨.mv (.t 5),some 18,none,[],[]⟩,⟨.mv (.t 0),some 19,none,[],[]⟩,⟨.mv (.t 6),some 20,none,[],[]⟩,⟨.iaddr 6 (.t 19) (.t 20),some 21,none,[],[]⟩,⟨.faddr 2 (.t 21),some 22,none,[],[]⟩,⟨.load 1 false (.t 22),some 23,none,[],[]⟩,⟨.len true (.t 23),some 24,none,[],[]⟩,⟨.bin .add (.c (.int .i64 1)) (.t 24),some 25,none,[],[]⟩,⟨.mv (.t 0),some 26,none,[],[]⟩,⟨.mv (.t 6),some 27,none,[],[]⟩,⟨.iaddr 6 (.t 26) (.t 27),some 28,none,[],[]⟩,⟨.faddr 3 (.t 28),some 29,none,[],[]⟩,⟨.load 1 false (.t 29),some 30,none,[],[]⟩,⟨.len true (.t 30),some 31,none,[],[]⟩,⟨.bin .add (.t 25) (.t 31),some 32,none,[],[]⟩,⟨.mv (.t 0),some 33,none,[],[]⟩,⟨.mv (.t 6),some 34,none,[],[]⟩,⟨.iaddr 6 (.t 33) (.t 34),some 35,none,[],[]⟩,⟨.faddr 5 (.t 35),some 36,none,[],[]⟩,⟨.load 1 false (.t 36),some 37,none,[],[]⟩,⟨.len true (.t 37),some 38,none,[],[]⟩,⟨.bin .add (.t 32) (.t 38),some 39,none,[],[]⟩]
def y3j:Reg:=⟨zo4,[⟨.bin .add (.t 18) (.t 39),some 40,none,[],[]⟩,⟨.mv (.t 40),some 5,none,[],[]⟩],[],[],true⟩
def zic:List ROp:=[⟨.mv (.t 6),some 16,none,[],[]⟩,⟨.bin .add (.t 16) (.c (.int .i64 1)),some 17,none,[],[]⟩,⟨.mv (.t 17),some 6,none,[],[]⟩]
def y3i:Reg:=⟨[],zic,[],[],false⟩
def ztr:IR:=(.seq (.seq (.reg y3k)
 (.cond (.t 15) .skip
 (.exit 0)))
 (.seq (.block 1 (.reg y3j))
 (.reg y3i)))
def zib:List ROp:=[⟨.mv (.t 5),some 41,none,[],[]⟩,⟨.mv (.t 1),some 42,none,[],[]⟩,⟨.bin .leq (.t 41) (.t 42),some 43,none,[],[]⟩,⟨.mv (.t 43),some 4,none,[],[]⟩]
def y3h:Reg:=⟨[],zib,[],[],false⟩
def yfs:IR:=(.seq (.reg y3n)
 (.seq (.reg y3m)
 (.seq (.seq (.reg y3l)
 (.block 0 (.loop ztr)))
 (.seq (.reg y3h)
 .ret))))
def y0j:List RDesc:=[(.tmp 4)]
theorem e_rFewN_0:EqR y3n [⟨.mv (.c (.bool false)),some 4,none,[],[]⟩] []:=fun _ _ _=>rfl
theorem e_rFewN_1:EqR y3m [⟨.mv (.c (.int .i64 0)),some 5,none,[],[]⟩] []:=fun _ _ _=>rfl
theorem e_rFewN_2:EqR y3l [⟨.mv (.c (.int .i64 0)),some 6,none,[],[]⟩] []:=fun _ _ _=>rfl
theorem e_rFewN_3:EqR y3k zid []:=fun _ _ _=>rfl
theorem e_rFewN_4 (C:FuncId->List AV->AV->Prop) (σ:St) (K:St->Prop):z0k C y3j σ K = z08 C [] [⟨.bin .add (.t 18) (.t 39),some 40,none,[],[]⟩,⟨.mv (.t 40),some 5,none,[],[]⟩] zo4 (σ.kills []) K:=rfl
theorem e_rFewN_5:EqR y3i zic []:=fun _ _ _=>rfl
theorem e_rFewN_7:EqR y3h zib []:=fun _ _ _=>rfl
theorem fn_rFewN {args:List AV} {r:AV} (ha:args.length.ble Tryz.f26.ntmps = true) (h:run (AFn Tryz.prog) yfs (endQ y0j r) (z0b args)):AFn Tryz.prog 26 args r :=
 AFn.of_code (pv:=false) (hint:=fun _=>[]) (c:=Tryz.f26.body.getD .skip) (by kernel_rfl) (by kernel_rfl) Tryz.func26 (by kernel_rfl) (by kernel_rfl) (by kernel_rfl) (of_decide_eq_true (by kernel_rfl)) (Nat.le_of_ble_eq_true ha) (Nat.le_of_ble_eq_true (by kernel_rfl)) (z0c h)
/-! ### percolate/percolateref01.Long -/
def ztp:Reg:=⟨[],[⟨.mv (.c (.int .i64 0)),some 4,none,[],[]⟩],[],[],false⟩
def zto:Reg:=⟨[],[⟨.mv (.c (.int .i64 0)),some 5,none,[],[]⟩],[],[],false⟩
def ztn:Reg:=⟨[],[⟨.mv (.c (.int .i64 0)),some 6,none,[],[]⟩],[],[],false⟩
def zcd:List ROp:=[⟨.mv (.t 6),some 7,none,[],[]⟩,⟨.mv (.t 0),some 8,none,[],[]⟩,⟨.len false (.t 8),some 9,none,[],[]⟩,⟨.bin .lss (.t 7) (.t 9),some 10,none,[],[]⟩,⟨.mv (.t 10),some 11,none,[],[]⟩,⟨.mv (.t 5),some 12,(some (11,true)),[],[]⟩,⟨.mv (.t 1),some 13,(some (11,true)),[],[]⟩,⟨.bin .leq (.t 12) (.t 13),some 14,(some (11,true)),[],[]⟩,⟨.pick (.t 11) (.t 14) (.c (.bool false)),some 15,none,[],[]⟩]
def ztm:Reg:=⟨[],zcd,[],[],false⟩
def zcc:List ROp:=[⟨.mv (.t 5),some 18,none,[],[]⟩,⟨.mv (.t 0),some 19,none,[],[]⟩,⟨.mv (.t 6),some 20,none,[],[]⟩,⟨.iaddr 1 (.t 19) (.t 20),some 21,none,[],[]⟩,⟨.load 1 false (.t 21),some 22,none,[],[]⟩,⟨.len true (.t 22),some 23,none,[],[]⟩,⟨.bin .add (.t 23) (.c (.int .i64 1)),some 24,none,[],[]⟩,⟨.bin .add (.t 18) (.t 24),some 25,none,[],[]⟩,⟨.mv (.t 25),some 5,none,[],[]⟩]
def ztl:Reg:=⟨[],zcc,[],[],false⟩
def zcb:List ROp:=[⟨.mv (.t 6),some 16,none,[],[]⟩,⟨.bin .add (.t 16) (.c (.int .i64 1)),some 17,none,[],[]⟩,⟨.mv (.t 17),some 6,none,[],[]⟩]
def ztk:Reg:=⟨[],zcb,[],[],false⟩
def zln:IR:=(.seq (.seq (.reg ztm)
 (.cond (.t 15) .skip
 (.exit 0)))
 (.seq (.block 1 (.reg ztl))
 (.reg ztk)))
def ztj:Reg:=⟨[],[⟨.mv (.t 5),some 26,none,[],[]⟩,⟨.mv (.t 26),some 4,none,[],[]⟩],[],[],false⟩
def y6x:IR:=(.seq (.reg ztp)
 (.seq (.reg zto)
 (.seq (.seq (.reg ztn)
 (.block 0 (.loop zln)))
 (.seq (.reg ztj)
 .ret))))
def zqa:List RDesc:=[(.tmp 4)]
theorem e_rLong1_0:EqR ztp [⟨.mv (.c (.int .i64 0)),some 4,none,[],[]⟩] []:=fun _ _ _=>rfl
theorem e_rLong1_1:EqR zto [⟨.mv (.c (.int .i64 0)),some 5,none,[],[]⟩] []:=fun _ _ _=>rfl
theorem e_rLong1_2:EqR ztn [⟨.mv (.c (.int .i64 0)),some 6,none,[],[]⟩] []:=fun _ _ _=>rfl
theorem e_rLong1_3:EqR ztm zcd []:=fun _ _ _=>rfl
theorem e_rLong1_4:EqR ztl zcc []:=fun _ _ _=>rfl
theorem e_rLong1_5:EqR ztk zcb []:=fun _ _ _=>rfl
theorem e_rLong1_7:EqR ztj [⟨.mv (.t 5),some 26,none,[],[]⟩,⟨.mv (.t 26),some 4,none,[],[]⟩] []:=fun _ _ _=>rfl
theorem fn_rLong1 {args:List AV} {r:AV} (ha:args.length.ble Tryz.f25.ntmps = true) (h:run (AFn Tryz.prog) y6x (endQ zqa r) (z0b args)):AFn Tryz.prog 25 args r :=
 AFn.of_code (pv:=false) (hint:=fun _=>[]) (c:=Tryz.f25.body.getD .skip) (by kernel_rfl) (by kernel_rfl) Tryz.func25 (by kernel_rfl) (by kernel_rfl) (by kernel_rfl) (of_decide_eq_true (by kernel_rfl)) (Nat.le_of_ble_eq_true ha) (Nat.le_of_ble_eq_true (by kernel_rfl)) (z0c h)
attribute [local go_sem ↓] y6w
attribute [local go_sem] zq9 e_rLong9_0 e_rLong9_1 e_rLong9_2 e_rLong9_3 zca e_rLong9_4 zeq e_rLong9_5 zc9 e_rLong9_7 zc8
attribute [local go_sem ↓] yfs
attribute [local go_sem] y0j e_rFewN_0 e_rFewN_1 e_rFewN_2 e_rFewN_3 zid e_rFewN_4 zo4 e_rFewN_5 zic e_rFewN_7 zib
attribute [local go_sem ↓] y6x
attribute [local go_sem] zqa e_rLong1_0 e_rLong1_1 e_rLong1_2 e_rLong1_3 zcd e_rLong1_4 zcc e_rLong1_5 zcb e_rLong1_7
theorem rLong9_ok (l:List Par) (most:Int) (h1:0≤most) (h2:most≤1000000) (hs:∀ m,m ∈ l->m.key.size≤281474976710656∧m.val.size≤281474976710656) (hl:l.length≤281474976710656) :
  AFn Tryz.prog 24 [.sl (l.map Par.a),.int .i64 most] (.bool (decide ((sumN Par.bulk l:Int)≤most))):=by
 refine fn_rLong9 rfl ?_
 simp (maxSteps:=9^7) only [go_sem,↓reduceIte,reduceCtorEq,Nat.reduceEqDiff,Nat.reduceBEq,Nat.reduceAdd,Nat.reduceSub,Nat.reduceMul,Nat.reduceLT,Nat.reduceLeDiff,Nat.reduceBNe,Int.reduceBEq,Int.reduceBNe,Int.reduceLT,Int.reduceLE,Msg.a,Par.a,Nd.a]
 refine z0d (longInv (l.map Par.a) most (fun j=>sumN Par.bulk (l.drop j)) (decide ((sumN Par.bulk l:Int)≤most))) (k:=(l.map Par.a).length) ⟨0,0,by omega,rfl,rfl,rfl,rfl,rfl,by omega,?_⟩ ?_
 ·simp
 rintro k σ ⟨j,n,hj,rfl,t0,t1,t5,t6,hn2,hr⟩
 rw [List.length_map] at hj
 simp only [zlm]
 by_cases hlt:j < l.length
 ·have hlt':(j:Int) < (l.length:Int):=by omega
  by_cases hm:(n:Int)≤most
  ·obtain ⟨x,hx⟩:=z0i hlt
   have hgj:=z0o (f:=Par.a) hx
   simp only [Par.a] at hgj
   have hw:=z1j (j:=j) (by omega)
   obtain ⟨s1,s3⟩:=hs x (List.mem_of_getElem? hx)
   have w1:IntKind.i64.wrap (1 + (x.key.size:Int)) = 1 + (x.key.size:Int):=IntWalk.i64_in _ (by omega)
   have w3:IntKind.i64.wrap (1 + (x.key.size:Int) + (x.val.size:Int)) = 1 + (x.key.size:Int) + (x.val.size:Int):=IntWalk.i64_in _ (by omega)
   have w4:IntKind.i64.wrap ((n:Int) + (1 + (x.key.size:Int) + (x.val.size:Int))) = ((n + x.bulk:Nat):Int):=by
    rw [IntWalk.i64_in _ (by omega)]; unfold Par.bulk; omega
   simp only [sumN_at hx] at hr
   simp (maxSteps:=9^7) only [go_sem,↓reduceIte,reduceCtorEq,Nat.reduceEqDiff,Nat.reduceBEq,Nat.reduceAdd,Nat.reduceSub,Nat.reduceMul,Nat.reduceLT,Nat.reduceLeDiff,Nat.reduceBNe,Int.reduceBEq,Int.reduceBNe,Int.reduceLT,Int.reduceLE,Msg.a,Par.a,Nd.a,t0,t1,t5,t6,hlt',hm,hgj,List.length_map,Int.toNat_natCast,w1,w3,w4,hw]
   (repeat refine And.intro (by omega) ?_)
   refine ⟨l.length - (j + 1),by omega,j + 1,n + x.bulk,by rw [List.length_map]; omega,by rw [List.length_map],?_,?_,?_,?_,by unfold Par.bulk; omega,?_⟩
   iterate 4 focus ((simp (maxSteps:=9^7) only [go_sem,↓reduceIte,reduceCtorEq,Nat.reduceEqDiff,Nat.reduceBEq,Nat.reduceAdd,Nat.reduceSub,Nat.reduceMul,Nat.reduceLT,Nat.reduceLeDiff,Nat.reduceBNe,Int.reduceBEq,Int.reduceBNe,Int.reduceLT,Int.reduceLE,Msg.a,Par.a,Nd.a,t0,t1,t5,t6]) <;> rfl)
   ·rw [← hr,Nat.add_assoc]
  ·simp (maxSteps:=9^7) only [go_sem,↓reduceIte,reduceCtorEq,Nat.reduceEqDiff,Nat.reduceBEq,Nat.reduceAdd,Nat.reduceSub,Nat.reduceMul,Nat.reduceLT,Nat.reduceLeDiff,Nat.reduceBNe,Int.reduceBEq,Int.reduceBNe,Int.reduceLT,Int.reduceLE,Msg.a,Par.a,Nd.a,t0,t1,t5,t6,hlt',hm,List.length_map]
   have:¬ ((n + sumN Par.bulk (l.drop j):Nat):Int)≤most:=by omega
   simp only [decide_eq_false this] at hr
   exact of_decide_eq_false hr.symm
 ·have hlt':¬ (j:Int) < (l.length:Int):=by omega
  simp (maxSteps:=9^7) only [go_sem,↓reduceIte,reduceCtorEq,Nat.reduceEqDiff,Nat.reduceBEq,Nat.reduceAdd,Nat.reduceSub,Nat.reduceMul,Nat.reduceLT,Nat.reduceLeDiff,Nat.reduceBNe,Int.reduceBEq,Int.reduceBNe,Int.reduceLT,Int.reduceLE,Msg.a,Par.a,Nd.a,t0,t1,t5,t6,hlt',List.length_map]
  rw [← hr]
  show decide (((n + sumN Par.bulk (l.drop j):Nat):Int)≤most) = _
  rw [List.drop_eq_nil_of_le (by omega)]
  exact decide_eq_decide.2 Iff.rfl
theorem rFewN_ok (l:List Msg) (most:Int) (h1:0≤most) (h2:most≤1000000) (hs:∀ m,m ∈ l->m.key.size≤281474976710656∧m.hi.size≤281474976710656∧m.val.size≤281474976710656) (hl:l.length≤281474976710656) :
  AFn Tryz.prog 26 [.sl (l.map Msg.a),.int .i64 most] (.bool (decide ((sumN Msg.bulkN l:Int)≤most))):=by
 refine fn_rFewN rfl ?_
 simp (maxSteps:=9^7) only [go_sem,↓reduceIte,reduceCtorEq,Nat.reduceEqDiff,Nat.reduceBEq,Nat.reduceAdd,Nat.reduceSub,Nat.reduceMul,Nat.reduceLT,Nat.reduceLeDiff,Nat.reduceBNe,Int.reduceBEq,Int.reduceBNe,Int.reduceLT,Int.reduceLE,Msg.a,Par.a,Nd.a]
 refine z0d (longInv (l.map Msg.a) most (fun j=>sumN Msg.bulkN (l.drop j)) (decide ((sumN Msg.bulkN l:Int)≤most))) (k:=(l.map Msg.a).length) ⟨0,0,by omega,rfl,rfl,rfl,rfl,rfl,by omega,?_⟩ ?_
 ·simp
 rintro k σ ⟨j,n,hj,rfl,t0,t1,t5,t6,hn2,hr⟩
 rw [List.length_map] at hj
 simp only [ztr]
 by_cases hlt:j < l.length
 ·have hlt':(j:Int) < (l.length:Int):=by omega
  by_cases hm:(n:Int)≤most
  ·obtain ⟨x,hx⟩:=z0i hlt
   have hgj:=z0o (f:=Msg.a) hx
   simp only [Msg.a] at hgj
   have hw:=z1j (j:=j) (by omega)
   obtain ⟨s1,s2,s3⟩:=hs x (List.mem_of_getElem? hx)
   have w1:IntKind.i64.wrap (1 + (x.key.size:Int)) = 1 + (x.key.size:Int):=IntWalk.i64_in _ (by omega)
   have w2:IntKind.i64.wrap (1 + (x.key.size:Int) + (x.hi.size:Int)) = 1 + (x.key.size:Int) + (x.hi.size:Int):=IntWalk.i64_in _ (by omega)
   have w3:IntKind.i64.wrap (1 + (x.key.size:Int) + (x.hi.size:Int) + (x.val.size:Int)) = 1 + (x.key.size:Int) + (x.hi.size:Int) + (x.val.size:Int):=IntWalk.i64_in _ (by omega)
   have w4:IntKind.i64.wrap ((n:Int) + (1 + (x.key.size:Int) + (x.hi.size:Int) + (x.val.size:Int))) = ((n + x.bulkN:Nat):Int):=by
    rw [IntWalk.i64_in _ (by omega)]; unfold Msg.bulkN; omega
   simp only [sumN_at hx] at hr
   simp (maxSteps:=9^7) only [go_sem,↓reduceIte,reduceCtorEq,Nat.reduceEqDiff,Nat.reduceBEq,Nat.reduceAdd,Nat.reduceSub,Nat.reduceMul,Nat.reduceLT,Nat.reduceLeDiff,Nat.reduceBNe,Int.reduceBEq,Int.reduceBNe,Int.reduceLT,Int.reduceLE,Msg.a,Par.a,Nd.a,t0,t1,t5,t6,hlt',hm,hgj,List.length_map,Int.toNat_natCast,w1,w2,w3,w4,hw]
   (repeat refine And.intro (by omega) ?_)
   refine ⟨l.length - (j + 1),by omega,j + 1,n + x.bulkN,by rw [List.length_map]; omega,by rw [List.length_map],?_,?_,?_,?_,by unfold Msg.bulkN; omega,?_⟩
   iterate 4 focus ((simp (maxSteps:=9^7) only [go_sem,↓reduceIte,reduceCtorEq,Nat.reduceEqDiff,Nat.reduceBEq,Nat.reduceAdd,Nat.reduceSub,Nat.reduceMul,Nat.reduceLT,Nat.reduceLeDiff,Nat.reduceBNe,Int.reduceBEq,Int.reduceBNe,Int.reduceLT,Int.reduceLE,Msg.a,Par.a,Nd.a,t0,t1,t5,t6]) <;> rfl)
   ·rw [← hr,Nat.add_assoc]
  ·simp (maxSteps:=9^7) only [go_sem,↓reduceIte,reduceCtorEq,Nat.reduceEqDiff,Nat.reduceBEq,Nat.reduceAdd,Nat.reduceSub,Nat.reduceMul,Nat.reduceLT,Nat.reduceLeDiff,Nat.reduceBNe,Int.reduceBEq,Int.reduceBNe,Int.reduceLT,Int.reduceLE,Msg.a,Par.a,Nd.a,t0,t1,t5,t6,hlt',hm,List.length_map]
   have:¬ ((n + sumN Msg.bulkN (l.drop j):Nat):Int)≤most:=by omega
   simp only [decide_eq_false this] at hr
   exact of_decide_eq_false hr.symm
 ·have hlt':¬ (j:Int) < (l.length:Int):=by omega
  simp (maxSteps:=9^7) only [go_sem,↓reduceIte,reduceCtorEq,Nat.reduceEqDiff,Nat.reduceBEq,Nat.reduceAdd,Nat.reduceSub,Nat.reduceMul,Nat.reduceLT,Nat.reduceLeDiff,Nat.reduceBNe,Int.reduceBEq,Int.reduceBNe,Int.reduceLT,Int.reduceLE,Msg.a,Par.a,Nd.a,t0,t1,t5,t6,hlt',List.length_map]
  rw [← hr]
  show decide (((n + sumN Msg.bulkN (l.drop j):Nat):Int)≤most) = _
  rw [List.drop_eq_nil_of_le (by omega)]
  exact decide_eq_decide.2 Iff.rfl
/-- with an early end -/
def sGo (most:Int):Nat->List ByteArray->Nat
 | n,[]=>n
 | n,x :: l=>if (n:Int)≤most then sGo most (n + z1o x) l else n
theorem sGo_iff (most:Int):∀ (l:List ByteArray) (n:Nat),decide (most < (sGo most n l:Int)) = !decide (((n + sumN z1o l:Nat):Int)≤most)
 | [],n=>by
  show decide (most < (n:Int)) = !decide (((n + 0:Nat):Int)≤most)
  by_cases h:(n:Int)≤most
  ·rw [decide_eq_false (by omega),decide_eq_true (by omega)]; rfl
  ·rw [decide_eq_true (by omega),decide_eq_false (by omega)]; rfl
 | x :: l,n=>by
  rw [sGo]
  by_cases h:(n:Int)≤most
  ·rw [if_pos h,sGo_iff most l (n + z1o x),Nat.add_assoc]; rfl
  ·rw [if_neg h,decide_eq_true (by omega),decide_eq_false (by omega)]; rfl
def long1Inv (l:List ByteArray) (most:Int) (r:Nat) (k:Nat) (σ:St):Prop :=
 ∃ (j n:Nat),j≤l.length∧k = l.length - j∧σ.T 0 = .sl (l.map .str)∧σ.T 1 = .int .i64 most∧σ.T 5 = .int .i64 n∧σ.T 6 = .int .i64 j∧n≤900000000000000∧sGo most n (l.drop j) = r
theorem rLong1_ok (l:List ByteArray) (most:Int) (h1:0≤most) (h2:most≤1000000) (hs:∀ m,m ∈ l->m.size≤281474976710656) (hl:l.length≤281474976710656) :
  AFn Tryz.prog 25 [.sl (l.map .str),.int .i64 most] (.int .i64 (sGo most 0 l:Int)):=by
 refine fn_rLong1 rfl ?_
 simp (maxSteps:=9^7) only [go_sem,↓reduceIte,reduceCtorEq,Nat.reduceEqDiff,Nat.reduceBEq,Nat.reduceAdd,Nat.reduceSub,Nat.reduceMul,Nat.reduceLT,Nat.reduceLeDiff,Nat.reduceBNe,Int.reduceBEq,Int.reduceBNe,Int.reduceLT,Int.reduceLE,Msg.a,Par.a,Nd.a]
 refine z0d (long1Inv l most (sGo most 0 l)) (k:=l.length) ⟨0,0,by omega,rfl,rfl,rfl,rfl,rfl,by omega,?_⟩ ?_
 ·rfl
 rintro k σ ⟨j,n,hj,rfl,t0,t1,t5,t6,hn2,hr⟩
 simp only [zln]
 by_cases hlt:j < l.length
 ·have hlt':(j:Int) < (l.length:Int):=by omega
  obtain ⟨x,hx⟩:=z0i hlt
  rw [z0h hx,sGo] at hr
  by_cases hm:(n:Int)≤most
  ·have hgj:=z0o (f:=AV.str) hx
   have hw:=z1j (j:=j) (by omega)
   have s1:=hs x (List.mem_of_getElem? hx)
   have w1:IntKind.i64.wrap ((x.size:Int) + 1) = (x.size:Int) + 1:=IntWalk.i64_in _ (by omega)
   have w4:IntKind.i64.wrap ((n:Int) + ((x.size:Int) + 1)) = ((n + z1o x:Nat):Int):=by
    rw [IntWalk.i64_in _ (by omega)]; unfold z1o; omega
   rw [if_pos hm] at hr
   simp (maxSteps:=9^7) only [go_sem,↓reduceIte,reduceCtorEq,Nat.reduceEqDiff,Nat.reduceBEq,Nat.reduceAdd,Nat.reduceSub,Nat.reduceMul,Nat.reduceLT,Nat.reduceLeDiff,Nat.reduceBNe,Int.reduceBEq,Int.reduceBNe,Int.reduceLT,Int.reduceLE,Msg.a,Par.a,Nd.a,t0,t1,t5,t6,hlt',hm,hgj,List.length_map,Int.toNat_natCast,w1,w4,hw]
   (repeat refine And.intro (by omega) ?_)
   refine ⟨l.length - (j + 1),by omega,j + 1,n + z1o x,by omega,rfl,?_,?_,?_,?_,by unfold z1o; omega,hr⟩ <;> (simp (maxSteps:=9^7) only [go_sem,↓reduceIte,reduceCtorEq,Nat.reduceEqDiff,Nat.reduceBEq,Nat.reduceAdd,Nat.reduceSub,Nat.reduceMul,Nat.reduceLT,Nat.reduceLeDiff,Nat.reduceBNe,Int.reduceBEq,Int.reduceBNe,Int.reduceLT,Int.reduceLE,Msg.a,Par.a,Nd.a,t0,t1,t5,t6])
  ·rw [if_neg hm] at hr
   simp (maxSteps:=9^7) only [go_sem,↓reduceIte,reduceCtorEq,Nat.reduceEqDiff,Nat.reduceBEq,Nat.reduceAdd,Nat.reduceSub,Nat.reduceMul,Nat.reduceLT,Nat.reduceLeDiff,Nat.reduceBNe,Int.reduceBEq,Int.reduceBNe,Int.reduceLT,Int.reduceLE,Msg.a,Par.a,Nd.a,t0,t1,t5,t6,hlt',hm,List.length_map,← hr]
 ·have hlt':¬ (j:Int) < (l.length:Int):=by omega
  rw [List.drop_eq_nil_of_le (by omega),sGo] at hr
  simp (maxSteps:=9^7) only [go_sem,↓reduceIte,reduceCtorEq,Nat.reduceEqDiff,Nat.reduceBEq,Nat.reduceAdd,Nat.reduceSub,Nat.reduceMul,Nat.reduceLT,Nat.reduceLeDiff,Nat.reduceBNe,Int.reduceBEq,Int.reduceBNe,Int.reduceLT,Int.reduceLE,Msg.a,Par.a,Nd.a,t0,t1,t5,t6,hlt',List.length_map,← hr]
/-! ### Light -/
def Nd.light (most:Int) (x:Nd):Bool:=decide ((sumN Par.bulk x.rows:Int)≤most) && decide ((sumN z1o x.pivots:Int)≤most) && decide ((x.kids.length:Int)≤most) && decide ((sumN Msg.bulkN x.msgs:Int)≤most) && decide ((x.high.size:Int)≤most)
def zwy (l:List Nd) (n most:Int):Bool:=decide ((l.length:Int)≤n) && l.all (Nd.light most)
/-! ### percolate/percolateref17.Light -/
def y50:Reg:=⟨[],[⟨.mv (.c (.bool false)),some 6,none,[],[]⟩],[],[],false⟩
def zj2:List ROp:=[⟨.mv (.t 0),some 8,none,[],[]⟩,⟨.len false (.t 8),some 9,none,[],[]⟩,⟨.mv (.t 1),some 10,none,[],[]⟩,⟨.bin .gtr (.t 9) (.t 10),some 11,none,[],[]⟩]
def y4z:Reg:=⟨[],zj2,[],[],false⟩
def y4y:Reg:=⟨[],[⟨.mv (.c (.bool false)),some 6,none,[],[]⟩],[],[],false⟩
def y4x:Reg:=⟨[],[⟨.mv (.c (.int .i64 0)),some 7,none,[],[]⟩],[],[],false⟩
def zj1:List ROp:=[⟨.mv (.t 7),some 12,none,[],[]⟩,⟨.mv (.t 0),some 13,none,[],[]⟩,⟨.len false (.t 13),some 14,none,[],[]⟩,⟨.bin .lss (.t 12) (.t 14),some 15,none,[],[]⟩]
def y4w:Reg:=⟨[],zj1,[],[],false⟩
def zj0:List ROp:=[⟨.mv (.t 0),some 18,none,[24,33,54],[]⟩,⟨.mv (.t 7),some 19,none,[24,33,54],[]⟩,⟨.iaddr 10 (.t 18) (.t 19),some 20,none,[24,33,54],[]⟩,⟨.faddr 9 (.t 20),some 21,none,[24,33,54],[]⟩,⟨.load 1 false (.t 21),some 22,none,[24,33,54],[]⟩,⟨.mv (.t 2),some 23,none,[24,33,54],[]⟩,⟨.callv (.c (.clo 24 [] [])) [(.t 22),(.t 23)],some 24,none,[33,54],[]⟩,⟨.un .not (.t 24),some 25,none,[33,54],[]⟩,⟨.mv (.t 25),some 26,none,[33,54],[]⟩,⟨.mv (.t 0),some 27,(some (26,false)),[33,54],[]⟩,⟨.mv (.t 7),some 28,(some (26,false)),[33,54],[]⟩,⟨.iaddr 10 (.t 27) (.t 28),some 29,(some (26,false)),[33,54],[]⟩,⟨.faddr 2 (.t 29),some 30,(some (26,false)),[33,54],[]⟩,⟨.load 1 false (.t 30),some 31,(some (26,false)),[33,54],[]⟩,⟨.mv (.t 2),some 32,(some (26,false)),[33,54],[]⟩,⟨.callv (.c (.clo 25 [] [])) [(.t 31),(.t 32)],some 33,(some (26,false)),[54],[]⟩,⟨.mv (.t 2),some 34,(some (26,false)),[54],[]⟩,⟨.bin .gtr (.t 33) (.t 34),some 35,(some (26,false)),[54],[]⟩,⟨.pick (.t 26) (.c (.bool true)) (.t 35),some 36,none,[54],[]⟩,⟨.mv (.t 36),some 37,none,[54],[]⟩,⟨.mv (.t 0),some 38,(some (37,false)),[54],[]⟩,⟨.mv (.t 7),some 39,(some (37,false)),[54],[]⟩,⟨.iaddr 10 (.t 38) (.t 39),some 40,(some (37,false)),[54],[]⟩,⟨.faddr 3 (.t 40),some 41,(some (37,false)),[54],[]⟩,⟨.load 1 false (.t 41),some 42,(some (37,false)),[54],[]⟩,⟨.len false (.t 42),some 43,(some (37,false)),[54],[]⟩,⟨.mv (.t 2),some 44,(some (37,false)),[54],[]⟩,⟨.bin .gtr (.t 43) (.t 44),some 45,(some (37,false)),[54],[]⟩,⟨.pick (.t 37) (.c (.bool true)) (.t 45),some 46,none,[54],[]⟩,⟨.mv (.t 46),some 47,none,[54],[]⟩,⟨.mv (.t 0),some 48,(some (47,false)),[54],[]⟩,⟨.mv (.t 7),some 49,(some (47,false)),[54],[]⟩,⟨.iaddr 10 (.t 48) (.t 49),some 50,(some (47,false)),[54],[]⟩,⟨.faddr 8 (.t 50),some 51,(some (47,false)),[54],[]⟩,⟨.load 1 false (.t 51),some 52,(some (47,false)),[54],[]⟩,⟨.mv (.t 2),some 53,(some (47,false)),[54],[]⟩,⟨.callv (.c (.clo 26 [] [])) [(.t 52),(.t 53)],some 54,(some (47,false)),[],[]⟩,⟨.un .not (.t 54),some 55,(some (47,false)),[],[]⟩,⟨.pick (.t 47) (.c (.bool true)) (.t 55),some 56,none,[],[]⟩,⟨.mv (.t 56),some 57,none,[],[]⟩,⟨.mv (.t 0),some 58,(some (57,false)),[],[]⟩,⟨.mv (.t 7),some 59,(some (57,false)),[],[]⟩,⟨.iaddr 10 (.t 58) (.t 59),some 60,(some (57,false)),[],[]⟩,⟨.faddr 4 (.t 60),some 61,(some (57,false)),[],[]⟩,⟨.load 1 false (.t 61),some 62,(some (57,false)),[],[]⟩,⟨.len true (.t 62),some 63,(some (57,false)),[],[]⟩,⟨.mv (.t 2),some 64,(some (57,false)),[],[]⟩,⟨.bin .gtr (.t 63) (.t 64),some 65,(some (57,false)),[],[]⟩,⟨.pick (.t 57) (.c (.bool true)) (.t 65),some 66,none,[],[]⟩]
def y4v:Reg:=⟨[],zj0,[24,33,54],[],false⟩
def y4u:Reg:=⟨[],[⟨.mv (.c (.bool false)),some 6,none,[],[]⟩],[],[],false⟩
def ziz:List ROp:=[⟨.mv (.t 7),some 16,none,[],[]⟩,⟨.bin .add (.t 16) (.c (.int .i64 1)),some 17,none,[],[]⟩,⟨.mv (.t 17),some 7,none,[],[]⟩]
def y4t:Reg:=⟨[],ziz,[],[],false⟩
def zw2:IR:=(.seq (.seq (.reg y4w)
 (.cond (.t 15) .skip
 (.exit 0)))
 (.seq (.block 1 (.seq (.reg y4v)
 (.cond (.t 66) (.seq (.reg y4u)
 .ret)
 .skip)))
 (.reg y4t)))
def y4s:Reg:=⟨[],[⟨.mv (.c (.bool true)),some 6,none,[],[]⟩],[],[],false⟩
def yfy:IR:=(.seq (.reg y50)
 (.seq (.seq (.reg y4z)
 (.cond (.t 11) (.seq (.reg y4y)
 .ret)
 .skip))
 (.seq (.seq (.reg y4x)
 (.block 0 (.loop zw2)))
 (.seq (.reg y4s)
 .ret))))
def y0p:List RDesc:=[(.tmp 6)]
theorem e_light_0:EqR y50 [⟨.mv (.c (.bool false)),some 6,none,[],[]⟩] []:=fun _ _ _=>rfl
theorem e_light_1:EqR y4z zj2 []:=fun _ _ _=>rfl
theorem e_light_2:EqR y4y [⟨.mv (.c (.bool false)),some 6,none,[],[]⟩] []:=fun _ _ _=>rfl
theorem e_light_3:EqR y4x [⟨.mv (.c (.int .i64 0)),some 7,none,[],[]⟩] []:=fun _ _ _=>rfl
theorem e_light_4:EqR y4w zj1 []:=fun _ _ _=>rfl
theorem e_light_5:EqR y4v zj0 [24,33,54]:=fun _ _ _=>rfl
theorem e_light_6:EqR y4u [⟨.mv (.c (.bool false)),some 6,none,[],[]⟩] []:=fun _ _ _=>rfl
theorem e_light_7:EqR y4t ziz []:=fun _ _ _=>rfl
theorem e_light_9:EqR y4s [⟨.mv (.c (.bool true)),some 6,none,[],[]⟩] []:=fun _ _ _=>rfl
theorem fn_light {args:List AV} {r:AV} (ha:args.length.ble Tryz.f10.ntmps = true) (h:run (AFn Tryz.prog) yfy (endQ y0p r) (z0b args)):AFn Tryz.prog 10 args r :=
 AFn.of_code (pv:=false) (hint:=fun _=>[]) (c:=Tryz.f10.body.getD .skip) (by kernel_rfl) (by kernel_rfl) Tryz.func10 (by kernel_rfl) (by kernel_rfl) (by kernel_rfl) (of_decide_eq_true (by kernel_rfl)) (Nat.le_of_ble_eq_true ha) (Nat.le_of_ble_eq_true (by kernel_rfl)) (z0c h)
attribute [local go_sem ↓] yfy
attribute [local go_sem] y0p e_light_0 e_light_1 zj2 e_light_2 e_light_3 e_light_4 zj1 e_light_5 zj0 e_light_6 e_light_7 ziz e_light_9
def lightInv (l:List Nd) (n most:Int) (r:Bool) (k:Nat) (σ:St):Prop :=
 ∃ j:Nat,j≤l.length∧k = l.length - j∧σ.T 0 = .sl (l.map Nd.a)∧σ.T 2 = .int .i64 most∧σ.T 7 = .int .i64 j∧(l.drop j).all (Nd.light most) = r
theorem light_ok (l:List Nd) (n most:Int) (h1:0≤most) (h2:most≤1000000) (hs:∀ x,x ∈ l->x.ok) (hl:l.length≤281474976710656) :
  AFn Tryz.prog 10 [.sl (l.map Nd.a),.int .i64 n,.int .i64 most] (.bool (zwy l n most)):=by
 refine fn_light rfl ?_
 unfold zwy
 by_cases hn:(l.length:Int)≤n
 case neg =>
  have hn':n < (l.length:Int):=by omega
  rw [decide_eq_false hn]
  simp (maxSteps:=9^7) only [go_sem,↓reduceIte,reduceCtorEq,Nat.reduceEqDiff,Nat.reduceBEq,Nat.reduceAdd,Nat.reduceSub,Nat.reduceMul,Nat.reduceLT,Nat.reduceLeDiff,Nat.reduceBNe,Int.reduceBEq,Int.reduceBNe,Int.reduceLT,Int.reduceLE,Msg.a,Par.a,Nd.a,hn',List.length_map,Bool.false_and]
 have hn':¬ n < (l.length:Int):=by omega
 rw [decide_eq_true hn]
 obtain ⟨R,hR⟩:∃ R,l.all (Nd.light most) = R:=⟨_,rfl⟩
 rw [hR]
 simp (maxSteps:=9^7) only [go_sem,↓reduceIte,reduceCtorEq,Nat.reduceEqDiff,Nat.reduceBEq,Nat.reduceAdd,Nat.reduceSub,Nat.reduceMul,Nat.reduceLT,Nat.reduceLeDiff,Nat.reduceBNe,Int.reduceBEq,Int.reduceBNe,Int.reduceLT,Int.reduceLE,Msg.a,Par.a,Nd.a,hn',List.length_map,Bool.true_and]
 refine z0d (lightInv l n most R) (k:=l.length) ⟨0,by omega,rfl,rfl,rfl,rfl,hR⟩ ?_
 clear hR
 rintro k σ ⟨j,hj,rfl,t0,t2,t7,hr⟩
 simp only [zw2]
 by_cases hlt:j < l.length
 ·have hlt':(j:Int) < (l.length:Int):=by omega
  obtain ⟨x,hx⟩:=z0i hlt
  have hgj:=z0o (f:=Nd.a) hx
  simp only [Nd.a] at hgj
  have hw:=z1j (j:=j) (by omega)
  have ok:=hs x (List.mem_of_getElem? hx)
  have c1:=rLong9_ok x.rows most h1 h2 (fun m hm=>⟨(ok.rows.2 m hm).key,(ok.rows.2 m hm).val⟩) ok.rows.1
  have c2:=rLong1_ok x.pivots most h1 h2 ok.pivots.2 ok.pivots.1
  have c3:=rFewN_ok x.msgs most h1 h2 (fun m hm=>⟨(ok.msgs.2 m hm).key,(ok.msgs.2 m hm).hi,(ok.msgs.2 m hm).val⟩) ok.msgs.1
  have e2:=sGo_iff most x.pivots 0
  rw [z0h hx,List.all_cons] at hr
  unfold Nd.light at hr
  rw [Nat.zero_add] at e2
  have z0:IntKind.i64.wrap (j:Int) = (j:Int):=IntWalk.i64_in _ (by omega)
  cases q1:decide ((sumN Par.bulk x.rows:Int)≤most) with
  | false =>
   rw [q1] at c1 hr
   simp only [Bool.false_and] at hr
   (repeat (first | simp (maxSteps:=9^7) only [go_sem,↓reduceIte,reduceCtorEq,Nat.reduceEqDiff,Nat.reduceBEq,Nat.reduceAdd,Nat.reduceSub,Nat.reduceMul,Nat.reduceLT,Nat.reduceLeDiff,Nat.reduceBNe,Int.reduceBEq,Int.reduceBNe,Int.reduceLT,Int.reduceLE,Msg.a,Par.a,Nd.a,t0,t2,t7,hlt',hgj,List.length_map,Int.toNat_natCast,← hr] | refine z01 (c1) ?_ | refine z00 (c1) ?_ | refine And.intro (by omega) ?_ | refine And.intro (fun d hd=>by (repeat (rcases hd with rfl | hd; · exact ⟨rfl,rfl⟩)); cases hd) ?_))
  | true =>
   rw [q1] at c1 hr
   cases q2:decide ((sumN z1o x.pivots:Int)≤most) with
   | false =>
    rw [q2] at e2 hr
    have e3:=of_decide_eq_true e2
    simp only [Bool.false_and,Bool.and_false] at hr
    (repeat (first | simp (maxSteps:=9^7) only [go_sem,↓reduceIte,reduceCtorEq,Nat.reduceEqDiff,Nat.reduceBEq,Nat.reduceAdd,Nat.reduceSub,Nat.reduceMul,Nat.reduceLT,Nat.reduceLeDiff,Nat.reduceBNe,Int.reduceBEq,Int.reduceBNe,Int.reduceLT,Int.reduceLE,Msg.a,Par.a,Nd.a,t0,t2,t7,hlt',hgj,List.length_map,Int.toNat_natCast,e3,← hr] | refine z01 (c1) ?_ | refine z00 (c1) ?_ | refine z01 (c2) ?_ | refine z00 (c2) ?_ | refine And.intro (by omega) ?_ | refine And.intro (fun d hd=>by (repeat (rcases hd with rfl | hd; · exact ⟨rfl,rfl⟩)); cases hd) ?_))
   | true =>
    rw [q2] at e2 hr
    have e3:=of_decide_eq_false e2
    by_cases q3:(x.kids.length:Int)≤most
    case neg =>
     rw [decide_eq_false q3] at hr
     have q3':most < (x.kids.length:Int):=by omega
     simp only [Bool.false_and,Bool.and_false] at hr
     (repeat (first | simp (maxSteps:=9^7) only [go_sem,↓reduceIte,reduceCtorEq,Nat.reduceEqDiff,Nat.reduceBEq,Nat.reduceAdd,Nat.reduceSub,Nat.reduceMul,Nat.reduceLT,Nat.reduceLeDiff,Nat.reduceBNe,Int.reduceBEq,Int.reduceBNe,Int.reduceLT,Int.reduceLE,Msg.a,Par.a,Nd.a,t0,t2,t7,hlt',hgj,List.length_map,Int.toNat_natCast,e3,q3',← hr] | refine z01 (c1) ?_ | refine z00 (c1) ?_ | refine z01 (c2) ?_ | refine z00 (c2) ?_ | refine And.intro (by omega) ?_ | refine And.intro (fun d hd=>by (repeat (rcases hd with rfl | hd; · exact ⟨rfl,rfl⟩)); cases hd) ?_))
     all_goals omega
    rw [decide_eq_true q3] at hr
    have q3':¬ most < (x.kids.length:Int):=by omega
    cases q4:decide ((sumN Msg.bulkN x.msgs:Int)≤most) with
    | false =>
     rw [q4] at c3 hr
     simp only [Bool.false_and,Bool.and_false] at hr
     (repeat (first | simp (maxSteps:=9^7) only [go_sem,↓reduceIte,reduceCtorEq,Nat.reduceEqDiff,Nat.reduceBEq,Nat.reduceAdd,Nat.reduceSub,Nat.reduceMul,Nat.reduceLT,Nat.reduceLeDiff,Nat.reduceBNe,Int.reduceBEq,Int.reduceBNe,Int.reduceLT,Int.reduceLE,Msg.a,Par.a,Nd.a,t0,t2,t7,hlt',hgj,List.length_map,Int.toNat_natCast,e3,q3',← hr] | refine z01 (c1) ?_ | refine z00 (c1) ?_ | refine z01 (c2) ?_ | refine z00 (c2) ?_ | refine z01 (c3) ?_ | refine z00 (c3) ?_ | refine And.intro (by omega) ?_ | refine And.intro (fun d hd=>by (repeat (rcases hd with rfl | hd; · exact ⟨rfl,rfl⟩)); cases hd) ?_))
    | true =>
     rw [q4] at c3 hr
     by_cases q5:(x.high.size:Int)≤most
     case neg =>
      rw [decide_eq_false q5] at hr
      have q5':most < (x.high.size:Int):=by omega
      simp only [Bool.false_and,Bool.and_false] at hr
      (repeat (first | simp (maxSteps:=9^7) only [go_sem,↓reduceIte,reduceCtorEq,Nat.reduceEqDiff,Nat.reduceBEq,Nat.reduceAdd,Nat.reduceSub,Nat.reduceMul,Nat.reduceLT,Nat.reduceLeDiff,Nat.reduceBNe,Int.reduceBEq,Int.reduceBNe,Int.reduceLT,Int.reduceLE,Msg.a,Par.a,Nd.a,t0,t2,t7,hlt',hgj,List.length_map,Int.toNat_natCast,e3,q3',q5',← hr] | refine z01 (c1) ?_ | refine z00 (c1) ?_ | refine z01 (c2) ?_ | refine z00 (c2) ?_ | refine z01 (c3) ?_ | refine z00 (c3) ?_ | refine And.intro (by omega) ?_ | refine And.intro (fun d hd=>by (repeat (rcases hd with rfl | hd; · exact ⟨rfl,rfl⟩)); cases hd) ?_))
      all_goals omega
     rw [decide_eq_true q5] at hr
     have q5':¬ most < (x.high.size:Int):=by omega
     simp only [Bool.true_and,Bool.and_true] at hr
     (repeat (first | simp (maxSteps:=9^7) only [go_sem,↓reduceIte,reduceCtorEq,Nat.reduceEqDiff,Nat.reduceBEq,Nat.reduceAdd,Nat.reduceSub,Nat.reduceMul,Nat.reduceLT,Nat.reduceLeDiff,Nat.reduceBNe,Int.reduceBEq,Int.reduceBNe,Int.reduceLT,Int.reduceLE,Msg.a,Par.a,Nd.a,t0,t2,t7,hlt',hgj,List.length_map,Int.toNat_natCast,e3,q3',q5',hw] | refine z01 (c1) ?_ | refine z00 (c1) ?_ | refine z01 (c2) ?_ | refine z00 (c2) ?_ | refine z01 (c3) ?_ | refine z00 (c3) ?_ | refine And.intro (by omega) ?_ | refine And.intro (fun d hd=>by (repeat (rcases hd with rfl | hd; · exact ⟨rfl,rfl⟩)); cases hd) ?_))
     refine ⟨l.length - (j + 1),by omega,j + 1,by omega,rfl,?_,?_,?_,hr⟩ <;> (simp (maxSteps:=9^7) only [go_sem,↓reduceIte,reduceCtorEq,Nat.reduceEqDiff,Nat.reduceBEq,Nat.reduceAdd,Nat.reduceSub,Nat.reduceMul,Nat.reduceLT,Nat.reduceLeDiff,Nat.reduceBNe,Int.reduceBEq,Int.reduceBNe,Int.reduceLT,Int.reduceLE,Msg.a,Par.a,Nd.a,t0,t2,t7,hw])
 ·have hlt':¬ (j:Int) < (l.length:Int):=by omega
  rw [List.drop_eq_nil_of_le (by omega)] at hr
  simp (maxSteps:=9^7) only [go_sem,↓reduceIte,reduceCtorEq,Nat.reduceEqDiff,Nat.reduceBEq,Nat.reduceAdd,Nat.reduceSub,Nat.reduceMul,Nat.reduceLT,Nat.reduceLeDiff,Nat.reduceBNe,Int.reduceBEq,Int.reduceBNe,Int.reduceLT,Int.reduceLE,Msg.a,Par.a,Nd.a,t0,t2,t7,hlt',List.length_map,← hr,List.all_nil]
end
section
/-
 The chapter's examples of traces,and the law TraceNodes.
-/
open Go.RowKit
set_option linter.unusedVariables false
set_option linter.unusedSimpArgs false
set_option maxRecDepth 100000
attribute [local go_sem ↓] z11 z0l
/-! ### percolate/trace.Parse -/
def zax:List ROp:=[⟨.alloc 15 44 (.agg [(.int .i64 0),(.int .i64 0),(.str ⟨#[]⟩),(.str ⟨#[]⟩),(.bool false),(.str ⟨#[]⟩),(.int .i64 0),(.int .i64 0),(.bool false),(.str ⟨#[]⟩),(.sl []),(.int .i64 0),(.int .i64 0),(.int .i64 0),(.bool false)]),some 2,none,[],[]⟩,⟨.mv (.c (.bool false)),some 3,none,[],[]⟩]
def zr6:Reg:=⟨[],zax,[2],[],false⟩
def zaw:List ROp:=[⟨.mv (.t 0),some 7,none,[8],[]⟩,⟨.callv (.c (.clo 32 [] [])) [(.t 7),(.c (.str ⟨#[32,58,32]⟩))],some 8,none,[],[]⟩,⟨.mv (.t 8),some 4,none,[],[]⟩]
def zr5:Reg:=⟨[],zaw,[8],[],false⟩
def zav:List ROp:=[⟨.mv (.t 4),some 9,none,[],[]⟩,⟨.len false (.t 9),some 10,none,[],[]⟩,⟨.bin .neq (.t 10) (.c (.int .i64 3)),some 11,none,[],[]⟩]
def zr4:Reg:=⟨[],zav,[],[],false⟩
def zau:List ROp:=[⟨.bld [(.int .i64 0),(.int .i64 0),(.str ⟨#[]⟩),(.str ⟨#[]⟩),(.bool false),(.str ⟨#[]⟩),(.int .i64 0),(.int .i64 0),(.bool false),(.str ⟨#[]⟩),(.sl []),(.int .i64 0),(.int .i64 0),(.int .i64 0),(.bool false)] [],some 12,none,[],[]⟩,⟨.store 15 (.t 2) (.t 12),none,none,[],[]⟩,⟨.mv (.c (.bool false)),some 3,none,[],[]⟩]
def zr3:Reg:=⟨[],zau,[],[],false⟩
def zat:List ROp:=[⟨.mv (.t 4),some 13,none,[16,17],[]⟩,⟨.iaddr 1 (.t 13) (.c (.int .i64 0)),some 14,none,[16,17],[]⟩,⟨.load 1 false (.t 14),some 15,none,[16,17],[]⟩,⟨.callv (.c (.clo 33 [] [])) [(.t 15)],some 16,none,[17],[]⟩,⟨.bsl 1 9 [(.c (.str ⟨#[]⟩)),(.c (.str ⟨#[]⟩)),(.c (.str ⟨#[]⟩)),(.c (.str ⟨#[]⟩)),(.c (.str ⟨#[]⟩))],some 17,none,[],[]⟩,⟨.append 1 9 16 (.t 16) (.t 17),some 18,none,[],[]⟩,⟨.mv (.t 18),some 5,none,[],[]⟩]
def zr2:Reg:=⟨[],zat,[16,17],[],false⟩
def zas:List ROp:=[⟨.alloc 15 44 (.agg [(.int .i64 0),(.int .i64 0),(.str ⟨#[]⟩),(.str ⟨#[]⟩),(.bool false),(.str ⟨#[]⟩),(.int .i64 0),(.int .i64 0),(.bool false),(.str ⟨#[]⟩),(.sl []),(.int .i64 0),(.int .i64 0),(.int .i64 0),(.bool false)]),some 6,none,[],[]⟩]
def zr1:Reg:=⟨[],zas,[6],[],false⟩
def zar:List ROp:=[⟨.mv (.t 5),some 20,none,[23],[]⟩,⟨.iaddr 1 (.t 20) (.c (.int .i64 0)),some 21,none,[23],[]⟩,⟨.load 1 false (.t 21),some 22,none,[23],[]⟩,⟨.callv (.c (.clo 34 [] [])) [(.t 22)],some 23,none,[],[]⟩,⟨.mv (.t 23),some 19,none,[],[]⟩,⟨.ext 0 (.t 19),some 24,none,[],[]⟩,⟨.ext 1 (.t 19),some 25,none,[],[]⟩,⟨.faddr 0 (.t 6),some 26,none,[],[]⟩,⟨.store 1 (.t 26) (.t 24),none,none,[],[]⟩]
def zr0:Reg:=⟨[],zar,[23],[],false⟩
def zaq:List ROp:=[⟨.mv (.t 5),some 28,none,[31],[]⟩,⟨.iaddr 1 (.t 28) (.c (.int .i64 1)),some 29,none,[31],[]⟩,⟨.load 1 false (.t 29),some 30,none,[31],[]⟩,⟨.callv (.c (.clo 34 [] [])) [(.t 30)],some 31,none,[],[]⟩,⟨.mv (.t 31),some 27,none,[],[]⟩,⟨.ext 0 (.t 27),some 32,none,[],[]⟩,⟨.ext 1 (.t 27),some 33,none,[],[]⟩,⟨.faddr 11 (.t 6),some 34,none,[],[]⟩,⟨.store 1 (.t 34) (.t 32),none,none,[],[]⟩]
def zqz:Reg:=⟨[],zaq,[31],[],false⟩
def zap:List ROp:=[⟨.mv (.t 5),some 36,none,[39],[]⟩,⟨.iaddr 1 (.t 36) (.c (.int .i64 2)),some 37,none,[39],[]⟩,⟨.load 1 false (.t 37),some 38,none,[39],[]⟩,⟨.callv (.c (.clo 34 [] [])) [(.t 38)],some 39,none,[],[]⟩,⟨.mv (.t 39),some 35,none,[],[]⟩,⟨.ext 0 (.t 35),some 40,none,[],[]⟩,⟨.ext 1 (.t 35),some 41,none,[],[]⟩,⟨.faddr 12 (.t 6),some 42,none,[],[]⟩,⟨.store 1 (.t 42) (.t 40),none,none,[],[]⟩]
def zqy:Reg:=⟨[],zap,[39],[],false⟩
def zao:List ROp:=[⟨.mv (.t 5),some 44,none,[47],[]⟩,⟨.iaddr 1 (.t 44) (.c (.int .i64 3)),some 45,none,[47],[]⟩,⟨.load 1 false (.t 45),some 46,none,[47],[]⟩,⟨.callv (.c (.clo 34 [] [])) [(.t 46)],some 47,none,[],[]⟩,⟨.mv (.t 47),some 43,none,[],[]⟩,⟨.ext 0 (.t 43),some 48,none,[],[]⟩,⟨.ext 1 (.t 43),some 49,none,[],[]⟩,⟨.faddr 13 (.t 6),some 50,none,[],[]⟩,⟨.store 1 (.t 50) (.t 48),none,none,[],[]⟩]
def zqx:Reg:=⟨[],zao,[47],[],false⟩
def z7j:List ROp:=[⟨.mv (.t 5),some 51,none,[],[]⟩,⟨.iaddr 1 (.t 51) (.c (.int .i64 4)),some 52,none,[],[]⟩,⟨.load 1 false (.t 52),some 53,none,[],[]⟩,⟨.bin .eql (.t 53) (.c (.str ⟨#[121,101,115]⟩)),some 54,none,[],[]⟩,⟨.faddr 14 (.t 6),some 55,none,[],[]⟩,⟨.store 1 (.t 55) (.t 54),none,none,[],[]⟩]
def zkj:Reg:=⟨[],z7j,[],[],false⟩
def z7i:List ROp:=[⟨.mv (.t 4),some 57,none,[60],[]⟩,⟨.iaddr 1 (.t 57) (.c (.int .i64 1)),some 58,none,[60],[]⟩,⟨.load 1 false (.t 58),some 59,none,[60],[]⟩,⟨.callv (.c (.clo 35 [] [])) [(.t 59)],some 60,none,[],[]⟩,⟨.mv (.t 60),some 56,none,[],[]⟩,⟨.ext 0 (.t 56),some 61,none,[],[]⟩,⟨.ext 1 (.t 56),some 62,none,[],[]⟩,⟨.faddr 1 (.t 6),some 63,none,[],[]⟩,⟨.store 6 (.t 63) (.t 61),none,none,[],[]⟩]
def zki:Reg:=⟨[],z7i,[60],[],false⟩
def zkh:Reg:=⟨[],[⟨.faddr 14 (.t 6),some 64,none,[],[]⟩,⟨.load 1 false (.t 64),some 65,none,[],[]⟩],[],[],false⟩
def z7h:List ROp:=[⟨.mv (.t 4),some 66,none,[69],[]⟩,⟨.iaddr 1 (.t 66) (.c (.int .i64 2)),some 67,none,[69],[]⟩,⟨.load 1 false (.t 67),some 68,none,[69],[]⟩,⟨.callv (.c (.clo 36 [] [])) [(.t 68)],some 69,none,[],[]⟩,⟨.faddr 7 (.t 6),some 70,none,[],[]⟩,⟨.store 4 (.t 70) (.t 69),none,none,[],[]⟩]
def zkg:Reg:=⟨[],z7h,[69],[],false⟩
def z7g:List ROp:=[⟨.load 15 true (.t 6),some 71,none,[72,79,86],[]⟩,⟨.callv (.c (.clo 13 [] [])) [(.t 71)],some 72,none,[79,86],[]⟩,⟨.mv (.t 0),some 73,none,[79,86],[]⟩,⟨.bin .neq (.t 72) (.t 73),some 74,none,[79,86],[]⟩,⟨.mv (.t 74),some 75,none,[79,86],[]⟩,⟨.faddr 7 (.t 6),some 76,(some (75,false)),[79,86],[]⟩,⟨.faddr 3 (.t 76),some 77,(some (75,false)),[79,86],[]⟩,⟨.load 1 false (.t 77),some 78,(some (75,false)),[79,86],[]⟩,⟨.callv (.c (.clo 37 [] [])) [(.t 78)],some 79,(some (75,false)),[86],[]⟩,⟨.un .not (.t 79),some 80,(some (75,false)),[86],[]⟩,⟨.pick (.t 75) (.c (.bool true)) (.t 80),some 81,none,[86],[]⟩,⟨.mv (.t 81),some 82,none,[86],[]⟩,⟨.faddr 7 (.t 6),some 83,(some (82,false)),[86],[]⟩,⟨.faddr 2 (.t 83),some 84,(some (82,false)),[86],[]⟩,⟨.load 1 false (.t 84),some 85,(some (82,false)),[86],[]⟩,⟨.callv (.c (.clo 38 [] [])) [(.t 85)],some 86,(some (82,false)),[],[]⟩,⟨.un .not (.t 86),some 87,(some (82,false)),[],[]⟩,⟨.pick (.t 82) (.c (.bool true)) (.t 87),some 88,none,[],[]⟩]
def zkf:Reg:=⟨[],z7g,[72,79,86],[],false⟩
def z7f:List ROp:=[⟨.bld [(.int .i64 0),(.int .i64 0),(.str ⟨#[]⟩),(.str ⟨#[]⟩),(.bool false),(.str ⟨#[]⟩),(.int .i64 0),(.int .i64 0),(.bool false),(.str ⟨#[]⟩),(.sl []),(.int .i64 0),(.int .i64 0),(.int .i64 0),(.bool false)] [],some 89,none,[],[]⟩,⟨.store 15 (.t 2) (.t 89),none,none,[],[]⟩,⟨.mv (.c (.bool false)),some 3,none,[],[]⟩]
def zke:Reg:=⟨[],z7f,[],[],false⟩
def z7e:List ROp:=[⟨.load 15 true (.t 6),some 90,none,[],[]⟩,⟨.store 15 (.t 2) (.t 90),none,none,[],[]⟩,⟨.mv (.c (.bool true)),some 3,none,[],[]⟩]
def zkd:Reg:=⟨[],z7e,[],[],false⟩
def y6l:IR:=(.seq (.reg zr6)
 (.seq (.reg zr5)
 (.seq (.seq (.reg zr4)
 (.cond (.t 11) (.seq (.reg zr3)
 .ret)
 .skip))
 (.seq (.reg zr2)
 (.seq (.reg zr1)
 (.seq (.reg zr0)
 (.seq (.reg zqz)
 (.seq (.reg zqy)
 (.seq (.reg zqx)
 (.seq (.reg zkj)
 (.seq (.reg zki)
 (.seq (.seq (.reg zkh)
 (.cond (.t 65) (.reg zkg)
 .skip))
 (.seq (.seq (.reg zkf)
 (.cond (.t 88) (.seq (.reg zke)
 .ret)
 .skip))
 (.seq (.reg zkd)
 .ret))))))))))))))
def zpy:List RDesc:=[(.cell 2 15 true),(.tmp 3)]
theorem e_tParse_0:EqR zr6 zax [2]:=fun _ _ _=>rfl
theorem e_tParse_1:EqR zr5 zaw [8]:=fun _ _ _=>rfl
theorem e_tParse_2:EqR zr4 zav []:=fun _ _ _=>rfl
theorem e_tParse_3:EqR zr3 zau []:=fun _ _ _=>rfl
theorem e_tParse_4:EqR zr2 zat [16,17]:=fun _ _ _=>rfl
theorem e_tParse_5:EqR zr1 zas [6]:=fun _ _ _=>rfl
theorem e_tParse_6:EqR zr0 zar [23]:=fun _ _ _=>rfl
theorem e_tParse_7:EqR zqz zaq [31]:=fun _ _ _=>rfl
theorem e_tParse_8:EqR zqy zap [39]:=fun _ _ _=>rfl
theorem e_tParse_9:EqR zqx zao [47]:=fun _ _ _=>rfl
theorem ya7:EqR zkj z7j []:=fun _ _ _=>rfl
theorem ya6:EqR zki z7i [60]:=fun _ _ _=>rfl
theorem ya5:EqR zkh [⟨.faddr 14 (.t 6),some 64,none,[],[]⟩,⟨.load 1 false (.t 64),some 65,none,[],[]⟩] []:=fun _ _ _=>rfl
theorem ya4:EqR zkg z7h [69]:=fun _ _ _=>rfl
theorem ya3:EqR zkf z7g [72,79,86]:=fun _ _ _=>rfl
theorem ya2:EqR zke z7f []:=fun _ _ _=>rfl
theorem ya1:EqR zkd z7e []:=fun _ _ _=>rfl
theorem fn_tParse {args:List AV} {r:AV} (ha:args.length.ble Tryz.f12.ntmps = true) (h:run (AFn Tryz.prog) y6l (endQ zpy r) (z0b args)):AFn Tryz.prog 12 args r :=
 AFn.of_code (pv:=false) (hint:=fun _=>[]) (c:=Tryz.f12.body.getD .skip) (by kernel_rfl) (by kernel_rfl) Tryz.func12 (by kernel_rfl) (by kernel_rfl) (by kernel_rfl) (of_decide_eq_true (by kernel_rfl)) (Nat.le_of_ble_eq_true ha) (Nat.le_of_ble_eq_true (by kernel_rfl)) (z0c h)
/-! ### percolate/percolatelaw46.awake -/
def yf4:Reg:=⟨[],[⟨.mv (.c (.bool false)),some 0,none,[],[]⟩],[],[],false⟩
def zyy:List ROp:=[⟨.bld [(.int .i64 0),(.str ⟨#[]⟩),(.str ⟨#[]⟩),(.bool false),(.str ⟨#[]⟩),(.int .i64 0)] [⟨0,1,(.c (.int .i64 1))⟩,⟨1,1,(.c (.str ⟨#[97]⟩))⟩,⟨4,1,(.c (.str ⟨#[49]⟩))⟩],some 4,none,[1],[]⟩,⟨.bld [(.int .i64 0),(.int .i64 0),(.str ⟨#[]⟩),(.str ⟨#[]⟩),(.bool false),(.str ⟨#[]⟩),(.int .i64 0),(.int .i64 0),(.bool false),(.str ⟨#[]⟩),(.sl []),(.int .i64 0),(.int .i64 0),(.int .i64 0),(.bool false)] [⟨1,6,(.t 4)⟩,⟨11,1,(.c (.int .i64 1))⟩,⟨12,1,(.c (.int .i64 3))⟩,⟨13,1,(.c (.int .i64 3))⟩,⟨14,1,(.c (.bool true))⟩],some 5,none,[1],[]⟩,⟨.alloc 15 44 (.agg [(.int .i64 0),(.int .i64 0),(.str ⟨#[]⟩),(.str ⟨#[]⟩),(.bool false),(.str ⟨#[]⟩),(.int .i64 0),(.int .i64 0),(.bool false),(.str ⟨#[]⟩),(.sl []),(.int .i64 0),(.int .i64 0),(.int .i64 0),(.bool false)]),some 1,none,[],[]⟩,⟨.store 15 (.t 1) (.t 5),none,none,[],[]⟩]
def yf3:Reg:=⟨[],zyy,[1],[],false⟩
def zyx:List ROp:=[⟨.callv (.c (.clo 12 [] [])) [(.c (.str ⟨#[48,32,49,32,51,32,51,32,121,101,115,32,58,32,112,117,116,32,97,32,49,32,58,32,111,107]⟩))],some 7,none,[2],[]⟩,⟨.mv (.t 7),some 6,none,[2],[]⟩,⟨.ext 0 (.t 6),some 8,none,[2],[]⟩,⟨.ext 1 (.t 6),some 9,none,[2],[]⟩,⟨.alloc 15 44 (.agg [(.int .i64 0),(.int .i64 0),(.str ⟨#[]⟩),(.str ⟨#[]⟩),(.bool false),(.str ⟨#[]⟩),(.int .i64 0),(.int .i64 0),(.bool false),(.str ⟨#[]⟩),(.sl []),(.int .i64 0),(.int .i64 0),(.int .i64 0),(.bool false)]),some 2,none,[],[]⟩,⟨.store 15 (.t 2) (.t 8),none,none,[],[]⟩,⟨.mv (.t 9),some 3,none,[],[]⟩]
def yf2:Reg:=⟨[],zyx,[7,2],[],false⟩
def zyw:List ROp:=[⟨.load 15 true (.t 1),some 10,none,[11,19,23,25],[]⟩,⟨.callv (.c (.clo 13 [] [])) [(.t 10)],some 11,none,[19,23,25],[]⟩,⟨.bin .eql (.t 11) (.c (.str ⟨#[48,32,49,32,51,32,51,32,121,101,115,32,58,32,112,117,116,32,97,32,49,32,58,32,111,107]⟩)),some 12,none,[19,23,25],[]⟩,⟨.mv (.t 12),some 13,none,[19,23,25],[]⟩,⟨.mv (.t 3),some 14,(some (13,true)),[19,23,25],[]⟩,⟨.pick (.t 13) (.t 14) (.c (.bool false)),some 15,none,[19,23,25],[]⟩,⟨.mv (.t 15),some 16,none,[19,23,25],[]⟩,⟨.load 15 true (.t 2),some 17,(some (16,true)),[19,23,25],[]⟩,⟨.load 15 true (.t 1),some 18,(some (16,true)),[19,23,25],[]⟩,⟨.callv (.c (.clo 14 [] [])) [(.t 17),(.t 18)],some 19,(some (16,true)),[23,25],[]⟩,⟨.pick (.t 16) (.t 19) (.c (.bool false)),some 20,none,[23,25],[]⟩,⟨.mv (.t 20),some 21,none,[23,25],[]⟩,⟨.bld [(.str ⟨#[]⟩),(.str ⟨#[]⟩)] [⟨0,1,(.c (.str ⟨#[97]⟩))⟩,⟨1,1,(.c (.str ⟨#[49]⟩))⟩],some 22,(some (21,true)),[23,25],[]⟩,⟨.bsl 2 50 [(.t 22)],some 23,(some (21,true)),[25],[]⟩,⟨.bld [(.int .i64 0),(.int .i64 0),(.sl []),(.sl []),(.str ⟨#[]⟩),(.bool false),(.int .i64 0),(.int .i64 0),(.sl []),(.sl [])] [⟨0,1,(.c (.int .i64 1))⟩,⟨4,1,(.c (.str ⟨#[109]⟩))⟩,⟨6,1,(.c (.int .i64 2))⟩,⟨7,1,(.c (.int .i64 2))⟩,⟨9,1,(.t 23)⟩],some 24,(some (21,true)),[25],[]⟩,⟨.callv (.c (.clo 6 [] [])) [(.t 24)],some 25,(some (21,true)),[],[]⟩,⟨.bin .eql (.t 25) (.c (.str ⟨#[110,111,100,101,32,49,32,48,32,50,32,50,32,109,32,58,32,114,111,119,115,32,49,32,97,61,49,32,58,32,109,115,103,115,32,48]⟩)),some 26,(some (21,true)),[],[]⟩,⟨.pick (.t 21) (.t 26) (.c (.bool false)),some 27,none,[],[]⟩,⟨.mv (.t 27),some 0,none,[],[]⟩]
def yf1:Reg:=⟨[],zyw,[11,19,23,25],[],false⟩
def ir_aw46:IR:=(.seq (.reg yf4)
 (.seq (.reg yf3)
 (.seq (.reg yf2)
 (.seq (.reg yf1)
 .ret))))
def yd1:List RDesc:=[(.tmp 0)]
theorem e_aw46_0:EqR yf4 [⟨.mv (.c (.bool false)),some 0,none,[],[]⟩] []:=fun _ _ _=>rfl
theorem e_aw46_1:EqR yf3 zyy [1]:=fun _ _ _=>rfl
theorem e_aw46_2:EqR yf2 zyx [7,2]:=fun _ _ _=>rfl
theorem e_aw46_3:EqR yf1 zyw [11,19,23,25]:=fun _ _ _=>rfl
theorem fn_aw46 {args:List AV} {r:AV} (ha:args.length.ble Tryz.f5.ntmps = true) (h:run (AFn Tryz.prog) ir_aw46 (endQ yd1 r) (z0b args)):AFn Tryz.prog 5 args r :=
 AFn.of_code (pv:=false) (hint:=fun _=>[]) (c:=Tryz.f5.body.getD .skip) (by kernel_rfl) (by kernel_rfl) Tryz.func5 (by kernel_rfl) (by kernel_rfl) (by kernel_rfl) (of_decide_eq_true (by kernel_rfl)) (Nat.le_of_ble_eq_true ha) (Nat.le_of_ble_eq_true (by kernel_rfl)) (z0c h)
attribute [local go_sem ↓] y6l
attribute [local go_sem] zpy e_tParse_0 zax e_tParse_1 zaw e_tParse_2 zav e_tParse_3 zau e_tParse_4 zat e_tParse_5 zas e_tParse_6 zar e_tParse_7 zaq e_tParse_8 zap e_tParse_9 zao ya7 z7j ya6 z7i ya5 ya4 z7h ya3 z7g ya2 z7f ya1 z7e
attribute [local go_sem ↓] ir_aw46
attribute [local go_sem] yd1 e_aw46_0 e_aw46_1 zyy e_aw46_2 zyx e_aw46_3 zyw
theorem und_d (d:Fin 4):udF (decS (d.val:Int)) = .tup [.int .i64 (d.val:Int),.bool true]:=by
 have:=zxn (d.val:Int) ⟨by omega,by omega⟩
 rw [if_pos ⟨by omega,by omega⟩] at this
 exact this
set_option maxHeartbeats 2000000 in
theorem tParse_a:AFn Tryz.prog 12 [.str (⟨#[48,32,49,32,51,32,51,32,121,101,115,32,58,32,112,117,116,32,97,32,49,32,58,32,111,107]⟩:ByteArray)] (.tup [evtA,.bool true]):=by
 refine fn_tParse rfl ?_
 have hs:z3d (⟨#[48,32,49,32,51,32,51,32,121,101,115,32,58,32,112,117,116,32,97,32,49,32,58,32,111,107]⟩:ByteArray) (⟨#[32,58,32]⟩:ByteArray) = [(⟨#[48,32,49,32,51,32,51,32,121,101,115]⟩:ByteArray),(⟨#[112,117,116,32,97,32,49]⟩:ByteArray),(⟨#[111,107]⟩:ByteArray)]:=spl_eq (by decide +kernel)
 have cs:=zyz (⟨#[48,32,49,32,51,32,51,32,121,101,115,32,58,32,112,117,116,32,97,32,49,32,58,32,111,107]⟩:ByteArray) (⟨#[32,58,32]⟩:ByteArray) (by decide) (by decide) (by rw [hs]; decide)
 rw [hs] at cs
 simp only [List.map_cons,List.map_nil] at cs
 have hw:(z3d (⟨#[48,32,49,32,51,32,51,32,121,101,115]⟩:ByteArray) ⟨#[32]⟩).map AV.str = [.str (⟨#[48]⟩:ByteArray),.str (⟨#[49]⟩:ByteArray),.str (⟨#[51]⟩:ByteArray),.str (⟨#[51]⟩:ByteArray),.str (⟨#[121,101,115]⟩:ByteArray)]:=by rw [z9t]; rfl
 have hl:(z3d (⟨#[48,32,49,32,51,32,51,32,121,101,115]⟩:ByteArray) ⟨#[32]⟩).length = 5:=by
  have:=congrArg List.length hw
  simpa using this
 have cw:=zxj (⟨#[48,32,49,32,51,32,51,32,121,101,115]⟩:ByteArray) (by decide) (by rw [hl]; decide)
 rw [hw] at cw
 have u0:=zgs (⟨#[48]⟩:ByteArray) (by decide)
 have u1:=zgs (⟨#[49]⟩:ByteArray) (by decide)
 have u3:=zgs (⟨#[51]⟩:ByteArray) (by decide)
 have e0:=und_d 0
 have e1:=und_d 1
 have e3:=und_d 3
 simp only [show ((0:Fin 4).val:Int) = 0 from rfl,show ((1:Fin 4).val:Int) = 1 from rfl,show ((3:Fin 4).val:Int) = 3 from rfl] at e0 e1 e3
 rw [d0] at e0
 rw [d1] at e1
 rw [d3] at e3
 rw [e0] at u0
 rw [e1] at u1
 rw [e3] at u3
 have cp:=oParse_ok (⟨#[112,117,116,32,97,32,49]⟩:ByteArray) (by decide)
 rw [← zza,parse_line opA y66,zza] at cp
 have ct:=told_a
 have ce:=ycj
 have cm:=mRight_a
 have cv:=z05 ⟨#[]⟩
 rw [show decide ((((⟨#[]⟩:ByteArray).size:Nat):Int)≤16) = true by decide] at cv
 simp only [ansZ,evtA,opA,Opr.a] at cp ct ce
 have tn0:Int.toNat 0 = 0:=rfl
 have tn1:Int.toNat 1 = 1:=rfl
 have tn2:Int.toNat 2 = 2:=rfl
 have tn3:Int.toNat 3 = 3:=rfl
 have tn4:Int.toNat 4 = 4:=rfl
 have l3:((3:Nat):Int) = 3:=rfl
 have l5:((5:Nat):Int) = 5:=rfl
 have y1:((⟨#[121,101,115]⟩:ByteArray).toList == (⟨#[121,101,115]⟩:ByteArray).toList) = true:=beq_self_eq_true _
 (repeat (first | simp (maxSteps:=9^7) only [go_sem,↓reduceIte,reduceCtorEq,Nat.reduceEqDiff,Nat.reduceBEq,Nat.reduceAdd,Nat.reduceSub,Nat.reduceMul,Nat.reduceLT,Nat.reduceLeDiff,Nat.reduceBNe,Int.reduceBEq,Int.reduceBNe,Int.reduceLT,Int.reduceLE,Msg.a,Par.a,Nd.a,Hld.a,nul,evtA,opA,tn0,tn1,tn2,tn3,tn4,l3,l5,y1,bne_self_eq_false,List.take_succ_cons,List.take_zero,List.take_nil] | refine z01 (cs) ?_ | refine z00 (cs) ?_ | refine z01 (cw) ?_ | refine z00 (cw) ?_ | refine z01 (u0) ?_ | refine z00 (u0) ?_ | refine z01 (u1) ?_ | refine z00 (u1) ?_ | refine z01 (u3) ?_ | refine z00 (u3) ?_ | refine z01 (cp) ?_ | refine z00 (cp) ?_ | refine z01 (ct) ?_ | refine z00 (ct) ?_ | refine z01 (ce) ?_ | refine z00 (ce) ?_ | refine z01 (cm) ?_ | refine z00 (cm) ?_ | refine z01 (cv) ?_ | refine z00 (cv) ?_ | refine And.intro (by omega) ?_ | refine And.intro (fun d hd=>by (repeat (rcases hd with rfl | hd; · exact ⟨rfl,rfl⟩)); cases hd) ?_))
def ndA:Nd:=⟨1,0,[],[],⟨#[109]⟩,false,2,2,[],[⟨⟨#[97]⟩,⟨#[49]⟩⟩]⟩
theorem ndA_fit:ndA.Fit:=by
 have hp:∀ p,p ∈ ndA.rows->p.key.size≤2000∧p.val.size≤2000:=by
  intro p hp
  rw [List.mem_singleton.1 hp]; decide
 refine ⟨⟨by decide,by decide,⟨by decide,fun z hz=>(by cases hz)⟩,⟨by decide,fun z hz=>(by cases hz)⟩,by decide,trivial,by decide,by decide,⟨by decide,fun z hz=>(by cases hz)⟩,⟨by decide,fun z hz=>?_⟩⟩,fun z hz=>(by cases hz),by decide,by decide,by decide,by decide,hp,by decide,fun z hz=>(by cases hz)⟩
 obtain ⟨a,b⟩:=hp z hz
 exact ⟨by omega,by omega⟩
theorem ndA_line:ndA.line = (⟨#[110,111,100,101,32,49,32,48,32,50,32,50,32,109,32,58,32,114,111,119,115,32,49,32,97,61,49,32,58,32,109,115,103,115,32,48]⟩:ByteArray):=by
 have e0:decS ((([]:List Msg).length:Nat):Int) = (⟨#[48]⟩:ByteArray):=d0
 have e1:decS ((([(⟨⟨#[97]⟩,⟨#[49]⟩⟩:Par)]:List Par).length:Nat):Int) = (⟨#[49]⟩:ByteArray):=d1
 unfold Nd.line Nd.below msgsF z64 Par.w
 simp only [ndA,e0,e1,d0,d1,d2,Bool.false_eq_true,if_false,if_true,catF]
 decide +kernel
theorem awake46_ok:AFn Tryz.prog 5 [] (.bool true):=by
 refine fn_aw46 rfl ?_
 have c1:=tParse_a
 have c2:=ycj
 have c3:=same38_a
 have c4:=yci ndA ndA_fit
 rw [ndA_line] at c4
 simp only [evtA] at c1 c2 c3
 simp only [ndA,Nd.a,Par.a,List.map_cons,List.map_nil] at c4
 (repeat (first | simp (maxSteps:=9^7) only [go_sem,↓reduceIte,reduceCtorEq,Nat.reduceEqDiff,Nat.reduceBEq,Nat.reduceAdd,Nat.reduceSub,Nat.reduceMul,Nat.reduceLT,Nat.reduceLeDiff,Nat.reduceBNe,Int.reduceBEq,Int.reduceBNe,Int.reduceLT,Int.reduceLE,Msg.a,Par.a,Nd.a,Hld.a,nul,beq_self_eq_true] | refine z01 (c1) ?_ | refine z00 (c1) ?_ | refine z01 (c2) ?_ | refine z00 (c2) ?_ | refine z01 (c3) ?_ | refine z00 (c3) ?_ | refine z01 (c4) ?_ | refine z00 (c4) ?_ | refine And.intro (by omega) ?_ | refine And.intro (fun d hd=>by (repeat (rcases hd with rfl | hd; · exact ⟨rfl,rfl⟩)); cases hd) ?_))
def Msg.long (m:Msg) (n:Int):Bool:=decide ((m.key.size:Int)≤n) && decide ((m.hi.size:Int)≤n) && decide ((m.val.size:Int)≤n)
theorem fit_of {n:Nd} (ok:n.ok) (h:n.light 2000 = true):n.Fit:=by
 unfold Nd.light at h
 simp only [Bool.and_eq_true,decide_eq_true_eq] at h
 obtain ⟨⟨⟨⟨h1,h2⟩,h3⟩,h4⟩,h5⟩:=h
 have l1:=z4z (f:=Par.bulk) (fun x=>by unfold Par.bulk; omega) n.rows
 have l2:=z4z (f:=z1o) (fun x=>by unfold z1o; omega) n.pivots
 have l4:=z4z (f:=Msg.bulkN) (fun x=>by unfold Msg.bulkN; omega) n.msgs
 refine ⟨ok,fun x hx=>?_,by omega,by omega,by omega,by omega,fun p hp=>?_,by omega,fun m hm=>?_⟩
 ·have:=z4y (f:=z1o) hx
  unfold z1o at this l2 h2; omega
 ·have:=z4y (f:=Par.bulk) hp
  have e:p.bulk = 1 + p.key.size + p.val.size:=rfl
  omega
 ·have:=z4y (f:=Msg.bulkN) hm
  have e:m.bulkN = 1 + m.key.size + m.hi.size + m.val.size:=rfl
  omega
theorem reads_agg {w:World} {fs:List Ty} {c:Array Value} {ds:List AV} (h:z48 w (.st fs) c.toList ds):VR (fun b _=>b < w.heap.size) w (.agg ds) (.agg c):=by
 have:=VR.agg (Pr:=fun b _=>b < w.heap.size) (w:=w) ds c.toList h.2.1 h.2.2
 simpa using this
end
section
/-
 An event's line,how it is read,and that it is read as it was: the plain law.
-/
open Go.RowKit Go.Lib
set_option linter.unusedVariables false
set_option linter.unusedSimpArgs false
set_option maxRecDepth 100000
structure Ans where
 err:Int
 has:Bool
 val:ByteArray
 prs:List Par
def Ans.a (x:Ans):AV:=.agg [.int .i64 x.err,.bool x.has,.str x.val,.sl (x.prs.map Par.a)]
def Ans.zero:Ans:=⟨0,false,nul,[]⟩
structure Evt where
 client:Int
 op:Opr
 ans:Ans
 began:Int
 point:Int
 ended:Int
 done:Bool
def Evt.a (x:Evt):AV:=.agg [.int .i64 x.client,.int .i64 x.op.kind,.str x.op.key,.str x.op.hi,.bool x.op.op,.str x.op.val,.int .i64 x.op.lim,.int .i64 x.ans.err,.bool x.ans.has,.str x.ans.val,.sl (x.ans.prs.map Par.a),.int .i64 x.began,.int .i64 x.point,.int .i64 x.ended,.bool x.done]
def Evt.zero:Evt:=⟨0,Opr.zero,Ans.zero,0,0,0,false⟩
/-- no word has a blank,a colon or a mark -/
def sepC (c:UInt8):Prop:=c = 32∨c = 58∨c = 61
theorem dig_noC {c:UInt8} (hc:sepC c) (d:Nat) (h:d < 10):c ≠ UInt8.ofNat (48 + d):=by
 intro e
 have:=congrArg UInt8.toNat e
 have h2:=zp1 d h
 rw [← this] at h2
 have a:((32:UInt8).toNat:Int) = 32:=rfl
 have b:((58:UInt8).toNat:Int) = 58:=rfl
 have f:((61:UInt8).toNat:Int) = 61:=rfl
 rcases hc with rfl | rfl | rfl <;> omega
theorem dd_noC {c:UInt8} (hc:sepC c):∀ u:Nat,c ∉ decDigits u:=by
 intro u
 induction u using Nat.strongRecOn with
 | ind u ih =>
  by_cases h:u < 10
  ·rw [z3w u h]
   intro e
   exact dig_noC hc u h (List.mem_singleton.1 e)
  ·rw [zf5 u h]
   intro e
   rcases List.mem_append.1 e with e | e
   ·exact ih (u / 10) (by omega) e
   ·exact dig_noC hc (u % 10) (by omega) (List.mem_singleton.1 e)
theorem ygo {c:UInt8} (hc:sepC c) (n:Int) (h:0≤n):c ∉ (decS n).data.toList:=by
 rw [y86 n h]; exact dd_noC hc _
theorem zag (a b:ByteArray):(a ++ b).data.toList = a.data.toList ++ b.data.toList:=by rw [ByteArray.data_append,Array.toList_append]
def nearP (n:Int):Prop:=0≤n∧n≤999999999
structure NearE (e:Evt):Prop where
 c:nearP e.client
 b:nearP e.began
 p:nearP e.point
 n:nearP e.ended
end
section
/-
 The law SqueezeOnce on the plain machine.
-/
open Go.RowKit
set_option linter.unusedVariables false
set_option linter.unusedSimpArgs false
set_option maxRecDepth 100000
def onceP (l:List Msg):Prop:=∀ (i j:Nat) (m x:Msg),i < j->l[i]? = some m->l[j]? = some x->m.kind ≠ 4->(m.span.meet x.span).empty = true
end
section
/-
 What Squeeze leaves: of each key at most one behind the last Wipe that has it. No program.
-/
open Go.RowKit
set_option linter.unusedVariables false
set_option linter.unusedSimpArgs false
theorem maxS_comm (a b:ByteArray):maxS a b = maxS b a:=by
 unfold maxS
 cases h:lt a b <;> cases h2:lt b a
 ·have:=kp.less_total _ _ h h2
  rw [ByteArray.toList_eq,ByteArray.toList_eq] at this
  simp only [Bool.false_eq_true,if_false]
  cases a; cases b; congr 1; exact Array.ext' this
 ·simp
 ·simp
 ·rw [show lt b a = false from kp.less_asymm _ _ h] at h2; cases h2
theorem minS_comm (a b:ByteArray):minS a b = minS b a:=by
 unfold minS
 cases h:lt a b <;> cases h2:lt b a
 ·have:=kp.less_total _ _ h h2
  rw [ByteArray.toList_eq,ByteArray.toList_eq] at this
  simp only [Bool.false_eq_true,if_false]
  cases a; cases b; congr 1; exact Array.ext' this
 ·simp
 ·simp
 ·rw [show lt b a = false from kp.less_asymm _ _ h] at h2; cases h2
theorem y67 (a b:Spn):a.meet b = b.meet a:=by
 unfold Spn.meet Spn.cut
 rw [maxS_comm a.lo b.lo,minS_comm a.hi b.hi,Bool.and_comm a.op b.op]
 cases a.op <;> cases b.op <;> rfl
theorem ze8:∀ a b:List UInt8,Op.bytesLess a b = true->Op.bytesLess b (a ++ [0]) = false
 | _,[],h=>by rw [kp.less_nil] at h; cases h
 | [],y :: ys,_=>by
  simp only [List.nil_append,kp.less_cons,kp.less_nil,Bool.and_false,Bool.or_false,decide_eq_false_iff_not]
  simp [UInt8.lt_iff_toNat_lt]
 | x :: xs,y :: ys,h=>by
  simp only [kp.less_cons,Bool.or_eq_true,decide_eq_true_eq,Bool.and_eq_true,beq_iff_eq] at h
  simp only [List.cons_append,kp.less_cons,Bool.or_eq_false_iff,decide_eq_false_iff_not,Bool.and_eq_false_iff,beq_eq_false_iff_ne]
  rcases h with h | ⟨rfl,h⟩
  ·exact ⟨fun h'=>kp.u8_lt_irrefl _ (kp.u8_lt_trans h h'),.inl (fun e=>by subst e; exact kp.u8_lt_irrefl _ h)⟩
  ·exact ⟨kp.u8_lt_irrefl _,.inr (ze8 xs ys h)⟩
theorem ze7 (a:ByteArray):(a ++ (⟨#[0]⟩:ByteArray)).toList = a.toList ++ [0]:=by
 rw [ByteArray.toList_eq,ByteArray.toList_eq,ByteArray.data_append,Array.toList_append]
theorem z6s:Spn.none.empty = true:=by decide +kernel
theorem znd {a b:ByteArray} (h:(z2f a).touch (z2f b) = true):a = b:=by
 have key:∀ x y:ByteArray,lt x y = true->(z2f x).meet (z2f y) = Spn.none:=by
  intro x y hxy
  have h1:lt y (x ++ ⟨#[0]⟩) = false:=by
   unfold lt; rw [ze7]; exact ze8 _ _ hxy
  have h2:maxS x y = y:=by unfold maxS; rw [if_pos hxy]
  unfold Spn.meet Spn.norm
  have:((z2f x).cut (z2f y)).empty = true:=by
   unfold Spn.cut Spn.empty z2f
   simp only [h2,Bool.and_false,Bool.not_false,Bool.true_and,Bool.false_eq_true,if_false,Bool.not_eq_true']
   unfold minS
   split
   ·rename_i h3
    cases h4:lt y (y ++ ⟨#[0]⟩) with
    | false=>rfl
    | true =>
     have:=kp.less_trans _ _ _ h4 h3
     rw [show Op.bytesLess y.toList (x ++ ⟨#[0]⟩).toList = false from h1] at this; cases this
   ·exact h1
  rw [if_pos this]
 cases h1:lt a b with
 | true=>unfold Spn.touch at h; rw [key a b h1,z6s] at h; cases h
 | false =>
  cases h2:lt b a with
  | true=>unfold Spn.touch at h; rw [y67,key b a h2,z6s] at h; cases h
  | false =>
   have:=kp.less_total _ _ h1 h2
   rw [ByteArray.toList_eq,ByteArray.toList_eq] at this
   cases a; cases b; congr 1; exact Array.ext' this
theorem z7a {p:Nat->Bool}:∀ {f j:Nat},z1y p f j = none->∀ k,j≤k->k < j + f->p k = false
 | 0,j,_,k,h1,h2=>by omega
 | f + 1,j,h,k,h1,h2=>by
  simp only [z1y] at h
  by_cases hp:p j = true
  ·rw [if_pos hp] at h; cases h
  ·rw [if_neg hp] at h
   by_cases e:k = j
   ·subst e; simpa using hp
   ·exact z7a h k (by omega) (by omega)
theorem y9c {l:List Msg} {i:Nat} {m:Msg} (hm:l[i]? = some m) (h:z3t l i = none) {k:Nat} {x:Msg} (hk:i + 1≤k) (hx:l[k]? = some x):x.span.touch m.span = false:=by
 unfold z3t at h
 rw [hm] at h
 have hl:=(List.getElem?_eq_some_iff.1 hx).1
 have:=z7a h k hk (by omega)
 simpa [hx] using this
theorem z65 {l:List Msg} {i j:Nat} {m x:Msg} (hm:l[i]? = some m) (h:z3t l i = some j) (hx:l[j]? = some x):x.span.touch m.span = true:=by
 unfold z3t at h
 rw [hm] at h
 have:=(z43 h).2.2
 simpa [hx] using this
theorem on_kind (m:Msg) (k:ByteArray):(m.on k).kind ≠ 4:=by
 unfold Msg.on Eff.none
 split
 ·split
  ·rename_i h; simp only; omega
  ·split <;> simp
 ·simp
theorem thenC_kind {a b:Eff} (ha:a.kind ≠ 4) (hb:b.kind ≠ 4):(a.thenC b).kind ≠ 4:=by
 unfold Eff.thenC
 split
 ·exact ha
 ·split
  ·exact hb
  ·simp only; split <;> omega
/-- a message and the next one that has to do with it,which adds -/
theorem znu {m x:Msg} (h1:m.kind ≠ 4) (h2:x.kind = 2) (ht:x.span.touch m.span = true):(z34 m x).2 = true∧(z34 m x).1.span = x.span∧(z34 m x).1.kind ≠ 4∧(z34 m x).1.hi = x.hi:=by
 have hx:x.span = z2f x.key:=by unfold Msg.span; rw [if_neg (by omega)]
 have hm:m.span = z2f m.key:=by unfold Msg.span; rw [if_neg h1]
 rw [hx,hm] at ht
 have hk:=znd ht
 have hj:z34 m x = ({ x with kind:=((m.on m.key).thenC (x.on x.key)).kind,val:=((m.on m.key).thenC (x.on x.key)).val },true):=by
  unfold z34
  rw [if_neg (by omega),if_neg (by intro h; rcases h with h | h | h; exact h1 h; omega; exact h hk.symm)]
 rw [hj]
 have hne:=thenC_kind (on_kind m m.key) (on_kind x x.key)
 refine ⟨rfl,?_,hne,rfl⟩
 show Msg.span _ = _
 unfold Msg.span
 simp only
 rw [if_neg hne,if_neg (by omega)]
def Bd (m:Msg):Prop:=m.key.size≤281474976710656∧m.hi.size≤281474976710656∧m.val.size≤4611686018427387903
structure SQ (i:Nat) (rest out:List Msg):Prop where
 pair:onceP out
 ahead:∀ m,m ∈ out->m.kind ≠ 4->∀ k x,i≤k->rest[k]? = some x->x.span.touch m.span = false
 bdR:∀ m,m ∈ rest->Bd m
 bdO:∀ m,m ∈ out->Bd m
 len:out.length≤i
theorem SQ.skip {i:Nat} {rest out:List Msg} (h:SQ i rest out):SQ (i + 1) rest out:=⟨h.pair,fun m hm h4 k x hk hx=>h.ahead m hm h4 k x (by omega) hx,h.bdR,h.bdO,by have:=h.len; omega⟩
theorem SQ.add {i:Nat} {rest out:List Msg} (h:SQ i rest out) {m:Msg} (hm:rest[i]? = some m) (hn:m.kind ≠ 4->z3t rest i = none):SQ (i + 1) rest (out ++ [m]):=by
 refine ⟨fun p q a x hpq hp hq h4=>?_,fun a ha h4 k x hk hx=>?_,h.bdR,fun a ha=>?_,by rw [List.length_append]; have:=h.len; simp; omega⟩
 ·have hql:=(List.getElem?_eq_some_iff.1 hq).1
  rw [List.length_append] at hql
  simp at hql
  have hpl:p < out.length:=by omega
  rw [List.getElem?_append_left hpl] at hp
  rcases Nat.lt_or_ge q out.length with h1 | h1
  ·rw [List.getElem?_append_left h1] at hq
   exact h.pair p q a x hpq hp hq h4
  ·rw [List.getElem?_append_right h1] at hq
   have:q = out.length:=by omega
   subst this
   simp at hq
   subst hq
   have:=h.ahead a (List.mem_of_getElem? hp) h4 i m (Nat.le_refl _) hm
   unfold Spn.touch at this
   rw [y67] at this
   simpa using this
 ·rcases List.mem_append.1 ha with ha | ha
  ·exact h.ahead a ha h4 k x (by omega) hx
  ·simp at ha; subst ha
   exact y9c hm (hn h4) hk hx
 ·rcases List.mem_append.1 ha with ha | ha
  ·exact h.bdO a ha
  ·simp at ha; subst ha
   exact h.bdR a (List.mem_of_getElem? hm)
end
section
/-
 What Squeeze keeps: to each text it does what it did,it takes no more,and a squeezed list stays so. No program.
-/
open Go.RowKit
set_option linter.unusedVariables false
set_option linter.unusedSimpArgs false
theorem lt_eq {a b:ByteArray} (h1:lt a b = false) (h2:lt b a = false):a = b:=by
 have:=kp.less_total _ _ h1 h2
 rw [ByteArray.toList_eq,ByteArray.toList_eq] at this
 cases a; cases b; congr 1; exact Array.ext' this
theorem lt_tr {a b c:ByteArray} (h1:lt a b = true) (h2:lt b c = true):lt a c = true:=kp.less_trans _ _ _ h1 h2
theorem lt_ir (a:ByteArray):lt a a = false:=kp.less_irrefl _
/-- not behind,and not behind -/
theorem le_lt {a b c:ByteArray} (h1:lt b a = false) (h2:lt b c = true):lt a c = true:=by
 cases h:lt a b with
 | true=>exact lt_tr h h2
 | false=>rw [lt_eq h h1]; exact h2
theorem lt_le {a b c:ByteArray} (h1:lt a b = true) (h2:lt c b = false):lt a c = true:=by
 cases h:lt b c with
 | true=>exact lt_tr h1 h
 | false=>rw [lt_eq h2 h]; exact h1
theorem lt_max (x a b:ByteArray):lt x (maxS a b) = (lt x a || lt x b):=by
 unfold maxS
 split
 ·rename_i h
  cases h1:lt x a with
  | false=>simp
  | true=>rw [lt_tr h1 h]; rfl
 ·rename_i h
  cases h1:lt x b with
  | false=>simp
  | true=>rw [lt_le h1 (by simpa using h)]; rfl
theorem lt_min (x a b:ByteArray):lt x (minS a b) = (lt x a && lt x b):=by
 unfold minS
 split
 ·rename_i h
  cases h1:lt x b with
  | false=>simp
  | true=>rw [lt_tr h1 h]; rfl
 ·rename_i h
  cases h1:lt x a with
  | false=>simp
  | true=>rw [lt_le h1 (by simpa using h)]; rfl
theorem y6e:∀ a:List UInt8,Op.bytesLess a (a ++ [0]) = true
 | []=>kp.nil_less _ _
 | x :: xs=>by
  simp only [List.cons_append,kp.less_cons,y6e xs]
  simp
theorem lt_next (k:ByteArray):lt k (k ++ ⟨#[0]⟩) = true:=by
 unfold lt; rw [ze7]; exact y6e _
theorem z3g (k x:ByteArray):(z2f k).has x = decide (x = k):=by
 unfold Spn.has z2f
 simp only [Bool.false_or]
 by_cases h:x = k
 ·subst h; simp [lt_ir,lt_next]
 ·rw [decide_eq_false h]
  cases h1:lt x k with
  | true=>rfl
  | false =>
   cases h2:lt k x with
   | false=>exact absurd (lt_eq h1 h2) h
   | true =>
    have:lt x (k ++ ⟨#[0]⟩) = false:=by unfold lt; rw [ze7]; exact ze8 _ _ h2
    simp [this]
theorem z69 {s:Spn} {x:ByteArray} (h:s.has x = true):s.empty = false:=by
 unfold Spn.has at h
 unfold Spn.empty
 simp only [Bool.and_eq_true,Bool.not_eq_true',Bool.or_eq_true] at h
 rcases h with ⟨h1,h2 | h2⟩
 ·rw [h2]; rfl
 ·rw [le_lt h1 h2]; simp
theorem none_has (x:ByteArray):Spn.none.has x = false:=by
 cases h:Spn.none.has x with
 | false=>rfl
 | true=>have:=z69 h; rw [z6s] at this; cases this
theorem yf7 (s:Spn) (x:ByteArray):s.norm.has x = s.has x:=by
 unfold Spn.norm
 split
 ·rename_i h
  rw [none_has]
  cases h2:s.has x with
  | false=>rfl
  | true=>rw [z69 h2] at h; cases h
 ·split
  ·rename_i h h2
   simp [Spn.has,h2]
  ·rfl
theorem cut_has (a b:Spn) (x:ByteArray):(a.cut b).has x = (a.has x && b.has x):=by
 unfold Spn.has Spn.cut
 simp only [lt_max]
 cases ha:a.op <;> cases hb:b.op <;> simp [lt_min] <;> cases lt x a.lo <;> cases lt x b.lo <;> simp
theorem zzd (a b:Spn) (x:ByteArray):(a.meet b).has x = (a.has x && b.has x):=by
 unfold Spn.meet
 rw [yf7,cut_has]
theorem norm_norm (s:Spn):s.norm.norm = s.norm:=by
 unfold Spn.norm
 by_cases h:s.empty = true
 ·rw [if_pos h,if_pos z6s]
 ·rw [if_neg h]
  by_cases h2:s.op = true
  ·rw [if_pos h2]
   simp [Spn.empty]
  ·rw [if_neg h2,if_neg h,if_neg h2]
theorem meet_norm (a b:Spn):(a.meet b).norm = a.meet b:=norm_norm _
theorem within_eq (a b:Spn):a.within b = decide (a.meet b = a.norm):=by unfold Spn.within; rw [meet_norm]
theorem within_has {a b:Spn} {x:ByteArray} (h:a.within b = true) (hx:a.has x = true):b.has x = true:=by
 rw [within_eq,decide_eq_true_eq] at h
 have:=zzd a b x
 rw [h,yf7,hx] at this
 simpa using this.symm
theorem zzx {s:Spn} {k:ByteArray}:s.touch (z2f k) = s.has k:=by
 unfold Spn.touch
 cases h:s.has k with
 | true =>
  have:(s.meet (z2f k)).has k = true:=by rw [zzd,h,z3g]; simp
  rw [z69 this]; rfl
 | false =>
  rw [← has_lo,Bool.not_not,zzd,z3g]
  cases h2:s.has (s.meet (z2f k)).lo with
  | false=>rfl
  | true =>
   have:(s.meet (z2f k)).lo ≠ k:=fun e=>by rw [e,h] at h2; cases h2
   simp [this]
/-! ### effects -/
theorem bext {a b:ByteArray} (h:a.data.toList = b.data.toList):a = b:=by
 cases a; cases b; congr 1; exact Array.ext' h
theorem z2q (s:ByteArray):(z3c s).data.toList = s.data.toList.drop (s.data.toList.length - 16):=by
 unfold z3c
 have e:s.size = s.data.toList.length:=by rw [Array.length_toList]; rfl
 rw [ByteArray.data_extract,Array.toList_extract,e,List.extract_eq_take_drop,List.take_of_length_le (by rw [List.length_drop]; omega)]
theorem tail16_l (s t:ByteArray):z3c (z3c s ++ t) = z3c (s ++ t):=by
 apply bext
 rw [z2q,z2q,ByteArray.data_append,Array.toList_append,z2q,ByteArray.data_append,Array.toList_append]
 generalize s.data.toList = a
 generalize t.data.toList = b
 simp only [List.length_append,List.length_drop,List.drop_append,List.drop_drop]
 congr 2 <;> omega
theorem tail16_r (s t:ByteArray):z3c (s ++ z3c t) = z3c (s ++ t):=by
 apply bext
 rw [z2q,z2q,ByteArray.data_append,Array.toList_append,z2q,ByteArray.data_append,Array.toList_append]
 generalize s.data.toList = a
 generalize t.data.toList = b
 simp only [List.length_append,List.length_drop,List.drop_append,List.drop_drop]
 by_cases h:b.length≤16
 ·rw [show b.length - 16 = 0 by omega]; simp
 ·rw [List.drop_eq_nil_of_le (by omega:a.length≤_),List.drop_eq_nil_of_le (by omega:a.length≤_)]
  congr 2; omega
theorem z5n (e:Eff):e.thenR Eff.none = e:=by simp [Eff.thenR,Eff.none]
theorem zpq (e b:Eff) (h0:b.kind ≠ 0) (h2:b.kind ≠ 2):e.thenR b = b:=by simp [Eff.thenR,h0,h2]
theorem then_assoc (e a b:Eff) (hb:b.kind = 2):(e.thenR a).thenR b = e.thenR (a.thenR b):=by
 by_cases ha:a.kind = 0
 ·rw [show e.thenR a = e by simp [Eff.thenR,ha],show a.thenR b = b by simp [Eff.thenR,ha,hb]]
 ·have h1:a.thenR b = ⟨if a.kind = 2 then 2 else 1,z3c (a.val ++ b.val)⟩:=by simp [Eff.thenR,ha,hb]
  by_cases ha2:a.kind = 2
  ·by_cases he:e.kind = 0
   ·rw [show e.thenR a = a by simp [Eff.thenR,he,ha2],h1]
    simp [Eff.thenR,he,ha2]
   ·rw [h1]
    simp only [Eff.thenR,ha2,he,hb]
    by_cases he2:e.kind = 2 <;> simp [he2,tail16_l,tail16_r,ByteArray.append_assoc]
  ·rw [show e.thenR a = a by simp [Eff.thenR,ha,ha2],h1]
   simp [Eff.thenR,ha2]
theorem on_del (m:Msg) (k:ByteArray):(m.on k).kind = 3->(m.on k).val = ⟨#[]⟩:=by
 unfold Msg.on Eff.none
 split
 ·split
  ·rename_i h; intro h3; simp only at h3; omega
  ·split <;> simp
 ·simp
theorem on_thenC (m:Msg) (k:ByteArray) (b:Eff):(m.on k).thenC b = (m.on k).thenR b:=then_same b (on_del m k)
theorem zws {m:Msg} {x:ByteArray} (h:m.span.has x = false):m.on x = Eff.none:=by simp [Msg.on,h]
theorem z29 {m:Msg} (h:m.kind ≠ 4):m.span = z2f m.key:=by simp [Msg.span,h]
def z2n (x:ByteArray) (e:Eff) (l:List Msg):Eff:=l.foldl (fun e m=>e.thenR (m.on x)) e
theorem z1i (x:ByteArray) (e:Eff) (m:Msg) (l:List Msg):z2n x e (m :: l) = z2n x (e.thenR (m.on x)) l:=rfl
theorem zgw (x:ByteArray) (e:Eff) (a b:List Msg):z2n x e (a ++ b) = z2n x (z2n x e a) b:=by simp [z2n]
theorem zf2 {x:ByteArray}:∀ {l:List Msg} {b:Msg},b ∈ l->(b.on x).kind ≠ 0->(b.on x).kind ≠ 2->∀ e e',z2n x e l = z2n x e' l
 | [],b,h,_,_,_,_=>by cases h
 | m :: l,b,h,h0,h2,e,e'=>by
  rw [z1i,z1i]
  rcases List.mem_cons.1 h with rfl | h
  ·rw [zpq _ _ h0 h2,zpq _ _ h0 h2]
  ·exact zf2 h h0 h2 _ _
theorem y7a {x:ByteArray} {b:Msg}:∀ {l:List Msg} {q:Nat} {a:Msg},l[q]? = some a->b.on x = a.on x->∀ e,z2n x e (l.set q b) = z2n x e l
 | [],q,a,h,_,_=>by simp at h
 | m :: l,0,a,h,hb,e=>by
  simp at h; subst h
  rw [List.set_cons_zero,z1i,z1i,hb]
 | m :: l,q + 1,a,h,hb,e=>by
  rw [List.set_cons_succ,z1i,z1i]
  exact y7a (by simpa using h) hb _
theorem yge {x:ByteArray} {b:Msg} {M:Eff}:∀ {l:List Msg} {q:Nat} {a:Msg},l[q]? = some a->(∀ p z,p < q->l[p]? = some z->z.on x = Eff.none)->b.on x = M.thenR (a.on x)->(a.on x).kind = 2->∀ e,z2n x (e.thenR M) l = z2n x e (l.set q b)
 | [],q,a,h,_,_,_,_=>by simp at h
 | m :: l,0,a,h,_,hb,h2,e=>by
  simp at h; subst h
  rw [List.set_cons_zero,z1i,z1i,hb,then_assoc _ _ _ h2]
 | m :: l,q + 1,a,h,hp,hb,h2,e=>by
  rw [List.set_cons_succ,z1i,z1i,hp 0 m (by omega) rfl,z5n,z5n]
  exact yge (by simpa using h) (fun p z hpq hz=>hp (p + 1) z (by omega) (by simpa using hz)) hb h2 _
def Msg.size (m:Msg):Nat:=if m.kind = 4 then 36 else 4 + m.key.size + m.val.size
def z32 (l:List Msg):Nat:=(l.map Msg.size).sum
theorem z2a (m:Msg) (l:List Msg):z32 (m :: l) = m.size + z32 l:=by simp [z32]
theorem z5y (a b:List Msg):z32 (a ++ b) = z32 a + z32 b:=by simp [z32]
theorem y00 {b:Msg}:∀ {l:List Msg} {q:Nat} {a:Msg},l[q]? = some a->z32 (l.set q b) + a.size = z32 l + b.size
 | [],q,a,h=>by simp at h
 | m :: l,0,a,h=>by
  simp at h; subst h
  rw [List.set_cons_zero,z2a,z2a]; omega
 | m :: l,q + 1,a,h=>by
  rw [List.set_cons_succ,z2a,z2a]
  have:=y00 (b:=b) (l:=l) (q:=q) (a:=a) (by simpa using h)
  omega
/-! ### what a step does -/
theorem z6f {p:Nat->Bool}:∀ {f j k:Nat},z1y p f j = some k->∀ i,j≤i->i < k->p i = false
 | 0,j,k,h,i,_,_=>by simp [z1y] at h
 | f + 1,j,k,h,i,h1,h2=>by
  simp only [z1y] at h
  by_cases hp:p j = true
  ·rw [if_pos hp] at h; cases h; omega
  ·rw [if_neg hp] at h
   by_cases e:i = j
   ·subst e; simpa using hp
   ·exact z6f h i (by omega) h2
theorem nextOf_mid {l:List Msg} {i j:Nat} {m:Msg} (hm:l[i]? = some m) (h:z3t l i = some j) {k:Nat} {x:Msg} (h1:i < k) (h2:k < j) (hx:l[k]? = some x):x.span.touch m.span = false:=by
 unfold z3t at h
 rw [hm] at h
 have:=z6f h k (by omega) h2
 simpa [hx] using this
theorem znv {m x:Msg} (h1:m.kind ≠ 4) (h2:x.kind = 2) (ht:x.span.touch m.span = true):m.key = x.key∧z34 m x = ({ x with kind:=((m.on m.key).thenR (x.on x.key)).kind,val:=((m.on m.key).thenR (x.on x.key)).val },true):=by
 rw [z29 h1,z29 (by omega:x.kind ≠ 4)] at ht
 have hk:=znd ht
 refine ⟨hk.symm,?_⟩
 unfold z34
 rw [if_neg (by omega),if_neg (by intro h; rcases h with h | h | h; exact h1 h; omega; exact h hk.symm),on_thenC]
theorem y99 {x:Msg} (h2:x.kind = 2):x.on x.key = ⟨2,x.val⟩:=by
 have:x.span.has x.key = true:=by rw [z29 (by omega:x.kind ≠ 4),z3g]; simp
 simp [Msg.on,this,h2]
theorem z9l (a:Eff) (v:ByteArray):(a.thenR ⟨2,v⟩).kind = 1∨(a.thenR ⟨2,v⟩).kind = 2:=by
 unfold Eff.thenR
 by_cases h:a.kind = 0
 ·simp [h]
 ·by_cases h2:a.kind = 2 <;> simp [h,h2]
theorem join_on {m x:Msg} (h1:m.kind ≠ 4) (h2:x.kind = 2) (ht:x.span.touch m.span = true):(z34 m x).1.on x.key = (m.on x.key).thenR (x.on x.key)∧∀ y,y ≠ x.key->(z34 m x).1.on y = x.on y:=by
 obtain ⟨hk,hj⟩:=znv h1 h2 ht
 obtain ⟨_,hs,_,_⟩:=znu h1 h2 ht
 have hxs:=z29 (m:=x) (by omega)
 refine ⟨?_,fun y hy=>?_⟩
 ·have hh:(z34 m x).1.span.has x.key = true:=by rw [hs,hxs,z3g]; simp
  unfold Msg.on
  rw [if_pos hh]
  change (if (z34 m x).1.kind = 1∨(z34 m x).1.kind = 2 then (⟨(z34 m x).1.kind,(z34 m x).1.val⟩:Eff) else _) = _
  rw [hj]
  rw [if_pos (by rw [y99 h2]; exact z9l _ _),hk]
  rfl
 ·have hh:x.span.has y = false:=by rw [hxs,z3g]; simp [hy]
  rw [zws hh,zws (by rw [hs]; exact hh)]
/-- what holds while it goes -/
structure SK (f:ByteArray->Eff) (st:List Int) (n:Nat) (i:Nat) (rest out:List Msg):Prop where
 on:∀ y,z2n y Eff.none (out ++ rest.drop i) = f y
 wip:∀ a,a ∈ out->a.kind = 4->∀ k x,i≤k->rest[k]? = some x->x.kind = 4->a.span.within x.span = false
 pair:∀ (p q:Nat) (a x:Msg),p < q->out[p]? = some a->out[q]? = some x->a.kind = 4->x.kind = 4->a.span.within x.span = false
 size:z32 (out ++ rest.drop i)≤n
 stamps:((out ++ rest.drop i).map Msg.stamp).Sublist st
 right:∀ m,m ∈ out ++ rest.drop i->m.right = true
theorem right_kind {m:Msg} (h:m.right = true):m.kind = 1∨m.kind = 2∨m.kind = 3∨m.kind = 4:=by
 unfold Msg.right at h
 by_cases h4:m.kind = 4
 ·omega
 ·rw [if_neg h4] at h
  simp only [Bool.and_eq_true,Bool.or_eq_true,beq_iff_eq] at h
  omega
theorem dead_fold {rest:List Msg} {i:Nat} {m:Msg} (hm:rest[i]? = some m) (hr:∀ x,x ∈ rest.drop i->x.right = true) (hd:dead rest i = true) (y:ByteArray) (e:Eff) :
  z2n y (e.thenR (m.on y)) (rest.drop (i + 1)) = z2n y e (rest.drop (i + 1)):=by
 unfold dead at hd
 rw [hm] at hd
 simp only at hd
 by_cases h4:m.kind = 4
 ·rw [if_pos h4] at hd
  unfold cov at hd
  rw [hm] at hd
  simp only [List.any_eq_true,Bool.and_eq_true,beq_iff_eq] at hd
  obtain ⟨b,hb,hb4,hw⟩:=hd
  cases hy:m.span.has y with
  | false=>rw [zws hy,z5n]
  | true =>
   have hby:=within_has hw hy
   have:b.on y = ⟨3,⟨#[]⟩⟩:=by simp [Msg.on,hby,hb4]
   exact zf2 hb (by rw [this]; simp) (by rw [this]; simp) _ _
 ·rw [if_neg h4] at hd
  cases hn:z3t rest i with
  | none=>rw [hn] at hd; cases hd
  | some j =>
   obtain ⟨hij,x,hx⟩:=znl hn
   rw [hn] at hd
   simp only [hx,Option.any_some,bne_iff_ne,ne_eq] at hd
   have ht:=z65 hm hn hx
   rw [z29 h4,zzx] at ht
   have hxm:x ∈ rest.drop (i + 1):=List.mem_of_getElem? (by rw [List.getElem?_drop,show i + 1 + (j - (i + 1)) = j by omega]; exact hx)
   have hxr:=hr x (by rw [List.drop_eq_getElem_cons (List.getElem?_eq_some_iff.1 hm).1]; exact List.mem_cons_of_mem _ hxm)
   by_cases hy:y = m.key
   ·subst hy
    have hk:=right_kind hxr
    have:x.on m.key = if x.kind = 1 then ⟨1,x.val⟩ else ⟨3,⟨#[]⟩⟩:=by
     unfold Msg.on
     rw [if_pos ht]
     rcases hk with h | h | h | h
     ·simp [h]
     ·exact absurd h hd
     ·simp [h]
     ·simp [h]
    exact zf2 hxm (by rw [this]; split <;> simp) (by rw [this]; split <;> simp) _ _
   ·rw [zws (by rw [z29 h4,z3g]; simp [hy]),z5n]
theorem zp0 {α:Type} {l:List α} {i:Nat} {m:α} (h:l[i]? = some m):l.drop i = m :: l.drop (i + 1):=by
 rw [List.drop_eq_getElem_cons (List.getElem?_eq_some_iff.1 h).1]
 congr 1
 exact (List.getElem?_eq_some_iff.1 h).2
theorem SK.skip {f:ByteArray->Eff} {st:List Int} {n i:Nat} {rest out:List Msg} (h:SK f st n i rest out) {m:Msg} (hm:rest[i]? = some m) (hd:dead rest i = true):SK f st n (i + 1) rest out:=by
 have hc:=zp0 hm
 refine ⟨fun y=>?_,fun a ha h4 k x hk hx=>h.wip a ha h4 k x (by omega) hx,h.pair,?_,?_,?_⟩
 ·rw [← h.on y,zgw,zgw,hc,z1i]
  exact (dead_fold hm (fun x hx=>h.right x (List.mem_append_right _ hx)) hd y _).symm
 ·refine Nat.le_trans ?_ h.size
  rw [z5y,z5y,hc,z2a]; omega
 ·refine List.Sublist.trans (List.Sublist.map _ ?_) h.stamps
  rw [hc]
  exact List.Sublist.append_left (List.sublist_cons_self _ _) _
 ·intro x hx
  refine h.right x ?_
  rw [hc]
  rcases List.mem_append.1 hx with hx | hx
  ·exact List.mem_append_left _ hx
  ·exact List.mem_append_right _ (List.mem_cons_of_mem _ hx)
theorem SK.add {f:ByteArray->Eff} {st:List Int} {n i:Nat} {rest out:List Msg} (h:SK f st n i rest out) {m:Msg} (hm:rest[i]? = some m) (hd:¬ dead rest i = true):SK f st n (i + 1) rest (out ++ [m]):=by
 have hc:=zp0 hm
 have he:out ++ [m] ++ rest.drop (i + 1) = out ++ rest.drop i:=by rw [List.append_assoc,hc]; rfl
 have hw:m.kind = 4->∀ k x,i + 1≤k->rest[k]? = some x->x.kind = 4->m.span.within x.span = false:=by
  intro h4 k x hk hx hx4
  unfold dead cov at hd
  rw [hm] at hd
  simp only [if_pos h4,List.any_eq_true,Bool.and_eq_true,beq_iff_eq] at hd
  cases hwi:m.span.within x.span with
  | false=>rfl
  | true =>
   exact absurd ⟨x,List.mem_of_getElem? (by rw [List.getElem?_drop,show i + 1 + (k - (i + 1)) = k by omega]; exact hx),hx4,hwi⟩ hd
 refine ⟨fun y=>by rw [he]; exact h.on y,fun a ha h4 k x hk hx hx4=>?_,fun p q a x hpq hp hq h4 hx4=>?_,by rw [he]; exact h.size,by rw [he]; exact h.stamps,by rw [he]; exact h.right⟩
 ·rcases List.mem_append.1 ha with ha | ha
  ·exact h.wip a ha h4 k x (by omega) hx hx4
  ·simp at ha; subst ha
   exact hw h4 k x hk hx hx4
 ·have hql:=(List.getElem?_eq_some_iff.1 hq).1
  rw [List.length_append] at hql
  simp at hql
  have hpl:p < out.length:=by omega
  rw [List.getElem?_append_left hpl] at hp
  rcases Nat.lt_or_ge q out.length with h1 | h1
  ·rw [List.getElem?_append_left h1] at hq
   exact h.pair p q a x hpq hp hq h4 hx4
  ·rw [List.getElem?_append_right h1] at hq
   have:q = out.length:=by omega
   subst this
   simp at hq
   subst hq
   exact h.wip a (List.mem_of_getElem? hp) h4 i m (Nat.le_refl _) hm hx4
theorem zg9 {b:Msg}:∀ {l:List Msg} {q:Nat} {a:Msg},l[q]? = some a->b.stamp = a.stamp->(l.set q b).map Msg.stamp = l.map Msg.stamp
 | [],q,a,h,_=>by simp at h
 | m :: l,0,a,h,hb=>by simp at h; subst h; simp [hb]
 | m :: l,q + 1,a,h,hb=>by
  rw [List.set_cons_succ,List.map_cons,List.map_cons,zg9 (by simpa using h) hb]
theorem zxq (a:Eff) (v:ByteArray):(a.thenR ⟨2,v⟩).val.size≤a.val.size + v.size:=by
 unfold Eff.thenR
 by_cases h:a.kind = 0
 ·simp [h]
 ·simp only [h,ne_eq,not_true_eq_false,or_self,if_false,show ¬ ((2:Int) = 0) by omega]
  have:(z3c (a.val ++ v)).size≤(a.val ++ v).size:=by unfold z3c; rw [ByteArray.size_extract]; omega
  rw [ByteArray.size_append] at this
  exact this
theorem zh2 (a:Eff) (v:ByteArray) (hv:v.size≤16):(a.thenR ⟨2,v⟩).val.size≤16:=by
 unfold Eff.thenR
 by_cases h:a.kind = 0
 ·simp [h,hv]
 ·simp only [h,ne_eq,not_true_eq_false,or_self,if_false,show ¬ ((2:Int) = 0) by omega]
  exact y8j _
theorem join_more {m x:Msg} (h1:m.kind ≠ 4) (h2:x.kind = 2) (ht:x.span.touch m.span = true):(z34 m x).1.stamp = x.stamp∧(z34 m x).1.size≤m.size + x.size∧(x.right = true->(z34 m x).1.right = true):=by
 obtain ⟨hk,hj⟩:=znv h1 h2 ht
 rw [hj,hk,y99 h2]
 have e1:=z9l (m.on x.key) x.val
 have e2:=zxq (m.on x.key) x.val
 have e3:=on_size m x.key
 refine ⟨rfl,?_,fun hr=>?_⟩
 ·unfold Msg.size
  simp only
  rw [if_neg (by omega),if_neg h1,if_neg (by omega)]
  omega
 ·have e4:=zh2 (m.on x.key) x.val
  unfold Msg.right at hr ⊢
  simp only at hr ⊢
  rw [if_neg (by omega)] at hr
  rw [if_neg (by omega)]
  simp only [Bool.and_eq_true,decide_eq_true_eq] at hr
  simp only [Bool.and_eq_true,decide_eq_true_eq]
  refine ⟨⟨⟨⟨hr.1.1.1.1,hr.1.1.1.2⟩,e4 hr.1.1.2⟩,hr.1.2⟩,hr.2.1,?_⟩
  rcases e1 with e | e <;> rw [e] <;> rfl
theorem SK.join {f:ByteArray->Eff} {st:List Int} {n i:Nat} {rest out:List Msg} (h:SK f st n i rest out) {m x:Msg} {j:Nat} (hm:rest[i]? = some m) (hn:z3t rest i = some j) (hx:rest[j]? = some x) (h4:m.kind ≠ 4) (h2:x.kind = 2):SK f st n (i + 1) (rest.set j (z34 m x).1) out:=by
 have hc:=zp0 hm
 have hij:=(znl hn).1
 have ht:=z65 hm hn hx
 obtain ⟨j1,j2,j3,j4⟩:=znu h4 h2 ht
 obtain ⟨k1,k2,k3⟩:=join_more h4 h2 ht
 obtain ⟨o1,o2⟩:=join_on h4 h2 ht
 obtain ⟨hk,_⟩:=znv h4 h2 ht
 have hq:(rest.drop (i + 1))[j - (i + 1)]? = some x:=by rw [List.getElem?_drop,show i + 1 + (j - (i + 1)) = j by omega]; exact hx
 have hs:(rest.set j (z34 m x).1).drop (i + 1) = (rest.drop (i + 1)).set (j - (i + 1)) (z34 m x).1:=by
  rw [List.drop_set,if_neg (by omega)]
 have hxr:=h.right x (by rw [hc]; exact List.mem_append_right _ (List.mem_cons_of_mem _ (List.mem_of_getElem? hq)))
 refine ⟨fun y=>?_,fun a ha ha4 k z hk' hz hz4=>?_,h.pair,?_,?_,?_⟩
 ·rw [← h.on y,zgw,zgw,hc,z1i,hs]
  by_cases hy:y = x.key
  ·subst hy
   refine (yge hq (fun p z hp hz=>?_) o1 (by rw [y99 h2]) _).symm
   rw [List.getElem?_drop] at hz
   have:=nextOf_mid hm hn (by omega) (by omega) hz
   rw [z29 h4,hk,zzx] at this
   exact zws this
  ·rw [zws (m:=m) (by rw [z29 h4,z3g,hk]; simp [hy]),z5n]
   exact y7a hq (o2 y hy) _
 ·rw [List.getElem?_set] at hz
  split at hz
  ·split at hz
   ·cases hz; exact absurd hz4 j3
   ·cases hz
  ·exact h.wip a ha ha4 k z (by omega) hz hz4
 ·refine Nat.le_trans ?_ h.size
  rw [z5y,z5y,hc,z2a,hs]
  have:=y00 (b:=(z34 m x).1) hq
  omega
 ·refine List.Sublist.trans ?_ h.stamps
  rw [hs,List.map_append,List.map_append,zg9 hq k1,hc]
  exact List.Sublist.append_left (List.Sublist.map _ (List.sublist_cons_self _ _)) _
 ·intro z hz
  rw [hs] at hz
  rcases List.mem_append.1 hz with hz | hz
  ·exact h.right z (List.mem_append_left _ hz)
  ·rcases List.mem_or_eq_of_mem_set hz with hz | hz
   ·exact h.right z (by rw [hc]; exact List.mem_append_right _ (List.mem_cons_of_mem _ hz))
   ·subst hz; exact k3 hxr
theorem z49 {f:ByteArray->Eff} {st:List Int} {n:Nat}:∀ (g i:Nat) (rest out:List Msg),SK f st n i rest out->i + g = rest.length->∃ rest',rest'.length = rest.length∧SK f st n rest.length rest' (sqGo g i rest out)
 | 0,i,rest,out,h,hf=>⟨rest,rfl,by rw [← hf]; exact h⟩
 | g + 1,i,rest,out,h,hf=>by
  obtain ⟨m,hm⟩:∃ m,rest[i]? = some m:=⟨_,List.getElem?_eq_getElem (by omega)⟩
  simp only [sqGo,hm]
  by_cases hd:dead rest i = true
  ·rw [if_pos hd]
   exact z49 g (i + 1) rest out (h.skip hm hd) (by omega)
  ·rw [if_neg hd]
   cases hx:z3t rest i with
   | none =>
    simp only
    exact z49 g (i + 1) rest _ (h.add hm hd) (by omega)
   | some j =>
    obtain ⟨hij,x,hxj⟩:=znl hx
    simp only [hxj]
    by_cases h4:m.kind = 4
    ·rw [if_pos h4]
     exact z49 g (i + 1) rest _ (h.add hm hd) (by omega)
    ·rw [if_neg h4]
     have hk:x.kind = 2:=by
      unfold dead at hd
      simp only [hm,hx,hxj,if_neg h4] at hd
      simpa using hd
     rw [if_pos (znu h4 hk (z65 hm hx hxj)).1]
     have:=z49 g (i + 1) (rest.set j (z34 m x).1) out (h.join hm hx hxj h4 hk) (by rw [List.length_set]; omega)
     rw [List.length_set] at this
     exact this
theorem z9g:∀ l:List Msg,z28 l = true ↔ (∀ m,m ∈ l->m.right = true)∧(l.map Msg.stamp).Pairwise (· < ·)
 | []=>by simp [z28]
 | [m]=>by simp [z28]
 | m :: x :: l=>by
  have ih:=z9g (x :: l)
  rw [z28]
  simp only [Bool.and_eq_true,decide_eq_true_eq,ih,List.map_cons,List.pairwise_cons,List.mem_cons,forall_eq_or_imp]
  refine ⟨fun ⟨⟨h1,h2⟩,⟨h3,h4⟩,h5,h6⟩=>⟨⟨h1,h3,h4⟩,⟨h2,fun a ha=>Int.lt_trans h2 (h5 a ha)⟩,h5,h6⟩,fun ⟨⟨h1,h3,h4⟩,⟨h2,_⟩,h5,h6⟩=>⟨⟨h1,h2⟩,⟨h3,h4⟩,h5,h6⟩⟩
theorem keeps (l:List Msg) (h:z28 l = true):(∀ y,z2n y Eff.none (z9s l) = z2n y Eff.none l)∧z32 (z9s l)≤z32 l∧z28 (z9s l) = true ∧
  ∀ (p q:Nat) (a x:Msg),p < q->(z9s l)[p]? = some a->(z9s l)[q]? = some x->a.kind = 4->x.kind = 4->a.span.within x.span = false:=by
 obtain ⟨h1,h2⟩:=(z9g l).1 h
 obtain ⟨rest',hl,hk⟩:=z49 (f:=fun y=>z2n y Eff.none l) (st:=l.map Msg.stamp) (n:=z32 l) l.length 0 l [] ⟨fun y=>rfl,(fun a ha=>by cases ha),(fun p q a x _ hp=>by simp at hp),Nat.le_refl _,List.Sublist.refl _,h1⟩ (by omega)
 have hd:rest'.drop l.length = []:=List.drop_eq_nil_of_le (by omega)
 obtain ⟨k1,_,k3,k4,k5,k6⟩:=hk
 rw [hd,List.append_nil] at k4 k5 k6
 refine ⟨fun y=>by have:=k1 y; rw [hd,List.append_nil] at this; exact this,k4,(z9g _).2 ⟨k6,h2.sublist k5⟩,k3⟩
/-! ### a squeezed list stays so -/
end
section
/-
 The document's effects and messages,z32,and lists that are one,on the plain machine.
-/
open Go.RowKit
set_option linter.unusedVariables false
set_option linter.unusedSimpArgs false
set_option maxRecDepth 100000
attribute [local go_sem ↓] z11 z0l
theorem gM {l:List Msg} {j:Nat} {x:Msg} (hx:l[j]? = some x):(l.map Msg.a).getD j .und = .agg [.int .i64 x.stamp,.int .i64 x.kind,.str x.key,.str x.hi,.bool x.op,.str x.val]:=by
 rw [List.getD_eq_getElem?_getD,List.getElem?_map,hx]; rfl
theorem wS {j:Nat} (h:j≤1000000000000):IntKind.i64.wrap ((j:Int) + 1) = ((j + 1:Nat):Int):=by rw [IntWalk.i64_in _ (by omega)]; rfl
theorem getM {l:List Msg} {j:Nat} (h:j < l.length):∃ x,l[j]? = some x:=⟨_,List.getElem?_eq_getElem h⟩
/-! ### percolate/percolateref05.Size -/
def y2v:Reg:=⟨[],[⟨.box 6 55 (.t 0),some 1,none,[],[]⟩,⟨.mv (.c (.int .i64 0)),some 2,none,[],[]⟩],[1],[],false⟩
def zhy:List ROp:=[⟨.faddr 1 (.t 1),some 3,none,[],[]⟩,⟨.load 1 false (.t 3),some 4,none,[],[]⟩,⟨.bin .eql (.t 4) (.c (.int .i64 4)),some 5,none,[],[]⟩]
def y2u:Reg:=⟨[],zhy,[],[],false⟩
def y2t:Reg:=⟨[],[⟨.mv (.c (.int .i64 36)),some 2,none,[],[]⟩],[],[],false⟩
def zhx:List ROp:=[⟨.faddr 2 (.t 1),some 6,none,[],[]⟩,⟨.load 1 false (.t 6),some 7,none,[],[]⟩,⟨.len true (.t 7),some 8,none,[],[]⟩,⟨.bin .add (.c (.int .i64 4)) (.t 8),some 9,none,[],[]⟩,⟨.faddr 5 (.t 1),some 10,none,[],[]⟩,⟨.load 1 false (.t 10),some 11,none,[],[]⟩,⟨.len true (.t 11),some 12,none,[],[]⟩,⟨.bin .add (.t 9) (.t 12),some 13,none,[],[]⟩,⟨.mv (.t 13),some 2,none,[],[]⟩]
def y2s:Reg:=⟨[],zhx,[],[],false⟩
def yfo:IR:=(.seq (.reg y2v)
 (.seq (.seq (.reg y2u)
 (.cond (.t 5) (.seq (.reg y2t)
 .ret)
 .skip))
 (.seq (.reg y2s)
 .ret)))
def y0f:List RDesc:=[(.tmp 2)]
theorem e_rSize_0:EqR y2v [⟨.box 6 55 (.t 0),some 1,none,[],[]⟩,⟨.mv (.c (.int .i64 0)),some 2,none,[],[]⟩] [1]:=fun _ _ _=>rfl
theorem e_rSize_1:EqR y2u zhy []:=fun _ _ _=>rfl
theorem e_rSize_2:EqR y2t [⟨.mv (.c (.int .i64 36)),some 2,none,[],[]⟩] []:=fun _ _ _=>rfl
theorem e_rSize_3:EqR y2s zhx []:=fun _ _ _=>rfl
theorem fn_rSize {args:List AV} {r:AV} (ha:args.length.ble Tryz.f95.ntmps = true) (h:run (AFn Tryz.prog) yfo (endQ y0f r) (z0b args)):AFn Tryz.prog 95 args r :=
 AFn.of_code (pv:=false) (hint:=fun _=>[]) (c:=Tryz.f95.body.getD .skip) (by kernel_rfl) (by kernel_rfl) Tryz.func95 (by kernel_rfl) (by kernel_rfl) (by kernel_rfl) (of_decide_eq_true (by kernel_rfl)) (Nat.le_of_ble_eq_true ha) (Nat.le_of_ble_eq_true (by kernel_rfl)) (z0c h)
/-! ### percolate/percolateref18.Size -/
def zm8:Reg:=⟨[],[⟨.mv (.c (.int .i64 0)),some 2,none,[],[]⟩],[],[],false⟩
def zm7:Reg:=⟨[],[⟨.mv (.c (.int .i64 0)),some 3,none,[],[]⟩],[],[],false⟩
def zm6:Reg:=⟨[],[⟨.mv (.c (.int .i64 0)),some 4,none,[],[]⟩],[],[],false⟩
def z81:List ROp:=[⟨.mv (.t 4),some 5,none,[],[]⟩,⟨.mv (.t 0),some 6,none,[],[]⟩,⟨.len false (.t 6),some 7,none,[],[]⟩,⟨.bin .lss (.t 5) (.t 7),some 8,none,[],[]⟩]
def zm5:Reg:=⟨[],z81,[],[],false⟩
def z80:List ROp:=[⟨.mv (.t 3),some 11,none,[16],[]⟩,⟨.mv (.t 0),some 12,none,[16],[]⟩,⟨.mv (.t 4),some 13,none,[16],[]⟩,⟨.iaddr 6 (.t 12) (.t 13),some 14,none,[16],[]⟩,⟨.load 6 true (.t 14),some 15,none,[16],[]⟩,⟨.callv (.c (.clo 95 [] [])) [(.t 15)],some 16,none,[],[]⟩,⟨.bin .add (.t 11) (.t 16),some 17,none,[],[]⟩,⟨.mv (.t 17),some 3,none,[],[]⟩]
def zm4:Reg:=⟨[],z80,[16],[],false⟩
def z7z:List ROp:=[⟨.mv (.t 4),some 9,none,[],[]⟩,⟨.bin .add (.t 9) (.c (.int .i64 1)),some 10,none,[],[]⟩,⟨.mv (.t 10),some 4,none,[],[]⟩]
def zm3:Reg:=⟨[],z7z,[],[],false⟩
def zfv:IR:=(.seq (.seq (.reg zm5)
 (.cond (.t 8) .skip
 (.exit 0)))
 (.seq (.block 1 (.reg zm4))
 (.reg zm3)))
def zm2:Reg:=⟨[],[⟨.mv (.t 3),some 18,none,[],[]⟩,⟨.mv (.t 18),some 2,none,[],[]⟩],[],[],false⟩
def zx7:IR:=(.seq (.reg zm8)
 (.seq (.reg zm7)
 (.seq (.seq (.reg zm6)
 (.block 0 (.loop zfv)))
 (.seq (.reg zm2)
 .ret))))
def zk8:List RDesc:=[(.tmp 2)]
theorem yb8:EqR zm8 [⟨.mv (.c (.int .i64 0)),some 2,none,[],[]⟩] []:=fun _ _ _=>rfl
theorem yb7:EqR zm7 [⟨.mv (.c (.int .i64 0)),some 3,none,[],[]⟩] []:=fun _ _ _=>rfl
theorem yb6:EqR zm6 [⟨.mv (.c (.int .i64 0)),some 4,none,[],[]⟩] []:=fun _ _ _=>rfl
theorem yb5:EqR zm5 z81 []:=fun _ _ _=>rfl
theorem yb4:EqR zm4 z80 [16]:=fun _ _ _=>rfl
theorem yb3:EqR zm3 z7z []:=fun _ _ _=>rfl
theorem yb2:EqR zm2 [⟨.mv (.t 3),some 18,none,[],[]⟩,⟨.mv (.t 18),some 2,none,[],[]⟩] []:=fun _ _ _=>rfl
theorem fn_r18Size {args:List AV} {r:AV} (ha:args.length.ble Tryz.f82.ntmps = true) (h:run (AFn Tryz.prog) zx7 (endQ zk8 r) (z0b args)):AFn Tryz.prog 82 args r :=
 AFn.of_code (pv:=false) (hint:=fun _=>[]) (c:=Tryz.f82.body.getD .skip) (by kernel_rfl) (by kernel_rfl) Tryz.func82 (by kernel_rfl) (by kernel_rfl) (by kernel_rfl) (of_decide_eq_true (by kernel_rfl)) (Nat.le_of_ble_eq_true ha) (Nat.le_of_ble_eq_true (by kernel_rfl)) (z0c h)
attribute [local go_sem ↓] yfo
attribute [local go_sem] y0f e_rSize_0 e_rSize_1 zhy e_rSize_2 e_rSize_3 zhx
attribute [local go_sem ↓] zx7
attribute [local go_sem] zk8 yb8 yb7 yb6 yb5 z81 yb4 z80 yb3 z7z yb2
def KOk (l:List Msg):Prop:=l.length≤1000000∧∀ m,m ∈ l->m.key.size≤1000000∧m.hi.size≤1000000∧m.val.size≤1000000
theorem refSize (m:Msg) (h1:m.key.size≤1000000) (h2:m.val.size≤1000000):AFn Tryz.prog 95 [m.a] (.int .i64 (m.size:Int)):=by
 refine fn_rSize rfl ?_
 cases h:(m.kind == 4) with
 | true =>
  have h':m.kind = 4:=by simpa using h
  simp (maxSteps:=9^7) only [go_sem,↓reduceIte,reduceCtorEq,Nat.reduceEqDiff,Nat.reduceBEq,Nat.reduceAdd,Nat.reduceSub,Nat.reduceMul,Nat.reduceLT,Nat.reduceLeDiff,Nat.reduceBNe,Int.reduceBEq,Int.reduceBNe,Int.reduceLT,Int.reduceLE,Spn.a,Msg.a,Eff.a,h]
  simp [Msg.size,h']
 | false =>
  have h':m.kind ≠ 4:=by simpa using h
  have w1:IntKind.i64.wrap (4 + (m.key.size:Int)) = 4 + (m.key.size:Int):=IntWalk.i64_in _ (by omega)
  have w2:IntKind.i64.wrap (4 + (m.key.size:Int) + (m.val.size:Int)) = 4 + (m.key.size:Int) + (m.val.size:Int):=IntWalk.i64_in _ (by omega)
  simp (maxSteps:=9^7) only [go_sem,↓reduceIte,reduceCtorEq,Nat.reduceEqDiff,Nat.reduceBEq,Nat.reduceAdd,Nat.reduceSub,Nat.reduceMul,Nat.reduceLT,Nat.reduceLeDiff,Nat.reduceBNe,Int.reduceBEq,Int.reduceBNe,Int.reduceLT,Int.reduceLE,Spn.a,Msg.a,Eff.a,h,w1,w2]
  simp [Msg.size,h']
theorem take_one {l:List Msg} {j:Nat} {x:Msg} (hx:l[j]? = some x):l.take (j + 1) = l.take j ++ [x]:=by
 rw [List.take_add_one,hx]; rfl
theorem size_le (m:Msg) (h1:m.key.size≤1000000) (h2:m.val.size≤1000000):m.size≤2000036:=by
 unfold Msg.size; split <;> omega
theorem ycm:∀ {l:List Msg},(∀ m,m ∈ l->m.key.size≤1000000∧m.hi.size≤1000000∧m.val.size≤1000000)->z32 l≤l.length * 2000036
 | [],_=>Nat.zero_le _
 | m :: l,h=>by
  rw [z2a,List.length_cons]
  have h1:=ycm (l:=l) fun x hx=>h x (List.mem_cons_of_mem _ hx)
  have h2:=size_le m (h m (List.mem_cons_self ..)).1 (h m (List.mem_cons_self ..)).2.2
  omega
theorem sizes_take {l:List Msg} (h:KOk l) (j:Nat):z32 (l.take j)≤2000036000000:=by
 have h1:=ycm (l:=l.take j) fun x hx=>h.2 x (List.mem_of_mem_take hx)
 have h2:=h.1
 have h3:(l.take j).length≤l.length:=by rw [List.length_take]; omega
 omega
def szInv (l:List Msg) (k:Nat) (σ:St):Prop :=
 ∃ j:Nat,j≤l.length∧k = l.length - j∧σ.T 0 = .sl (l.map Msg.a)∧σ.T 3 = .int .i64 ((z32 (l.take j):Nat):Int)∧σ.T 4 = .int .i64 j
theorem ref18Size (l:List Msg) (hl:KOk l):AFn Tryz.prog 82 [.sl (l.map Msg.a)] (.int .i64 (z32 l:Int)):=by
 refine fn_r18Size rfl ?_
 simp (maxSteps:=9^7) only [go_sem,↓reduceIte,reduceCtorEq,Nat.reduceEqDiff,Nat.reduceBEq,Nat.reduceAdd,Nat.reduceSub,Nat.reduceMul,Nat.reduceLT,Nat.reduceLeDiff,Nat.reduceBNe,Int.reduceBEq,Int.reduceBNe,Int.reduceLT,Int.reduceLE,Spn.a,Msg.a,Eff.a]
 refine z0d (szInv l) (k:=l.length) ⟨0,by omega,rfl,?_,?_,?_⟩ ?_
 ·simp (maxSteps:=9^7) only [go_sem,↓reduceIte,reduceCtorEq,Nat.reduceEqDiff,Nat.reduceBEq,Nat.reduceAdd,Nat.reduceSub,Nat.reduceMul,Nat.reduceLT,Nat.reduceLeDiff,Nat.reduceBNe,Int.reduceBEq,Int.reduceBNe,Int.reduceLT,Int.reduceLE,Spn.a,Msg.a,Eff.a]
 ·simp (maxSteps:=9^7) only [go_sem,↓reduceIte,reduceCtorEq,Nat.reduceEqDiff,Nat.reduceBEq,Nat.reduceAdd,Nat.reduceSub,Nat.reduceMul,Nat.reduceLT,Nat.reduceLeDiff,Nat.reduceBNe,Int.reduceBEq,Int.reduceBNe,Int.reduceLT,Int.reduceLE,Spn.a,Msg.a,Eff.a]
  rfl
 ·simp (maxSteps:=9^7) only [go_sem,↓reduceIte,reduceCtorEq,Nat.reduceEqDiff,Nat.reduceBEq,Nat.reduceAdd,Nat.reduceSub,Nat.reduceMul,Nat.reduceLT,Nat.reduceLeDiff,Nat.reduceBNe,Int.reduceBEq,Int.reduceBNe,Int.reduceLT,Int.reduceLE,Spn.a,Msg.a,Eff.a]
  rfl
 rintro k σ ⟨j,hj,rfl,t0,t3,t4⟩
 simp only [zfv]
 by_cases hlt:j < l.length
 ·have hlt':(j:Int) < (l.length:Int):=by omega
  obtain ⟨x,hx⟩:=getM hlt
  have hm:=hl.2 x (List.mem_of_getElem? hx)
  have hw:=wS (j:=j) (by have:=hl.1; omega)
  have hw2:IntKind.i64.wrap (((z32 (l.take j):Nat):Int) + (x.size:Int)) = ((z32 (l.take (j + 1)):Nat):Int):=by
   rw [IntWalk.i64_in _ (by have:=sizes_take hl j; have:=size_le x hm.1 hm.2.2; omega),take_one hx,z5y,z2a]; simp [z32]
  simp (maxSteps:=9^7) only [go_sem,↓reduceIte,reduceCtorEq,Nat.reduceEqDiff,Nat.reduceBEq,Nat.reduceAdd,Nat.reduceSub,Nat.reduceMul,Nat.reduceLT,Nat.reduceLeDiff,Nat.reduceBNe,Int.reduceBEq,Int.reduceBNe,Int.reduceLT,Int.reduceLE,Spn.a,Msg.a,Eff.a,t0,t3,t4,hlt',gM hx,List.length_map,Int.toNat_natCast]
  refine ⟨by omega,?_⟩
  (first | refine z01 (refSize x hm.1 hm.2.2) ?_ | refine z00 (refSize x hm.1 hm.2.2) ?_)
  simp (maxSteps:=9^7) only [go_sem,↓reduceIte,reduceCtorEq,Nat.reduceEqDiff,Nat.reduceBEq,Nat.reduceAdd,Nat.reduceSub,Nat.reduceMul,Nat.reduceLT,Nat.reduceLeDiff,Nat.reduceBNe,Int.reduceBEq,Int.reduceBNe,Int.reduceLT,Int.reduceLE,Spn.a,Msg.a,Eff.a,t0,t3,t4,hw,hw2]
  refine ⟨l.length - (j + 1),by omega,j + 1,by omega,rfl,?_,?_,?_⟩ <;>
   (simp (maxSteps:=9^7) only [go_sem,↓reduceIte,reduceCtorEq,Nat.reduceEqDiff,Nat.reduceBEq,Nat.reduceAdd,Nat.reduceSub,Nat.reduceMul,Nat.reduceLT,Nat.reduceLeDiff,Nat.reduceBNe,Int.reduceBEq,Int.reduceBNe,Int.reduceLT,Int.reduceLE,Spn.a,Msg.a,Eff.a,t0,t3,t4,hw,hw2])
 ·have hlt':¬ (j:Int) < (l.length:Int):=by omega
  simp (maxSteps:=9^7) only [go_sem,↓reduceIte,reduceCtorEq,Nat.reduceEqDiff,Nat.reduceBEq,Nat.reduceAdd,Nat.reduceSub,Nat.reduceMul,Nat.reduceLT,Nat.reduceLeDiff,Nat.reduceBNe,Int.reduceBEq,Int.reduceBNe,Int.reduceLT,Int.reduceLE,Spn.a,Msg.a,Eff.a,t0,t3,t4,hlt',List.length_map]
  rw [List.take_of_length_le (by omega)]
end
end Go.Proofs.YthpbokjnfloeoaaGreatDoor
