/-
  Part 12 of a proof: SqK, TeA, TeB.
-/
import Derived.Test.YtkfciapeikkmfaaDoorST11
set_option linter.unusedVariables false
set_option linter.unusedSimpArgs false
set_option maxRecDepth 100000
namespace Go.Proofs.YtkfciapeikkmfaaDoor
attribute [local go_sem] Spn.a Msg.a
section
open Go.RowKit
attribute [local go_sem ↓] z1m z0h
theorem gM {l:List Msg} {j:Nat} {x:Msg} (hx:l[j]? = some x):(l.map Msg.a).getD j .und = .agg [.int .i64 x.stamp,.int .i64 x.kind,.str x.key,.str x.hi,.bool x.op,.str x.val]:=by
 rw [List.getD_eq_getElem?_getD,List.getElem?_map,hx]; rfl
theorem wS {j:Nat} (h:j≤1000000000000):IntKind.i64.wrap ((j:Int) + 1) = ((j + 1:Nat):Int):=by rw [IntWalk.i64_in _ (by omega)]; rfl
theorem getM {l:List Msg} {j:Nat} (h:j < l.length):∃ x,l[j]? = some x:=⟨_,List.getElem?_eq_getElem h⟩
def zxz:Reg:=⟨[],[⟨.box 6 78 (.t 0),some 1,none,[],[]⟩,⟨.mv (.c (.int .i64 0)),some 2,none,[],[]⟩],[1],[],false⟩
def zgi:List ROp:=[⟨.faddr 1 (.t 1),some 3,none,[],[]⟩,⟨.load 1 false (.t 3),some 4,none,[],[]⟩,⟨.bin .eql (.t 4) (.c (.int .i64 4)),some 5,none,[],[]⟩]
def zxy:Reg:=⟨[],zgi,[],[],false⟩
def zxx:Reg:=⟨[],[⟨.mv (.c (.int .i64 36)),some 2,none,[],[]⟩],[],[],false⟩
def zgh:List ROp:=[⟨.faddr 2 (.t 1),some 6,none,[],[]⟩,⟨.load 1 false (.t 6),some 7,none,[],[]⟩,⟨.len true (.t 7),some 8,none,[],[]⟩,⟨.bin .add (.c (.int .i64 4)) (.t 8),some 9,none,[],[]⟩,⟨.faddr 5 (.t 1),some 10,none,[],[]⟩,⟨.load 1 false (.t 10),some 11,none,[],[]⟩,⟨.len true (.t 11),some 12,none,[],[]⟩,⟨.bin .add (.t 9) (.t 12),some 13,none,[],[]⟩,⟨.mv (.t 13),some 2,none,[],[]⟩]
def zxw:Reg:=⟨[],zgh,[],[],false⟩
def y8k:IR:=(.seq (.reg zxz)
 (.seq (.seq (.reg zxy)
 (.cond (.t 5) (.seq (.reg zxx)
 .ret)
 .skip))
 (.seq (.reg zxw)
 .ret)))
def zwf:List RDesc:=[(.tmp 2)]
theorem e_rSize_0:EqR zxz [⟨.box 6 78 (.t 0),some 1,none,[],[]⟩,⟨.mv (.c (.int .i64 0)),some 2,none,[],[]⟩] [1]:=fun _ _ _=>rfl
theorem e_rSize_1:EqR zxy zgi []:=fun _ _ _=>rfl
theorem e_rSize_2:EqR zxx [⟨.mv (.c (.int .i64 36)),some 2,none,[],[]⟩] []:=fun _ _ _=>rfl
theorem e_rSize_3:EqR zxw zgh []:=fun _ _ _=>rfl
theorem fn_rSize {args:List AV} {r:AV} (ha:args.length.ble Tryd.f87.ntmps = true) (h:run (AFn Tryd.prog) y8k (endQ zwf r) (z0a args)):AFn Tryd.prog 87 args r :=
 AFn.of_code (pv:=false) (hint:=fun _=>[]) (c:=Tryd.f87.body.getD .skip) (by kernel_rfl) (by kernel_rfl) Tryd.func87 (by kernel_rfl) (by kernel_rfl) (by kernel_rfl) (of_decide_eq_true (by kernel_rfl)) (Nat.le_of_ble_eq_true ha) (Nat.le_of_ble_eq_true (by kernel_rfl)) (z0b h)
def zkd:Reg:=⟨[],[⟨.mv (.c (.int .i64 0)),some 2,none,[],[]⟩],[],[],false⟩
def zkc:Reg:=⟨[],[⟨.mv (.c (.int .i64 0)),some 3,none,[],[]⟩],[],[],false⟩
def zkb:Reg:=⟨[],[⟨.mv (.c (.int .i64 0)),some 4,none,[],[]⟩],[],[],false⟩
def z81:List ROp:=[⟨.mv (.t 4),some 5,none,[],[]⟩,⟨.mv (.t 0),some 6,none,[],[]⟩,⟨.len false (.t 6),some 7,none,[],[]⟩,⟨.bin .lss (.t 5) (.t 7),some 8,none,[],[]⟩]
def zka:Reg:=⟨[],z81,[],[],false⟩
def z80:List ROp:=[⟨.mv (.t 3),some 11,none,[16],[]⟩,⟨.mv (.t 0),some 12,none,[16],[]⟩,⟨.mv (.t 4),some 13,none,[16],[]⟩,⟨.iaddr 6 (.t 12) (.t 13),some 14,none,[16],[]⟩,⟨.load 6 true (.t 14),some 15,none,[16],[]⟩,⟨.callv (.c (.clo 87 [] [])) [(.t 15)],some 16,none,[],[]⟩,⟨.bin .add (.t 11) (.t 16),some 17,none,[],[]⟩,⟨.mv (.t 17),some 3,none,[],[]⟩]
def zk9:Reg:=⟨[],z80,[16],[],false⟩
def z7z:List ROp:=[⟨.mv (.t 4),some 9,none,[],[]⟩,⟨.bin .add (.t 9) (.c (.int .i64 1)),some 10,none,[],[]⟩,⟨.mv (.t 10),some 4,none,[],[]⟩]
def zk8:Reg:=⟨[],z7z,[],[],false⟩
def zeh:IR:=(.seq (.seq (.reg zka)
 (.cond (.t 8) .skip
 (.exit 0)))
 (.seq (.block 1 (.reg zk9))
 (.reg zk8)))
def zk7:Reg:=⟨[],[⟨.mv (.t 3),some 18,none,[],[]⟩,⟨.mv (.t 18),some 2,none,[],[]⟩],[],[],false⟩
def ztn:IR:=(.seq (.reg zkd)
 (.seq (.reg zkc)
 (.seq (.seq (.reg zkb)
 (.block 0 (.loop zeh)))
 (.seq (.reg zk7)
 .ret))))
def zic:List RDesc:=[(.tmp 2)]
theorem y5d:EqR zkd [⟨.mv (.c (.int .i64 0)),some 2,none,[],[]⟩] []:=fun _ _ _=>rfl
theorem y5c:EqR zkc [⟨.mv (.c (.int .i64 0)),some 3,none,[],[]⟩] []:=fun _ _ _=>rfl
theorem y5b:EqR zkb [⟨.mv (.c (.int .i64 0)),some 4,none,[],[]⟩] []:=fun _ _ _=>rfl
theorem y5a:EqR zka z81 []:=fun _ _ _=>rfl
theorem y59:EqR zk9 z80 [16]:=fun _ _ _=>rfl
theorem y58:EqR zk8 z7z []:=fun _ _ _=>rfl
theorem y57:EqR zk7 [⟨.mv (.t 3),some 18,none,[],[]⟩,⟨.mv (.t 18),some 2,none,[],[]⟩] []:=fun _ _ _=>rfl
theorem fn_r18Size {args:List AV} {r:AV} (ha:args.length.ble Tryd.f80.ntmps = true) (h:run (AFn Tryd.prog) ztn (endQ zic r) (z0a args)):AFn Tryd.prog 80 args r :=
 AFn.of_code (pv:=false) (hint:=fun _=>[]) (c:=Tryd.f80.body.getD .skip) (by kernel_rfl) (by kernel_rfl) Tryd.func80 (by kernel_rfl) (by kernel_rfl) (by kernel_rfl) (of_decide_eq_true (by kernel_rfl)) (Nat.le_of_ble_eq_true ha) (Nat.le_of_ble_eq_true (by kernel_rfl)) (z0b h)
attribute [local go_sem ↓] y8k
attribute [local go_sem] zwf e_rSize_0 e_rSize_1 zgi e_rSize_2 e_rSize_3 zgh
attribute [local go_sem ↓] ztn
attribute [local go_sem] zic y5d y5c y5b y5a z81 y59 z80 y58 z7z y57
def KOk (l:List Msg):Prop:=l.length≤1000000∧∀ m,m ∈ l->m.key.size≤1000000∧m.hi.size≤1000000∧m.val.size≤1000000
theorem refSize (m:Msg) (h1:m.key.size≤1000000) (h2:m.val.size≤1000000):AFn Tryd.prog 87 [m.a] (.int .i64 (m.size:Int)):=by
 refine fn_rSize rfl ?_
 cases h:(m.kind == 4) with
 | true =>
  have h':m.kind = 4:=by simpa using h
  simp (maxSteps:=9^7) only [go_sem,↓reduceIte,reduceCtorEq,Nat.reduceEqDiff,Nat.reduceBEq,Nat.reduceAdd,Nat.reduceSub,Nat.reduceMul,Nat.reduceLT,Nat.reduceLeDiff,Nat.reduceBNe,Int.reduceBEq,Int.reduceBNe,Int.reduceLT,Int.reduceLE,Eff.a,h]
  simp [Msg.size,h']
 | false =>
  have h':m.kind ≠ 4:=by simpa using h
  have w1:IntKind.i64.wrap (4 + (m.key.size:Int)) = 4 + (m.key.size:Int):=IntWalk.i64_in _ (by omega)
  have w2:IntKind.i64.wrap (4 + (m.key.size:Int) + (m.val.size:Int)) = 4 + (m.key.size:Int) + (m.val.size:Int):=IntWalk.i64_in _ (by omega)
  simp (maxSteps:=9^7) only [go_sem,↓reduceIte,reduceCtorEq,Nat.reduceEqDiff,Nat.reduceBEq,Nat.reduceAdd,Nat.reduceSub,Nat.reduceMul,Nat.reduceLT,Nat.reduceLeDiff,Nat.reduceBNe,Int.reduceBEq,Int.reduceBNe,Int.reduceLT,Int.reduceLE,Eff.a,h,w1,w2]
  simp [Msg.size,h']
theorem take_one {l:List Msg} {j:Nat} {x:Msg} (hx:l[j]? = some x):l.take (j + 1) = l.take j ++ [x]:=by
 rw [List.take_add_one,hx]; rfl
theorem size_le (m:Msg) (h1:m.key.size≤1000000) (h2:m.val.size≤1000000):m.size≤2000036:=by
 unfold Msg.size; split <;> omega
theorem y6i:∀ {l:List Msg},(∀ m,m ∈ l->m.key.size≤1000000∧m.hi.size≤1000000∧m.val.size≤1000000)->z38 l≤l.length * 2000036
 | [],_=>Nat.zero_le _
 | m :: l,h=>by
  rw [z2h,List.length_cons]
  have h1:=y6i (l:=l) fun x hx=>h x (List.mem_cons_of_mem _ hx)
  have h2:=size_le m (h m (List.mem_cons_self ..)).1 (h m (List.mem_cons_self ..)).2.2
  omega
theorem sizes_take {l:List Msg} (h:KOk l) (j:Nat):z38 (l.take j)≤2000036000000:=by
 have h1:=y6i (l:=l.take j) fun x hx=>h.2 x (List.mem_of_mem_take hx)
 have h2:=h.1
 have h3:(l.take j).length≤l.length:=by rw [List.length_take]; omega
 omega
def szInv (l:List Msg) (k:Nat) (σ:St):Prop :=
 ∃ j:Nat,j≤l.length∧k = l.length - j∧σ.T 0 = .sl (l.map Msg.a)∧σ.T 3 = .int .i64 ((z38 (l.take j):Nat):Int)∧σ.T 4 = .int .i64 j
theorem ref18Size (l:List Msg) (hl:KOk l):AFn Tryd.prog 80 [.sl (l.map Msg.a)] (.int .i64 (z38 l:Int)):=by
 refine fn_r18Size rfl ?_
 simp (maxSteps:=9^7) only [go_sem,↓reduceIte,reduceCtorEq,Nat.reduceEqDiff,Nat.reduceBEq,Nat.reduceAdd,Nat.reduceSub,Nat.reduceMul,Nat.reduceLT,Nat.reduceLeDiff,Nat.reduceBNe,Int.reduceBEq,Int.reduceBNe,Int.reduceLT,Int.reduceLE,Eff.a]
 refine z08 (szInv l) (k:=l.length) ⟨0,by omega,rfl,?_,?_,?_⟩ ?_
 ·simp (maxSteps:=9^7) only [go_sem,↓reduceIte,reduceCtorEq,Nat.reduceEqDiff,Nat.reduceBEq,Nat.reduceAdd,Nat.reduceSub,Nat.reduceMul,Nat.reduceLT,Nat.reduceLeDiff,Nat.reduceBNe,Int.reduceBEq,Int.reduceBNe,Int.reduceLT,Int.reduceLE,Eff.a]
 ·simp (maxSteps:=9^7) only [go_sem,↓reduceIte,reduceCtorEq,Nat.reduceEqDiff,Nat.reduceBEq,Nat.reduceAdd,Nat.reduceSub,Nat.reduceMul,Nat.reduceLT,Nat.reduceLeDiff,Nat.reduceBNe,Int.reduceBEq,Int.reduceBNe,Int.reduceLT,Int.reduceLE,Eff.a]
  rfl
 ·simp (maxSteps:=9^7) only [go_sem,↓reduceIte,reduceCtorEq,Nat.reduceEqDiff,Nat.reduceBEq,Nat.reduceAdd,Nat.reduceSub,Nat.reduceMul,Nat.reduceLT,Nat.reduceLeDiff,Nat.reduceBNe,Int.reduceBEq,Int.reduceBNe,Int.reduceLT,Int.reduceLE,Eff.a]
  rfl
 rintro k σ ⟨j,hj,rfl,t0,t3,t4⟩
 simp only [zeh]
 by_cases hlt:j < l.length
 ·have hlt':(j:Int) < (l.length:Int):=by omega
  obtain ⟨x,hx⟩:=getM hlt
  have hm:=hl.2 x (List.mem_of_getElem? hx)
  have hw:=wS (j:=j) (by have:=hl.1; omega)
  have hw2:IntKind.i64.wrap (((z38 (l.take j):Nat):Int) + (x.size:Int)) = ((z38 (l.take (j + 1)):Nat):Int):=by
   rw [IntWalk.i64_in _ (by have:=sizes_take hl j; have:=size_le x hm.1 hm.2.2; omega),take_one hx,z5x,z2h]; simp [z38]
  simp (maxSteps:=9^7) only [go_sem,↓reduceIte,reduceCtorEq,Nat.reduceEqDiff,Nat.reduceBEq,Nat.reduceAdd,Nat.reduceSub,Nat.reduceMul,Nat.reduceLT,Nat.reduceLeDiff,Nat.reduceBNe,Int.reduceBEq,Int.reduceBNe,Int.reduceLT,Int.reduceLE,Eff.a,t0,t3,t4,hlt',gM hx,List.length_map,Int.toNat_natCast]
  refine ⟨by omega,?_⟩
  (first | refine z01 (refSize x hm.1 hm.2.2) ?_ | refine z00 (refSize x hm.1 hm.2.2) ?_)
  simp (maxSteps:=9^7) only [go_sem,↓reduceIte,reduceCtorEq,Nat.reduceEqDiff,Nat.reduceBEq,Nat.reduceAdd,Nat.reduceSub,Nat.reduceMul,Nat.reduceLT,Nat.reduceLeDiff,Nat.reduceBNe,Int.reduceBEq,Int.reduceBNe,Int.reduceLT,Int.reduceLE,Eff.a,t0,t3,t4,hw,hw2]
  refine ⟨l.length - (j + 1),by omega,j + 1,by omega,rfl,?_,?_,?_⟩ <;>
   (simp (maxSteps:=9^7) only [go_sem,↓reduceIte,reduceCtorEq,Nat.reduceEqDiff,Nat.reduceBEq,Nat.reduceAdd,Nat.reduceSub,Nat.reduceMul,Nat.reduceLT,Nat.reduceLeDiff,Nat.reduceBNe,Int.reduceBEq,Int.reduceBNe,Int.reduceLT,Int.reduceLE,Eff.a,t0,t3,t4,hw,hw2])
 ·have hlt':¬ (j:Int) < (l.length:Int):=by omega
  simp (maxSteps:=9^7) only [go_sem,↓reduceIte,reduceCtorEq,Nat.reduceEqDiff,Nat.reduceBEq,Nat.reduceAdd,Nat.reduceSub,Nat.reduceMul,Nat.reduceLT,Nat.reduceLeDiff,Nat.reduceBNe,Int.reduceBEq,Int.reduceBNe,Int.reduceLT,Int.reduceLE,Eff.a,t0,t3,t4,hlt',List.length_map]
  rw [List.take_of_length_le (by omega)]
end
section
open Go.RowKit
attribute [local go_sem ↓] z1m z0h
def nul0:ByteArray:=⟨#[]⟩
def Nd.zero:Nd:=⟨0,0,[],[],nul0,false,0,0,[],[]⟩
def Msg.zero:Msg:=⟨0,0,nul0,nul0,false,nul0⟩
def z3v (slot:Int):Nd->Nat->List Nd->Nd × Nat
 | o,n,[]=>(o,n)
 | o,n,x :: l=>if x.slot = slot then z3v slot x (n + 1) l else z3v slot o n l
def z28 (l:List Nd) (slot:Int):Nd × Bool:=((z3v slot Nd.zero 0 l).1,decide ((z3v slot Nd.zero 0 l).2 = 1))
def zuu:List ROp:=[⟨.alloc 10 27 (.agg [(.int .i64 0),(.int .i64 0),(.sl []),(.sl []),(.str ⟨#[]⟩),(.bool false),(.int .i64 0),(.int .i64 0),(.sl []),(.sl [])]),some 4,none,[],[]⟩,⟨.mv (.c (.bool false)),some 5,none,[],[]⟩]
def y7x:Reg:=⟨[],zuu,[4],[],false⟩
def zut:List ROp:=[⟨.bld [(.int .i64 0),(.int .i64 0),(.sl []),(.sl []),(.str ⟨#[]⟩),(.bool false),(.int .i64 0),(.int .i64 0),(.sl []),(.sl [])] [],some 9,none,[6],[]⟩,⟨.alloc 10 27 (.agg [(.int .i64 0),(.int .i64 0),(.sl []),(.sl []),(.str ⟨#[]⟩),(.bool false),(.int .i64 0),(.int .i64 0),(.sl []),(.sl [])]),some 6,none,[],[]⟩,⟨.store 10 (.t 6) (.t 9),none,none,[],[]⟩]
def y7w:Reg:=⟨[],zut,[6],[],false⟩
def y7v:Reg:=⟨[],[⟨.mv (.c (.int .i64 0)),some 7,none,[],[]⟩],[],[],false⟩
def y7u:Reg:=⟨[],[⟨.mv (.c (.int .i64 0)),some 8,none,[],[]⟩],[],[],false⟩
def zus:List ROp:=[⟨.mv (.t 8),some 10,none,[],[]⟩,⟨.mv (.t 0),some 11,none,[],[]⟩,⟨.len false (.t 11),some 12,none,[],[]⟩,⟨.bin .lss (.t 10) (.t 12),some 13,none,[],[]⟩]
def y7t:Reg:=⟨[],zus,[],[],false⟩
def zur:List ROp:=[⟨.mv (.t 0),some 16,none,[],[]⟩,⟨.mv (.t 8),some 17,none,[],[]⟩,⟨.iaddr 10 (.t 16) (.t 17),some 18,none,[],[]⟩,⟨.faddr 0 (.t 18),some 19,none,[],[]⟩,⟨.load 1 false (.t 19),some 20,none,[],[]⟩,⟨.mv (.t 1),some 21,none,[],[]⟩,⟨.bin .eql (.t 20) (.t 21),some 22,none,[],[]⟩]
def y7s:Reg:=⟨[],zur,[],[],false⟩
def zuq:List ROp:=[⟨.mv (.t 0),some 23,none,[],[]⟩,⟨.mv (.t 8),some 24,none,[],[]⟩,⟨.iaddr 10 (.t 23) (.t 24),some 25,none,[],[]⟩,⟨.load 10 true (.t 25),some 26,none,[],[]⟩,⟨.store 10 (.t 6) (.t 26),none,none,[],[]⟩]
def y7r:Reg:=⟨[],zuq,[],[],false⟩
def zup:List ROp:=[⟨.mv (.t 7),some 27,none,[],[]⟩,⟨.bin .add (.t 27) (.c (.int .i64 1)),some 28,none,[],[]⟩,⟨.mv (.t 28),some 7,none,[],[]⟩]
def y7q:Reg:=⟨[],zup,[],[],false⟩
def zuo:List ROp:=[⟨.mv (.t 8),some 14,none,[],[]⟩,⟨.bin .add (.t 14) (.c (.int .i64 1)),some 15,none,[],[]⟩,⟨.mv (.t 15),some 8,none,[],[]⟩]
def y7p:Reg:=⟨[],zuo,[],[],false⟩
def y0c:IR:=(.seq (.seq (.reg y7t)
 (.cond (.t 13) .skip
 (.exit 0)))
 (.seq (.block 1 (.seq (.reg y7s)
 (.cond (.t 22) (.seq (.reg y7r)
 (.reg y7q))
 .skip)))
 (.reg y7p)))
def zhm:List ROp:=[⟨.load 10 true (.t 6),some 29,none,[],[]⟩,⟨.mv (.t 7),some 30,none,[],[]⟩,⟨.bin .eql (.t 30) (.c (.int .i64 1)),some 31,none,[],[]⟩,⟨.store 10 (.t 4) (.t 29),none,none,[],[]⟩,⟨.mv (.t 31),some 5,none,[],[]⟩]
def y0d:Reg:=⟨[],zhm,[],[],false⟩
def ir_find:IR:=(.seq (.reg y7x)
 (.seq (.reg y7w)
 (.seq (.reg y7v)
 (.seq (.seq (.reg y7u)
 (.block 0 (.loop y0c)))
 (.seq (.reg y0d)
 .ret)))))
def y6s:List RDesc:=[(.cell 4 10 true),(.tmp 5)]
theorem e_find_0:EqR y7x zuu [4]:=fun _ _ _=>rfl
theorem e_find_1:EqR y7w zut [6]:=fun _ _ _=>rfl
theorem e_find_2:EqR y7v [⟨.mv (.c (.int .i64 0)),some 7,none,[],[]⟩] []:=fun _ _ _=>rfl
theorem e_find_3:EqR y7u [⟨.mv (.c (.int .i64 0)),some 8,none,[],[]⟩] []:=fun _ _ _=>rfl
theorem e_find_4:EqR y7t zus []:=fun _ _ _=>rfl
theorem e_find_5:EqR y7s zur []:=fun _ _ _=>rfl
theorem e_find_6:EqR y7r zuq []:=fun _ _ _=>rfl
theorem e_find_7:EqR y7q zup []:=fun _ _ _=>rfl
theorem e_find_8:EqR y7p zuo []:=fun _ _ _=>rfl
theorem e_find_10:EqR y0d zhm []:=fun _ _ _=>rfl
theorem fn_find {args:List AV} {r:AV} (ha:args.length.ble Tryd.f28.ntmps = true) (h:run (AFn Tryd.prog) ir_find (endQ y6s r) (z0a args)):AFn Tryd.prog 28 args r :=
 AFn.of_code (pv:=false) (hint:=fun _=>[]) (c:=Tryd.f28.body.getD .skip) (by kernel_rfl) (by kernel_rfl) Tryd.func28 (by kernel_rfl) (by kernel_rfl) (by kernel_rfl) (of_decide_eq_true (by kernel_rfl)) (Nat.le_of_ble_eq_true ha) (Nat.le_of_ble_eq_true (by kernel_rfl)) (z0b h)
def zq6:Reg:=⟨[],[⟨.mv (.c (.bool false)),some 2,none,[],[]⟩],[],[],false⟩
def zq5:Reg:=⟨[],[⟨.mv (.c (.int .i64 1)),some 3,none,[],[]⟩],[],[],false⟩
def zbe:List ROp:=[⟨.mv (.t 3),some 4,none,[],[]⟩,⟨.mv (.t 0),some 5,none,[],[]⟩,⟨.len false (.t 5),some 6,none,[],[]⟩,⟨.bin .lss (.t 4) (.t 6),some 7,none,[],[]⟩]
def zq4:Reg:=⟨[],zbe,[],[],false⟩
def zbd:List ROp:=[⟨.callv (.c (.clo 53 [] [])) [(.t 14),(.t 18)],some 19,none,[],[]⟩,⟨.un .not (.t 19),some 20,none,[],[]⟩]
def zdj:List ROp:=[⟨.mv (.t 0),some 10,none,[19],[]⟩,⟨.mv (.t 3),some 11,none,[19],[]⟩,⟨.bin .sub (.t 11) (.c (.int .i64 1)),some 12,none,[19],[]⟩,⟨.iaddr 1 (.t 10) (.t 12),some 13,none,[19],[]⟩,⟨.load 1 false (.t 13),some 14,none,[19],[]⟩,⟨.mv (.t 0),some 15,none,[19],[]⟩,⟨.mv (.t 3),some 16,none,[19],[]⟩,⟨.iaddr 1 (.t 15) (.t 16),some 17,none,[19],[]⟩,⟨.load 1 false (.t 17),some 18,none,[19],[]⟩]
def zq3:Reg:=⟨zdj,zbd,[19],[],true⟩
def zq2:Reg:=⟨[],[⟨.mv (.c (.bool false)),some 2,none,[],[]⟩],[],[],false⟩
def zbc:List ROp:=[⟨.mv (.t 3),some 8,none,[],[]⟩,⟨.bin .add (.t 8) (.c (.int .i64 1)),some 9,none,[],[]⟩,⟨.mv (.t 9),some 3,none,[],[]⟩]
def zq1:Reg:=⟨[],zbc,[],[],false⟩
def z8l:IR:=(.seq (.seq (.reg zq4)
 (.cond (.t 7) .skip
 (.exit 0)))
 (.seq (.block 1 (.seq (.reg zq3)
 (.cond (.t 20) (.seq (.reg zq2)
 .ret)
 .skip)))
 (.reg zq1)))
def zq0:Reg:=⟨[],[⟨.mv (.c (.bool true)),some 2,none,[],[]⟩],[],[],false⟩
def y18:IR:=(.seq (.reg zq6)
 (.seq (.seq (.reg zq5)
 (.block 0 (.loop z8l)))
 (.seq (.reg zq0)
 .ret)))
def znt:List RDesc:=[(.tmp 2)]
theorem e_rising_0:EqR zq6 [⟨.mv (.c (.bool false)),some 2,none,[],[]⟩] []:=fun _ _ _=>rfl
theorem e_rising_1:EqR zq5 [⟨.mv (.c (.int .i64 1)),some 3,none,[],[]⟩] []:=fun _ _ _=>rfl
theorem e_rising_2:EqR zq4 zbe []:=fun _ _ _=>rfl
theorem e_rising_3 (C:FuncId->List AV->AV->Prop) (σ:St) (K:St->Prop):z0m C zq3 σ K = z07 C [] zbd zdj (σ.kills [19]) K:=rfl
theorem e_rising_4:EqR zq2 [⟨.mv (.c (.bool false)),some 2,none,[],[]⟩] []:=fun _ _ _=>rfl
theorem e_rising_5:EqR zq1 zbc []:=fun _ _ _=>rfl
theorem e_rising_7:EqR zq0 [⟨.mv (.c (.bool true)),some 2,none,[],[]⟩] []:=fun _ _ _=>rfl
theorem fn_rising {args:List AV} {r:AV} (ha:args.length.ble Tryd.f52.ntmps = true) (h:run (AFn Tryd.prog) y18 (endQ znt r) (z0a args)):AFn Tryd.prog 52 args r :=
 AFn.of_code (pv:=false) (hint:=fun _=>[]) (c:=Tryd.f52.body.getD .skip) (by kernel_rfl) (by kernel_rfl) Tryd.func52 (by kernel_rfl) (by kernel_rfl) (by kernel_rfl) (of_decide_eq_true (by kernel_rfl)) (Nat.le_of_ble_eq_true ha) (Nat.le_of_ble_eq_true (by kernel_rfl)) (z0b h)
def zjh:Reg:=⟨[],[⟨.mv (.c (.bool false)),some 4,none,[],[]⟩],[],[],false⟩
def z7o:List ROp:=[⟨.mv (.t 0),some 5,none,[6],[]⟩,⟨.callv (.c (.clo 52 [] [])) [(.t 5)],some 6,none,[],[]⟩,⟨.mv (.t 6),some 7,none,[],[]⟩,⟨.mv (.t 1),some 8,(some (7,true)),[],[]⟩,⟨.len false (.t 8),some 9,(some (7,true)),[],[]⟩,⟨.mv (.t 0),some 10,(some (7,true)),[],[]⟩,⟨.len false (.t 10),some 11,(some (7,true)),[],[]⟩,⟨.bin .add (.t 11) (.c (.int .i64 1)),some 12,(some (7,true)),[],[]⟩,⟨.bin .eql (.t 9) (.t 12),some 13,(some (7,true)),[],[]⟩,⟨.pick (.t 7) (.t 13) (.c (.bool false)),some 14,none,[],[]⟩,⟨.mv (.t 14),some 4,none,[],[]⟩]
def zjg:Reg:=⟨[],z7o,[6],[],false⟩
def ztk:IR:=(.seq (.reg zjh)
 (.seq (.reg zjg)
 .ret))
def zi9:List RDesc:=[(.tmp 4)]
theorem y4m:EqR zjh [⟨.mv (.c (.bool false)),some 4,none,[],[]⟩] []:=fun _ _ _=>rfl
theorem y4l:EqR zjg z7o [6]:=fun _ _ _=>rfl
theorem fn_right15 {args:List AV} {r:AV} (ha:args.length.ble Tryd.f29.ntmps = true) (h:run (AFn Tryd.prog) ztk (endQ zi9 r) (z0a args)):AFn Tryd.prog 29 args r :=
 AFn.of_code (pv:=false) (hint:=fun _=>[]) (c:=Tryd.f29.body.getD .skip) (by kernel_rfl) (by kernel_rfl) Tryd.func29 (by kernel_rfl) (by kernel_rfl) (by kernel_rfl) (of_decide_eq_true (by kernel_rfl)) (Nat.le_of_ble_eq_true ha) (Nat.le_of_ble_eq_true (by kernel_rfl)) (z0b h)
def zjr:Reg:=⟨[],[⟨.alloc 3 29 (.agg [(.str ⟨#[]⟩),(.str ⟨#[]⟩),(.bool false)]),some 4,none,[],[]⟩],[4],[],false⟩
def z7v:List ROp:=[⟨.bld [(.str ⟨#[]⟩),(.str ⟨#[]⟩),(.bool false)] [⟨2,1,(.c (.bool true))⟩],some 6,none,[5],[]⟩,⟨.alloc 3 29 (.agg [(.str ⟨#[]⟩),(.str ⟨#[]⟩),(.bool false)]),some 5,none,[],[]⟩,⟨.store 3 (.t 5) (.t 6),none,none,[],[]⟩]
def zjq:Reg:=⟨[],z7v,[5],[],false⟩
def z7u:List ROp:=[⟨.mv (.t 1),some 7,none,[],[]⟩,⟨.bin .lss (.t 7) (.c (.int .i64 0)),some 8,none,[],[]⟩,⟨.mv (.t 8),some 9,none,[],[]⟩,⟨.mv (.t 1),some 10,(some (9,false)),[],[]⟩,⟨.mv (.t 0),some 11,(some (9,false)),[],[]⟩,⟨.len false (.t 11),some 12,(some (9,false)),[],[]⟩,⟨.bin .gtr (.t 10) (.t 12),some 13,(some (9,false)),[],[]⟩,⟨.pick (.t 9) (.c (.bool true)) (.t 13),some 14,none,[],[]⟩]
def zjp:Reg:=⟨[],z7u,[],[],false⟩
def z7t:List ROp:=[⟨.bld [(.str ⟨#[]⟩),(.str ⟨#[]⟩),(.bool false)] [],some 15,none,[],[]⟩,⟨.store 3 (.t 4) (.t 15),none,none,[],[]⟩]
def zjo:Reg:=⟨[],z7t,[],[],false⟩
def zjn:Reg:=⟨[],[⟨.mv (.t 1),some 16,none,[],[]⟩,⟨.bin .gtr (.t 16) (.c (.int .i64 0)),some 17,none,[],[]⟩],[],[],false⟩
def z7s:List ROp:=[⟨.mv (.t 0),some 18,none,[],[]⟩,⟨.mv (.t 1),some 19,none,[],[]⟩,⟨.bin .sub (.t 19) (.c (.int .i64 1)),some 20,none,[],[]⟩,⟨.iaddr 1 (.t 18) (.t 20),some 21,none,[],[]⟩,⟨.load 1 false (.t 21),some 22,none,[],[]⟩,⟨.faddr 0 (.t 5),some 23,none,[],[]⟩,⟨.store 1 (.t 23) (.t 22),none,none,[],[]⟩]
def zjm:Reg:=⟨[],z7s,[],[],false⟩
def z7r:List ROp:=[⟨.mv (.t 1),some 24,none,[],[]⟩,⟨.mv (.t 0),some 25,none,[],[]⟩,⟨.len false (.t 25),some 26,none,[],[]⟩,⟨.bin .lss (.t 24) (.t 26),some 27,none,[],[]⟩]
def zjl:Reg:=⟨[],z7r,[],[],false⟩
def zjk:Reg:=⟨[],[⟨.faddr 2 (.t 5),some 28,none,[],[]⟩,⟨.store 1 (.t 28) (.c (.bool false)),none,none,[],[]⟩],[],[],false⟩
def z7q:List ROp:=[⟨.mv (.t 0),some 29,none,[],[]⟩,⟨.mv (.t 1),some 30,none,[],[]⟩,⟨.iaddr 1 (.t 29) (.t 30),some 31,none,[],[]⟩,⟨.load 1 false (.t 31),some 32,none,[],[]⟩,⟨.faddr 1 (.t 5),some 33,none,[],[]⟩,⟨.store 1 (.t 33) (.t 32),none,none,[],[]⟩]
def zjj:Reg:=⟨[],z7q,[],[],false⟩
def z7p:List ROp:=[⟨.load 3 true (.t 5),some 34,none,[35],[]⟩,⟨.callv (.c (.clo 54 [] [])) [(.t 34)],some 35,none,[],[]⟩,⟨.store 3 (.t 4) (.t 35),none,none,[],[]⟩]
def zji:Reg:=⟨[],z7p,[35],[],false⟩
def ztl:IR:=(.seq (.reg zjr)
 (.seq (.reg zjq)
 (.seq (.seq (.reg zjp)
 (.cond (.t 14) (.seq (.reg zjo)
 .ret)
 .skip))
 (.seq (.seq (.reg zjn)
 (.cond (.t 17) (.reg zjm)
 .skip))
 (.seq (.seq (.reg zjl)
 (.cond (.t 27) (.seq (.reg zjk)
 (.reg zjj))
 .skip))
 (.seq (.reg zji)
 .ret))))))
def zia:List RDesc:=[(.cell 4 3 true)]
theorem y4w:EqR zjr [⟨.alloc 3 29 (.agg [(.str ⟨#[]⟩),(.str ⟨#[]⟩),(.bool false)]),some 4,none,[],[]⟩] [4]:=fun _ _ _=>rfl
theorem y4v:EqR zjq z7v [5]:=fun _ _ _=>rfl
theorem y4u:EqR zjp z7u []:=fun _ _ _=>rfl
theorem y4t:EqR zjo z7t []:=fun _ _ _=>rfl
theorem y4s:EqR zjn [⟨.mv (.t 1),some 16,none,[],[]⟩,⟨.bin .gtr (.t 16) (.c (.int .i64 0)),some 17,none,[],[]⟩] []:=fun _ _ _=>rfl
theorem y4r:EqR zjm z7s []:=fun _ _ _=>rfl
theorem y4q:EqR zjl z7r []:=fun _ _ _=>rfl
theorem y4p:EqR zjk [⟨.faddr 2 (.t 5),some 28,none,[],[]⟩,⟨.store 1 (.t 28) (.c (.bool false)),none,none,[],[]⟩] []:=fun _ _ _=>rfl
theorem y4o:EqR zjj z7q []:=fun _ _ _=>rfl
theorem y4n:EqR zji z7p [35]:=fun _ _ _=>rfl
theorem fn_range15 {args:List AV} {r:AV} (ha:args.length.ble Tryd.f31.ntmps = true) (h:run (AFn Tryd.prog) ztl (endQ zia r) (z0a args)):AFn Tryd.prog 31 args r :=
 AFn.of_code (pv:=false) (hint:=fun _=>[]) (c:=Tryd.f31.body.getD .skip) (by kernel_rfl) (by kernel_rfl) Tryd.func31 (by kernel_rfl) (by kernel_rfl) (by kernel_rfl) (of_decide_eq_true (by kernel_rfl)) (Nat.le_of_ble_eq_true ha) (Nat.le_of_ble_eq_true (by kernel_rfl)) (z0b h)
attribute [local go_sem ↓] ir_find
attribute [local go_sem] y6s e_find_0 zuu e_find_1 zut e_find_2 e_find_3 e_find_4 zus e_find_5 zur e_find_6 zuq e_find_7 zup e_find_8 zuo e_find_10 zhm
attribute [local go_sem ↓] y18
attribute [local go_sem] znt e_rising_0 e_rising_1 e_rising_2 zbe e_rising_3 zbd zdj e_rising_4 e_rising_5 zbc e_rising_7
attribute [local go_sem ↓] ztk
attribute [local go_sem] zi9 y4m y4l z7o
attribute [local go_sem ↓] ztl
attribute [local go_sem] zia y4w y4v z7v y4u z7u y4t z7t y4s y4r z7s y4q z7r y4p y4o z7q y4n z7p
def findInv (l:List Nd) (slot:Int) (R:Nd × Nat) (k:Nat) (σ:St):Prop :=
 ∃ (j n:Nat) (o:Nd),j≤l.length∧k = l.length - j∧n≤j∧σ.T 0 = .sl (l.map Nd.a)∧σ.T 1 = .int .i64 slot∧σ.T 4 = .ptr 4 0 0∧σ.H 4 = some ⟨10,27,[Nd.zero.a],0⟩ ∧
  σ.T 6 = .ptr 6 0 0∧σ.H 6 = some ⟨10,27,[o.a],0⟩∧σ.T 7 = .int .i64 n∧σ.T 8 = .int .i64 j∧z3v slot o n (l.drop j) = R
set_option maxHeartbeats 1000000 in
theorem find_ok (l:List Nd) (slot:Int) (hl:l.length≤1000000000):AFn Tryd.prog 28 [.sl (l.map Nd.a),.int .i64 slot] (.tup [(z28 l slot).1.a,.bool (z28 l slot).2]):=by
 refine fn_find rfl ?_
 unfold z28
 obtain ⟨R,hR⟩:∃ R,z3v slot Nd.zero 0 l = R:=⟨_,rfl⟩
 rw [hR]
 simp (maxSteps:=9^7) only [go_sem,↓reduceIte,reduceCtorEq,Nat.reduceEqDiff,Nat.reduceBEq,Nat.reduceAdd,Nat.reduceSub,Nat.reduceMul,Nat.reduceLT,Nat.reduceLeDiff,Nat.reduceBNe,Int.reduceBEq,Int.reduceBNe,Int.reduceLT,Int.reduceLE,Par.a,Nd.a]
 refine z08 (findInv l slot R) (k:=l.length) ⟨0,0,Nd.zero,by omega,rfl,by omega,rfl,rfl,?_,?_,?_,?_,rfl,rfl,hR⟩ ?_
 ·simp (maxSteps:=9^7) only [go_sem,↓reduceIte,reduceCtorEq,Nat.reduceEqDiff,Nat.reduceBEq,Nat.reduceAdd,Nat.reduceSub,Nat.reduceMul,Nat.reduceLT,Nat.reduceLeDiff,Nat.reduceBNe,Int.reduceBEq,Int.reduceBNe,Int.reduceLT,Int.reduceLE,Par.a,Nd.a]
 ·simp (maxSteps:=9^7) only [go_sem,↓reduceIte,reduceCtorEq,Nat.reduceEqDiff,Nat.reduceBEq,Nat.reduceAdd,Nat.reduceSub,Nat.reduceMul,Nat.reduceLT,Nat.reduceLeDiff,Nat.reduceBNe,Int.reduceBEq,Int.reduceBNe,Int.reduceLT,Int.reduceLE,Par.a,Nd.a]; rfl
 ·simp (maxSteps:=9^7) only [go_sem,↓reduceIte,reduceCtorEq,Nat.reduceEqDiff,Nat.reduceBEq,Nat.reduceAdd,Nat.reduceSub,Nat.reduceMul,Nat.reduceLT,Nat.reduceLeDiff,Nat.reduceBNe,Int.reduceBEq,Int.reduceBNe,Int.reduceLT,Int.reduceLE,Par.a,Nd.a]
 ·simp (maxSteps:=9^7) only [go_sem,↓reduceIte,reduceCtorEq,Nat.reduceEqDiff,Nat.reduceBEq,Nat.reduceAdd,Nat.reduceSub,Nat.reduceMul,Nat.reduceLT,Nat.reduceLeDiff,Nat.reduceBNe,Int.reduceBEq,Int.reduceBNe,Int.reduceLT,Int.reduceLE,Par.a,Nd.a]; rfl
 clear hR
 rintro k σ ⟨j,n,o,hj,rfl,hn,t0,t1,t4,h4,t6,h6,t7,t8,hr⟩
 simp only [y0c]
 by_cases hlt:j < l.length
 ·have hlt':(j:Int) < (l.length:Int):=by omega
  obtain ⟨x,hx⟩:=z0f hlt
  have hgj:=z0j (f:=Nd.a) hx
  simp only [Nd.a] at hgj h6 h4
  have hw:=z1j (j:=j) (by omega)
  have hw':=z1j (j:=n) (by omega)
  rw [z0c hx,z3v] at hr
  by_cases hs:x.slot = slot
  ·have hs':(x.slot == slot) = true:=by simp [hs]
   rw [if_pos hs] at hr
   simp (maxSteps:=9^7) only [go_sem,↓reduceIte,reduceCtorEq,Nat.reduceEqDiff,Nat.reduceBEq,Nat.reduceAdd,Nat.reduceSub,Nat.reduceMul,Nat.reduceLT,Nat.reduceLeDiff,Nat.reduceBNe,Int.reduceBEq,Int.reduceBNe,Int.reduceLT,Int.reduceLE,Par.a,Nd.a,t0,t1,t4,h4,t6,h6,t7,t8,hlt',hgj,hs',List.length_map,Int.toNat_natCast,hw,hw']
   (repeat refine And.intro (by omega) ?_)
   refine ⟨l.length - (j + 1),by omega,j + 1,n + 1,x,by omega,rfl,by omega,?_,?_,?_,?_,?_,?_,?_,?_,hr⟩
   iterate 8 focus ((simp (maxSteps:=9^7) only [go_sem,↓reduceIte,reduceCtorEq,Nat.reduceEqDiff,Nat.reduceBEq,Nat.reduceAdd,Nat.reduceSub,Nat.reduceMul,Nat.reduceLT,Nat.reduceLeDiff,Nat.reduceBNe,Int.reduceBEq,Int.reduceBNe,Int.reduceLT,Int.reduceLE,Par.a,Nd.a,t0,t1,t4,h4,t6,hw',hw]) <;> rfl)
  ·have hs':(x.slot == slot) = false:=by simp [hs]
   rw [if_neg hs] at hr
   simp (maxSteps:=9^7) only [go_sem,↓reduceIte,reduceCtorEq,Nat.reduceEqDiff,Nat.reduceBEq,Nat.reduceAdd,Nat.reduceSub,Nat.reduceMul,Nat.reduceLT,Nat.reduceLeDiff,Nat.reduceBNe,Int.reduceBEq,Int.reduceBNe,Int.reduceLT,Int.reduceLE,Par.a,Nd.a,t0,t1,t4,h4,t6,h6,t7,t8,hlt',hgj,hs',List.length_map,Int.toNat_natCast,hw]
   (repeat refine And.intro (by omega) ?_)
   refine ⟨l.length - (j + 1),by omega,j + 1,n,o,by omega,rfl,by omega,?_,?_,?_,?_,?_,?_,?_,?_,hr⟩
   iterate 8 focus ((simp (maxSteps:=9^7) only [go_sem,↓reduceIte,reduceCtorEq,Nat.reduceEqDiff,Nat.reduceBEq,Nat.reduceAdd,Nat.reduceSub,Nat.reduceMul,Nat.reduceLT,Nat.reduceLeDiff,Nat.reduceBNe,Int.reduceBEq,Int.reduceBNe,Int.reduceLT,Int.reduceLE,Par.a,Nd.a,t0,t1,t4,h4,t6,h6,t7,hw]) <;> rfl)
 ·have hlt':¬ (j:Int) < (l.length:Int):=by omega
  rw [List.drop_eq_nil_of_le (by omega)] at hr
  subst hr
  simp only [Nd.a] at h4 h6
  have hd:((n:Int) == 1) = decide (n = 1):=by
   by_cases h:n = 1
   ·simp [h]
   ·rw [decide_eq_false h]; simp; omega
  simp (maxSteps:=9^7) only [go_sem,↓reduceIte,reduceCtorEq,Nat.reduceEqDiff,Nat.reduceBEq,Nat.reduceAdd,Nat.reduceSub,Nat.reduceMul,Nat.reduceLT,Nat.reduceLeDiff,Nat.reduceBNe,Int.reduceBEq,Int.reduceBNe,Int.reduceLT,Int.reduceLE,Par.a,Nd.a,t0,t1,t4,h4,t6,h6,t7,t8,hlt',List.length_map,z3v,hd]
  exact decide_eq_decide.2 Iff.rfl
def z8h:List ByteArray->Bool
 | x :: y :: l=>lt x y && z8h (y :: l)
 | _=>true
def risInv (l:List ByteArray) (R:Bool) (k:Nat) (σ:St):Prop :=
 ∃ j:Nat,1≤j∧j≤l.length∧k = l.length - j∧σ.T 0 = .sl (l.map .str)∧σ.T 3 = .int .i64 j∧z8h (l.drop (j - 1)) = R
theorem zw8 (l:List ByteArray) (hl:l.length≤1000000000) (hs:∀ x,x ∈ l->x.size≤9223372036854775807):AFn Tryd.prog 52 [.sl (l.map .str)] (.bool (z8h l)):=by
 refine fn_rising rfl ?_
 obtain ⟨R,hR⟩:∃ R,z8h l = R:=⟨_,rfl⟩
 rw [hR]
 simp (maxSteps:=9^7) only [go_sem,↓reduceIte,reduceCtorEq,Nat.reduceEqDiff,Nat.reduceBEq,Nat.reduceAdd,Nat.reduceSub,Nat.reduceMul,Nat.reduceLT,Nat.reduceLeDiff,Nat.reduceBNe,Int.reduceBEq,Int.reduceBNe,Int.reduceLT,Int.reduceLE,Par.a,Nd.a]
 by_cases h0:l.length = 0
 ·obtain rfl:l = []:=List.length_eq_zero_iff.1 h0
  subst hR
  refine z08 (fun k σ=>σ.T 0 = .sl []∧σ.T 3 = .int .i64 1) (k:=0) ⟨rfl,rfl⟩ ?_
  rintro k σ ⟨t0,t3⟩
  simp only [z8l]
  have z:¬ (1:Int) < ((0:Nat):Int):=by omega
  simp (maxSteps:=9^7) only [go_sem,↓reduceIte,reduceCtorEq,Nat.reduceEqDiff,Nat.reduceBEq,Nat.reduceAdd,Nat.reduceSub,Nat.reduceMul,Nat.reduceLT,Nat.reduceLeDiff,Nat.reduceBNe,Int.reduceBEq,Int.reduceBNe,Int.reduceLT,Int.reduceLE,Par.a,Nd.a,t0,t3,z,List.length_map,Int.ofNat_zero]
  rfl
 refine z08 (risInv l R) (k:=l.length - 1) ⟨1,by omega,by omega,rfl,rfl,rfl,hR⟩ ?_
 clear hR
 rintro k σ ⟨j,h1,hj,rfl,t0,t3,hr⟩
 simp only [z8l]
 by_cases hlt:j < l.length
 ·have hlt':(j:Int) < (l.length:Int):=by omega
  obtain ⟨y,hy⟩:=z0f hlt
  obtain ⟨x,hx⟩:=z0f (l:=l) (j:=j - 1) (by omega)
  have hgy:=z0j (f:=AV.str) hy
  have hgx:=z0j (f:=AV.str) hx
  have hw:=z1j (j:=j) (by omega)
  have hm:IntKind.i64.wrap ((j:Int) - 1) = ((j - 1:Nat):Int):=by rw [IntWalk.i64_in _ (by omega)]; omega
  have hj':((j - 1:Nat):Int) < (l.length:Int):=by omega
  have cl:=z39 x y (hs x (List.mem_of_getElem? hx)) (hs y (List.mem_of_getElem? hy))
  rw [z0c hx,show j - 1 + 1 = j by omega,z0c hy,z8h] at hr
  generalize lt x y = b at *
  cases b
  ·simp only [Bool.false_and] at hr
   subst hr
   (repeat (first | simp (maxSteps:=9^7) only [go_sem,↓reduceIte,reduceCtorEq,Nat.reduceEqDiff,Nat.reduceBEq,Nat.reduceAdd,Nat.reduceSub,Nat.reduceMul,Nat.reduceLT,Nat.reduceLeDiff,Nat.reduceBNe,Int.reduceBEq,Int.reduceBNe,Int.reduceLT,Int.reduceLE,Par.a,Nd.a,t0,t3,hlt',hgx,hgy,hm,hj',List.length_map,Int.toNat_natCast,hw] | refine z01 (cl) ?_ | refine z00 (cl) ?_ | refine And.intro (by omega) ?_ | refine And.intro (fun d hd=>by (repeat (rcases hd with rfl | hd; · exact ⟨rfl,rfl⟩)); cases hd) ?_))
  ·simp only [Bool.true_and] at hr
   (repeat (first | simp (maxSteps:=9^7) only [go_sem,↓reduceIte,reduceCtorEq,Nat.reduceEqDiff,Nat.reduceBEq,Nat.reduceAdd,Nat.reduceSub,Nat.reduceMul,Nat.reduceLT,Nat.reduceLeDiff,Nat.reduceBNe,Int.reduceBEq,Int.reduceBNe,Int.reduceLT,Int.reduceLE,Par.a,Nd.a,t0,t3,hlt',hgx,hgy,hm,hj',List.length_map,Int.toNat_natCast,hw] | refine z01 (cl) ?_ | refine z00 (cl) ?_ | refine And.intro (by omega) ?_ | refine And.intro (fun d hd=>by (repeat (rcases hd with rfl | hd; · exact ⟨rfl,rfl⟩)); cases hd) ?_))
   refine ⟨l.length - (j + 1),by omega,j + 1,by omega,by omega,rfl,?_,?_,by rw [Nat.add_sub_cancel,z0c hy]; exact hr⟩
   iterate 2 focus ((simp (maxSteps:=9^7) only [go_sem,↓reduceIte,reduceCtorEq,Nat.reduceEqDiff,Nat.reduceBEq,Nat.reduceAdd,Nat.reduceSub,Nat.reduceMul,Nat.reduceLT,Nat.reduceLeDiff,Nat.reduceBNe,Int.reduceBEq,Int.reduceBNe,Int.reduceLT,Int.reduceLE,Par.a,Nd.a,t0,hw]) <;> rfl)
 ·have hlt':¬ (j:Int) < (l.length:Int):=by omega
  obtain rfl:j = l.length:=by omega
  obtain ⟨x,hx⟩:=z0f (l:=l) (j:=l.length - 1) (by omega)
  rw [z0c hx,show l.length - 1 + 1 = l.length by omega,List.drop_eq_nil_of_le (Nat.le_refl _)] at hr
  subst hr
  simp (maxSteps:=9^7) only [go_sem,↓reduceIte,reduceCtorEq,Nat.reduceEqDiff,Nat.reduceBEq,Nat.reduceAdd,Nat.reduceSub,Nat.reduceMul,Nat.reduceLT,Nat.reduceLeDiff,Nat.reduceBNe,Int.reduceBEq,Int.reduceBNe,Int.reduceLT,Int.reduceLE,Par.a,Nd.a,t0,t3,hlt',List.length_map]
  rfl
def z60 (p:List ByteArray) (k:List Int):Bool:=z8h p && decide (k.length = p.length + 1)
theorem znm (p:List ByteArray) (k:List Int) (hp:p.length≤1000000000) (hs:∀ x,x ∈ p->x.size≤9223372036854775807):AFn Tryd.prog 29 [.sl (p.map .str),.sl (k.map (.int .i64))] (.bool (z60 p k)):=by
 refine fn_right15 rfl ?_
 have c1:=zw8 p hp hs
 have hw:=z1j (j:=p.length) (by omega)
 unfold z60
 have hd:((k.length:Int) == ((p.length + 1:Nat):Int)) = decide (k.length = p.length + 1):=by
  by_cases h:k.length = p.length + 1
  ·simp [h]
  ·rw [decide_eq_false h]; simp; omega
 generalize z8h p = b at *
 cases b
 ·(repeat (first | simp (maxSteps:=9^7) only [go_sem,↓reduceIte,reduceCtorEq,Nat.reduceEqDiff,Nat.reduceBEq,Nat.reduceAdd,Nat.reduceSub,Nat.reduceMul,Nat.reduceLT,Nat.reduceLeDiff,Nat.reduceBNe,Int.reduceBEq,Int.reduceBNe,Int.reduceLT,Int.reduceLE,Par.a,Nd.a,List.length_map] | refine z01 (c1) ?_ | refine z00 (c1) ?_ | refine And.intro (by omega) ?_ | refine And.intro (fun d hd=>by (repeat (rcases hd with rfl | hd; · exact ⟨rfl,rfl⟩)); cases hd) ?_))
 ·(repeat (first | simp (maxSteps:=9^7) only [go_sem,↓reduceIte,reduceCtorEq,Nat.reduceEqDiff,Nat.reduceBEq,Nat.reduceAdd,Nat.reduceSub,Nat.reduceMul,Nat.reduceLT,Nat.reduceLeDiff,Nat.reduceBNe,Int.reduceBEq,Int.reduceBNe,Int.reduceLT,Int.reduceLE,Par.a,Nd.a,List.length_map,hw,hd] | refine z01 (c1) ?_ | refine z00 (c1) ?_ | refine And.intro (by omega) ?_ | refine And.intro (fun d hd=>by (repeat (rcases hd with rfl | hd; · exact ⟨rfl,rfl⟩)); cases hd) ?_))
def z0y (p:List ByteArray) (j:Nat):Spn:=(⟨if j = 0 then nul0 else p.getD (j - 1) nul0,if j < p.length then p.getD j nul0 else nul0,!decide (j < p.length)⟩:Spn).norm
theorem zff {l:List ByteArray} {j:Nat} {d:ByteArray} (h:j < l.length):l.getD j d ∈ l:=by
 rw [List.getD_eq_getElem?_getD,List.getElem?_eq_getElem h]; exact List.getElem_mem h
theorem range15_ok (p:List ByteArray) (j:Nat) (hp:p.length≤1000000000) (hj:j≤p.length) (hs:∀ x,x ∈ p->x.size≤9223372036854775807):AFn Tryd.prog 31 [.sl (p.map .str),.int .i64 j] (z0y p j).a:=by
 refine fn_range15 rfl ?_
 have hget:∀ i,i < p.length->(p.map AV.str).getD i .und = .str (p.getD i nul0):=by
  intro i hi
  rw [List.getD_eq_getElem?_getD,List.getElem?_map,List.getD_eq_getElem?_getD,List.getElem?_eq_getElem hi]; rfl
 have n0:¬ (j:Int) < 0:=by omega
 have n1:¬ (p.length:Int) < (j:Int):=by omega
 have hm:j ≠ 0->IntKind.i64.wrap ((j:Int) - 1) = ((j - 1:Nat):Int):=fun h=>by rw [IntWalk.i64_in _ (by omega)]; omega
 have ok:∀ i,i < p.length->(p.getD i nul0).size≤9223372036854775807:=fun i hi=>hs _ (zff hi)
 have z:nul0.size≤9223372036854775807:=by decide
 unfold z0y
 by_cases h0:j = 0
 ·have p0:¬ (0:Int) < (j:Int):=by omega
  rw [if_pos h0]
  by_cases h1:j < p.length
  ·have q1:(j:Int) < (p.length:Int):=by omega
   have g1:=hget j h1
   rw [if_pos h1,decide_eq_true h1]
   have cN:=z50 ⟨nul0,p.getD j nul0,false⟩ ⟨z,ok j h1⟩
   generalize p.getD j nul0 = a at *
   (repeat (first | simp (maxSteps:=9^7) only [go_sem,↓reduceIte,reduceCtorEq,Nat.reduceEqDiff,Nat.reduceBEq,Nat.reduceAdd,Nat.reduceSub,Nat.reduceMul,Nat.reduceLT,Nat.reduceLeDiff,Nat.reduceBNe,Int.reduceBEq,Int.reduceBNe,Int.reduceLT,Int.reduceLE,Par.a,Nd.a,List.length_map,n0,n1,p0,q1,g1,Int.toNat_natCast] | refine z01 (cN) ?_ | refine z00 (cN) ?_ | refine And.intro (by omega) ?_ | refine And.intro (fun d hd=>by (repeat (rcases hd with rfl | hd; · exact ⟨rfl,rfl⟩)); cases hd) ?_))
   all_goals rfl
  ·have q1:¬ (j:Int) < (p.length:Int):=by omega
   rw [if_neg h1,decide_eq_false h1]
   have cN:=z50 ⟨nul0,nul0,true⟩ ⟨z,z⟩
   (repeat (first | simp (maxSteps:=9^7) only [go_sem,↓reduceIte,reduceCtorEq,Nat.reduceEqDiff,Nat.reduceBEq,Nat.reduceAdd,Nat.reduceSub,Nat.reduceMul,Nat.reduceLT,Nat.reduceLeDiff,Nat.reduceBNe,Int.reduceBEq,Int.reduceBNe,Int.reduceLT,Int.reduceLE,Par.a,Nd.a,List.length_map,n0,n1,p0,q1,Int.toNat_natCast] | refine z01 (cN) ?_ | refine z00 (cN) ?_ | refine And.intro (by omega) ?_ | refine And.intro (fun d hd=>by (repeat (rcases hd with rfl | hd; · exact ⟨rfl,rfl⟩)); cases hd) ?_))
   all_goals rfl
 ·have p0:(0:Int) < (j:Int):=by omega
  have hm:=hm h0
  have g0:=hget (j - 1) (by omega)
  have q0:((j - 1:Nat):Int) < (p.length:Int):=by omega
  have o0:=ok (j - 1) (by omega)
  rw [if_neg h0]
  by_cases h1:j < p.length
  ·have q1:(j:Int) < (p.length:Int):=by omega
   have g1:=hget j h1
   rw [if_pos h1,decide_eq_true h1]
   have cN:=z50 ⟨p.getD (j - 1) nul0,p.getD j nul0,false⟩ ⟨o0,ok j h1⟩
   generalize p.getD j nul0 = a at *
   generalize p.getD (j - 1) nul0 = b at *
   (repeat (first | simp (maxSteps:=9^7) only [go_sem,↓reduceIte,reduceCtorEq,Nat.reduceEqDiff,Nat.reduceBEq,Nat.reduceAdd,Nat.reduceSub,Nat.reduceMul,Nat.reduceLT,Nat.reduceLeDiff,Nat.reduceBNe,Int.reduceBEq,Int.reduceBNe,Int.reduceLT,Int.reduceLE,Par.a,Nd.a,List.length_map,n0,n1,p0,q0,q1,g0,g1,hm,Int.toNat_natCast] | refine z01 (cN) ?_ | refine z00 (cN) ?_ | refine And.intro (by omega) ?_ | refine And.intro (fun d hd=>by (repeat (rcases hd with rfl | hd; · exact ⟨rfl,rfl⟩)); cases hd) ?_))
   all_goals rfl
  ·have q1:¬ (j:Int) < (p.length:Int):=by omega
   rw [if_neg h1,decide_eq_false h1]
   have cN:=z50 ⟨p.getD (j - 1) nul0,nul0,true⟩ ⟨o0,z⟩
   generalize p.getD (j - 1) nul0 = b at *
   (repeat (first | simp (maxSteps:=9^7) only [go_sem,↓reduceIte,reduceCtorEq,Nat.reduceEqDiff,Nat.reduceBEq,Nat.reduceAdd,Nat.reduceSub,Nat.reduceMul,Nat.reduceLT,Nat.reduceLeDiff,Nat.reduceBNe,Int.reduceBEq,Int.reduceBNe,Int.reduceLT,Int.reduceLE,Par.a,Nd.a,List.length_map,n0,n1,p0,q0,q1,g0,hm,Int.toNat_natCast] | refine z01 (cN) ?_ | refine z00 (cN) ?_ | refine And.intro (by omega) ?_ | refine And.intro (fun d hd=>by (repeat (rcases hd with rfl | hd; · exact ⟨rfl,rfl⟩)); cases hd) ?_))
   all_goals rfl
end
section
open Go.RowKit
attribute [local go_sem ↓] z1m z0h
def zhu:List ROp:=[⟨.box 6 78 (.t 0),some 2,none,[3,4],[]⟩,⟨.box 3 29 (.t 1),some 3,none,[4],[]⟩,⟨.alloc 6 78 (.agg [(.int .i64 0),(.int .i64 0),(.str ⟨#[]⟩),(.str ⟨#[]⟩),(.bool false),(.str ⟨#[]⟩)]),some 4,none,[],[]⟩,⟨.mv (.c (.bool false)),some 5,none,[],[]⟩]
def y0m:Reg:=⟨[],zhu,[2,3,4],[],false⟩
def zma:List ROp:=[⟨.load 6 true (.t 2),some 7,none,[8,10,6],[]⟩,⟨.callv (.c (.clo 68 [] [])) [(.t 7)],some 8,none,[10,6],[]⟩,⟨.load 3 true (.t 3),some 9,none,[8,10,6],[]⟩,⟨.callv (.c (.clo 30 [] [])) [(.t 8),(.t 9)],some 10,none,[6],[]⟩,⟨.alloc 3 29 (.agg [(.str ⟨#[]⟩),(.str ⟨#[]⟩),(.bool false)]),some 6,none,[8,10],[]⟩]
def y0l:Reg:=⟨zma,[⟨.store 3 (.t 6) (.t 10),none,none,[],[6]⟩],[8,10,6],[],true⟩
def zht:List ROp:=[⟨.load 3 true (.t 6),some 11,none,[12],[]⟩,⟨.callv (.c (.clo 69 [] [])) [(.t 11)],some 12,none,[],[]⟩]
def y0k:Reg:=⟨[],zht,[12],[],false⟩
def zhs:List ROp:=[⟨.bld [(.int .i64 0),(.int .i64 0),(.str ⟨#[]⟩),(.str ⟨#[]⟩),(.bool false),(.str ⟨#[]⟩)] [],some 13,none,[],[]⟩,⟨.store 6 (.t 4) (.t 13),none,none,[],[]⟩,⟨.mv (.c (.bool false)),some 5,none,[],[]⟩]
def y0j:Reg:=⟨[],zhs,[],[],false⟩
def zhr:List ROp:=[⟨.faddr 1 (.t 2),some 14,none,[],[]⟩,⟨.load 1 false (.t 14),some 15,none,[],[]⟩,⟨.bin .eql (.t 15) (.c (.int .i64 4)),some 16,none,[],[]⟩]
def y0i:Reg:=⟨[],zhr,[],[],false⟩
def zhq:List ROp:=[⟨.faddr 0 (.t 6),some 17,none,[],[]⟩,⟨.load 1 false (.t 17),some 18,none,[],[]⟩,⟨.faddr 2 (.t 2),some 19,none,[],[]⟩,⟨.store 1 (.t 19) (.t 18),none,none,[],[]⟩]
def y0h:Reg:=⟨[],zhq,[],[],false⟩
def zhp:List ROp:=[⟨.faddr 1 (.t 6),some 20,none,[],[]⟩,⟨.load 1 false (.t 20),some 21,none,[],[]⟩,⟨.faddr 3 (.t 2),some 22,none,[],[]⟩,⟨.store 1 (.t 22) (.t 21),none,none,[],[]⟩]
def y0g:Reg:=⟨[],zhp,[],[],false⟩
def zho:List ROp:=[⟨.faddr 2 (.t 6),some 23,none,[],[]⟩,⟨.load 1 false (.t 23),some 24,none,[],[]⟩,⟨.faddr 4 (.t 2),some 25,none,[],[]⟩,⟨.store 1 (.t 25) (.t 24),none,none,[],[]⟩]
def y0f:Reg:=⟨[],zho,[],[],false⟩
def zhn:List ROp:=[⟨.load 6 true (.t 2),some 26,none,[],[]⟩,⟨.store 6 (.t 4) (.t 26),none,none,[],[]⟩,⟨.mv (.c (.bool true)),some 5,none,[],[]⟩]
def y0e:Reg:=⟨[],zhn,[],[],false⟩
def y8v:IR:=(.seq (.reg y0m)
 (.seq (.reg y0l)
 (.seq (.seq (.reg y0k)
 (.cond (.t 12) (.seq (.reg y0j)
 .ret)
 .skip))
 (.seq (.seq (.reg y0i)
 (.cond (.t 16) (.seq (.reg y0h)
 (.seq (.reg y0g)
 (.reg y0f)))
 .skip))
 (.seq (.reg y0e)
 .ret)))))
def zwq:List RDesc:=[(.cell 4 6 true),(.tmp 5)]
theorem e_clip5_0:EqR y0m zhu [2,3,4]:=fun _ _ _=>rfl
theorem e_clip5_1 (C:FuncId->List AV->AV->Prop) (σ:St) (K:St->Prop):z0m C y0l σ K = z07 C [] [⟨.store 3 (.t 6) (.t 10),none,none,[],[6]⟩] zma (σ.kills [8,10,6]) K:=rfl
theorem e_clip5_2:EqR y0k zht [12]:=fun _ _ _=>rfl
theorem e_clip5_3:EqR y0j zhs []:=fun _ _ _=>rfl
theorem e_clip5_4:EqR y0i zhr []:=fun _ _ _=>rfl
theorem e_clip5_5:EqR y0h zhq []:=fun _ _ _=>rfl
theorem e_clip5_6:EqR y0g zhp []:=fun _ _ _=>rfl
theorem e_clip5_7:EqR y0f zho []:=fun _ _ _=>rfl
theorem e_clip5_8:EqR y0e zhn []:=fun _ _ _=>rfl
theorem fn_clip5 {args:List AV} {r:AV} (ha:args.length.ble Tryd.f55.ntmps = true) (h:run (AFn Tryd.prog) y8v (endQ zwq r) (z0a args)):AFn Tryd.prog 55 args r :=
 AFn.of_code (pv:=false) (hint:=fun _=>[]) (c:=Tryd.f55.body.getD .skip) (by kernel_rfl) (by kernel_rfl) Tryd.func55 (by kernel_rfl) (by kernel_rfl) (by kernel_rfl) (of_decide_eq_true (by kernel_rfl)) (Nat.le_of_ble_eq_true ha) (Nat.le_of_ble_eq_true (by kernel_rfl)) (z0b h)
def zso:Reg:=⟨[],[⟨.box 3 29 (.t 1),some 3,none,[4],[]⟩,⟨.mknil 6 78,some 4,none,[],[]⟩],[3,4],[],false⟩
def zsn:Reg:=⟨[],[⟨.mknil 6 78,some 5,none,[],[]⟩],[5],[],false⟩
def zsm:Reg:=⟨[],[⟨.mv (.c (.int .i64 0)),some 6,none,[],[]⟩],[],[],false⟩
def zcj:List ROp:=[⟨.mv (.t 6),some 9,none,[],[]⟩,⟨.mv (.t 0),some 10,none,[],[]⟩,⟨.len false (.t 10),some 11,none,[],[]⟩,⟨.bin .lss (.t 9) (.t 11),some 12,none,[],[]⟩]
def zsl:Reg:=⟨[],zcj,[],[],false⟩
def zdr:List ROp:=[⟨.mv (.t 0),some 16,none,[21,7],[]⟩,⟨.mv (.t 6),some 17,none,[21,7],[]⟩,⟨.iaddr 6 (.t 16) (.t 17),some 18,none,[21,7],[]⟩,⟨.load 6 true (.t 18),some 19,none,[21,7],[]⟩,⟨.load 3 true (.t 3),some 20,none,[21,7],[]⟩,⟨.callv (.c (.clo 55 [] [])) [(.t 19),(.t 20)],some 21,none,[7],[]⟩,⟨.mv (.t 21),some 15,none,[7],[]⟩,⟨.ext 0 (.t 15),some 22,none,[7],[]⟩,⟨.ext 1 (.t 15),some 23,none,[7,7],[]⟩,⟨.alloc 6 78 (.agg [(.int .i64 0),(.int .i64 0),(.str ⟨#[]⟩),(.str ⟨#[]⟩),(.bool false),(.str ⟨#[]⟩)]),some 7,none,[21],[]⟩,⟨.store 6 (.t 7) (.t 22),none,none,[],[7]⟩]
def zsk:Reg:=⟨zdr,[⟨.mv (.t 23),some 8,none,[],[]⟩],[21,7],[],true⟩
def zsj:Reg:=⟨[],[⟨.mv (.t 8),some 24,none,[],[]⟩],[],[],false⟩
def zci:List ROp:=[⟨.mv (.t 5),some 25,none,[27],[]⟩,⟨.load 6 true (.t 7),some 26,none,[27],[]⟩,⟨.bsl 6 78 [(.t 26)],some 27,none,[],[]⟩,⟨.append 6 78 72 (.t 25) (.t 27),some 28,none,[],[]⟩,⟨.mv (.t 28),some 5,none,[],[]⟩]
def zsi:Reg:=⟨[],zci,[27],[],false⟩
def zch:List ROp:=[⟨.mv (.t 6),some 13,none,[],[]⟩,⟨.bin .add (.t 13) (.c (.int .i64 1)),some 14,none,[],[]⟩,⟨.mv (.t 14),some 6,none,[],[]⟩]
def zsh:Reg:=⟨[],zch,[],[],false⟩
def zl5:IR:=(.seq (.seq (.reg zsl)
 (.cond (.t 12) .skip
 (.exit 0)))
 (.seq (.block 1 (.seq (.reg zsk)
 (.seq (.reg zsj)
 (.cond (.t 24) (.reg zsi)
 .skip))))
 (.reg zsh)))
def zsg:Reg:=⟨[],[⟨.mv (.t 5),some 29,none,[],[]⟩,⟨.mv (.t 29),some 4,none,[],[]⟩],[],[],false⟩
def y1h:IR:=(.seq (.reg zso)
 (.seq (.reg zsn)
 (.seq (.seq (.reg zsm)
 (.block 0 (.loop zl5)))
 (.seq (.reg zsg)
 .ret))))
def zo2:List RDesc:=[(.tmp 4)]
theorem e_clip18_0:EqR zso [⟨.box 3 29 (.t 1),some 3,none,[4],[]⟩,⟨.mknil 6 78,some 4,none,[],[]⟩] [3,4]:=fun _ _ _=>rfl
theorem e_clip18_1:EqR zsn [⟨.mknil 6 78,some 5,none,[],[]⟩] [5]:=fun _ _ _=>rfl
theorem e_clip18_2:EqR zsm [⟨.mv (.c (.int .i64 0)),some 6,none,[],[]⟩] []:=fun _ _ _=>rfl
theorem e_clip18_3:EqR zsl zcj []:=fun _ _ _=>rfl
theorem e_clip18_4 (C:FuncId->List AV->AV->Prop) (σ:St) (K:St->Prop):z0m C zsk σ K = z07 C [] [⟨.mv (.t 23),some 8,none,[],[]⟩] zdr (σ.kills [21,7]) K:=rfl
theorem e_clip18_5:EqR zsj [⟨.mv (.t 8),some 24,none,[],[]⟩] []:=fun _ _ _=>rfl
theorem e_clip18_6:EqR zsi zci [27]:=fun _ _ _=>rfl
theorem e_clip18_7:EqR zsh zch []:=fun _ _ _=>rfl
theorem e_clip18_9:EqR zsg [⟨.mv (.t 5),some 29,none,[],[]⟩,⟨.mv (.t 29),some 4,none,[],[]⟩] []:=fun _ _ _=>rfl
theorem fn_clip18 {args:List AV} {r:AV} (ha:args.length.ble Tryd.f33.ntmps = true) (h:run (AFn Tryd.prog) y1h (endQ zo2 r) (z0a args)):AFn Tryd.prog 33 args r :=
 AFn.of_code (pv:=false) (hint:=fun _=>[]) (c:=Tryd.f33.body.getD .skip) (by kernel_rfl) (by kernel_rfl) Tryd.func33 (by kernel_rfl) (by kernel_rfl) (by kernel_rfl) (of_decide_eq_true (by kernel_rfl)) (Nat.le_of_ble_eq_true ha) (Nat.le_of_ble_eq_true (by kernel_rfl)) (z0b h)
def y00:Reg:=⟨[],[⟨.mknil 6 78,some 2,none,[],[]⟩],[2],[],false⟩
def zhg:List ROp:=[⟨.mv (.t 0),some 7,none,[9],[]⟩,⟨.len false (.t 7),some 8,none,[9],[]⟩,⟨.call 2 [(.c (.int .i64 8)),(.c (.int .i64 1)),(.c (.int .i64 3)),(.c (.int .i64 0)),(.t 8)],some 9,none,[],[]⟩,⟨.mv (.t 9),some 3,none,[],[]⟩]
def zzz:Reg:=⟨[],zhg,[9],[],false⟩
def zzy:Reg:=⟨[],[⟨.mknil 6 78,some 4,none,[],[]⟩],[4],[],false⟩
def zzx:Reg:=⟨[],[⟨.mv (.c (.int .i64 (-1))),some 5,none,[],[]⟩],[],[],false⟩
def zzw:Reg:=⟨[],[⟨.mv (.c (.int .i64 0)),some 6,none,[],[]⟩],[],[],false⟩
def zhf:List ROp:=[⟨.mv (.t 6),some 10,none,[],[]⟩,⟨.mv (.t 0),some 11,none,[],[]⟩,⟨.len false (.t 11),some 12,none,[],[]⟩,⟨.bin .lss (.t 10) (.t 12),some 13,none,[],[]⟩]
def zzv:Reg:=⟨[],zhf,[],[],false⟩
def zhe:List ROp:=[⟨.bin .lss (.t 40) (.t 51),some 52,(some (29,false)),[],[]⟩,⟨.pick (.t 29) (.c (.bool true)) (.t 52),some 53,(some (26,true)),[],[]⟩,⟨.pick (.t 26) (.t 53) (.c (.bool false)),some 54,none,[],[]⟩]
def zm9:List ROp:=[⟨.mv (.t 3),some 16,none,[],[]⟩,⟨.mv (.t 6),some 17,none,[],[]⟩,⟨.iaddr 1 (.t 16) (.t 17),some 18,none,[],[]⟩,⟨.load 1 false (.t 18),some 19,none,[],[]⟩,⟨.mv (.t 0),some 20,none,[],[]⟩,⟨.mv (.t 6),some 21,none,[],[]⟩,⟨.iaddr 1 (.t 20) (.t 21),some 22,none,[],[]⟩,⟨.load 1 false (.t 22),some 23,none,[],[]⟩,⟨.len false (.t 23),some 24,none,[],[]⟩,⟨.bin .lss (.t 19) (.t 24),some 25,none,[],[]⟩,⟨.mv (.t 25),some 26,none,[],[]⟩,⟨.mv (.t 5),some 27,(some (26,true)),[],[]⟩,⟨.bin .lss (.t 27) (.c (.int .i64 0)),some 28,(some (26,true)),[],[]⟩,⟨.mv (.t 28),some 29,(some (26,true)),[],[]⟩,⟨.mv (.t 0),some 30,(some (29,false)),[],[]⟩,⟨.mv (.t 6),some 31,(some (29,false)),[],[]⟩,⟨.iaddr 1 (.t 30) (.t 31),some 32,(some (29,false)),[],[]⟩,⟨.load 1 false (.t 32),some 33,(some (29,false)),[],[]⟩,⟨.mv (.t 3),some 34,(some (29,false)),[],[]⟩,⟨.mv (.t 6),some 35,(some (29,false)),[],[]⟩,⟨.iaddr 1 (.t 34) (.t 35),some 36,(some (29,false)),[],[]⟩,⟨.load 1 false (.t 36),some 37,(some (29,false)),[],[]⟩,⟨.iaddr 6 (.t 33) (.t 37),some 38,(some (29,false)),[],[]⟩,⟨.faddr 0 (.t 38),some 39,(some (29,false)),[],[]⟩,⟨.load 1 false (.t 39),some 40,(some (29,false)),[],[]⟩,⟨.mv (.t 0),some 41,(some (29,false)),[],[]⟩,⟨.mv (.t 5),some 42,(some (29,false)),[],[]⟩,⟨.iaddr 1 (.t 41) (.t 42),some 43,(some (29,false)),[],[]⟩,⟨.load 1 false (.t 43),some 44,(some (29,false)),[],[]⟩,⟨.mv (.t 3),some 45,(some (29,false)),[],[]⟩,⟨.mv (.t 5),some 46,(some (29,false)),[],[]⟩,⟨.iaddr 1 (.t 45) (.t 46),some 47,(some (29,false)),[],[]⟩,⟨.load 1 false (.t 47),some 48,(some (29,false)),[],[]⟩,⟨.iaddr 6 (.t 44) (.t 48),some 49,(some (29,false)),[],[]⟩,⟨.faddr 0 (.t 49),some 50,(some (29,false)),[],[]⟩,⟨.load 1 false (.t 50),some 51,(some (29,false)),[],[]⟩]
def zzu:Reg:=⟨zm9,zhe,[],[],true⟩
def zzt:Reg:=⟨[],[⟨.mv (.t 6),some 55,none,[],[]⟩,⟨.mv (.t 55),some 5,none,[],[]⟩],[],[],false⟩
def zhd:List ROp:=[⟨.mv (.t 6),some 14,none,[],[]⟩,⟨.bin .add (.t 14) (.c (.int .i64 1)),some 15,none,[],[]⟩,⟨.mv (.t 15),some 6,none,[],[]⟩]
def zzs:Reg:=⟨[],zhd,[],[],false⟩
def zd2:IR:=(.seq (.seq (.reg zzv)
 (.cond (.t 13) .skip
 (.exit 2)))
 (.seq (.block 3 (.seq (.reg zzu)
 (.cond (.t 54) (.reg zzt)
 .skip)))
 (.reg zzs)))
def zrw:Reg:=⟨[],[⟨.mv (.t 5),some 56,none,[],[]⟩,⟨.bin .lss (.t 56) (.c (.int .i64 0)),some 57,none,[],[]⟩],[],[],false⟩
def zrv:Reg:=⟨[],[⟨.mv (.t 4),some 58,none,[],[]⟩,⟨.mv (.t 58),some 2,none,[],[]⟩],[],[],false⟩
def zdo:List ROp:=[⟨.mv (.t 4),some 59,none,[70],[]⟩,⟨.mv (.t 0),some 60,none,[70],[]⟩,⟨.mv (.t 5),some 61,none,[70],[]⟩,⟨.iaddr 1 (.t 60) (.t 61),some 62,none,[70],[]⟩,⟨.load 1 false (.t 62),some 63,none,[70],[]⟩,⟨.mv (.t 3),some 64,none,[70],[]⟩,⟨.mv (.t 5),some 65,none,[70],[]⟩,⟨.iaddr 1 (.t 64) (.t 65),some 66,none,[70],[]⟩,⟨.load 1 false (.t 66),some 67,none,[70],[]⟩,⟨.iaddr 6 (.t 63) (.t 67),some 68,none,[70],[]⟩,⟨.load 6 true (.t 68),some 69,none,[70],[]⟩,⟨.bsl 6 78 [(.t 69)],some 70,none,[],[]⟩]
def zru:Reg:=⟨zdo,[⟨.append 6 78 72 (.t 59) (.t 70),some 71,none,[],[]⟩,⟨.mv (.t 71),some 4,none,[],[]⟩],[70],[],true⟩
def zc6:List ROp:=[⟨.mv (.t 3),some 72,none,[],[]⟩,⟨.mv (.t 5),some 73,none,[],[]⟩,⟨.iaddr 1 (.t 72) (.t 73),some 74,none,[],[]⟩,⟨.load 1 false (.t 74),some 75,none,[],[]⟩,⟨.bin .add (.t 75) (.c (.int .i64 1)),some 76,none,[],[]⟩,⟨.iaddr 1 (.t 72) (.t 73),some 77,none,[],[]⟩,⟨.store 1 (.t 77) (.t 76),none,none,[],[]⟩]
def zrt:Reg:=⟨[],zc6,[],[],false⟩
def zks:IR:=(.block 1 (.seq (.reg zzx)
 (.seq (.seq (.reg zzw)
 (.block 2 (.loop zd2)))
 (.seq (.seq (.reg zrw)
 (.cond (.t 57) (.seq (.reg zrv)
 .ret)
 .skip))
 (.seq (.reg zru)
 (.reg zrt))))))
def y8s:IR:=(.seq (.reg y00)
 (.seq (.reg zzz)
 (.seq (.reg zzy)
 (.block 0 (.loop zks)))))
def zwn:List RDesc:=[(.tmp 2)]
theorem e_lists_0:EqR y00 [⟨.mknil 6 78,some 2,none,[],[]⟩] [2]:=fun _ _ _=>rfl
theorem e_lists_1:EqR zzz zhg [9]:=fun _ _ _=>rfl
theorem e_lists_2:EqR zzy [⟨.mknil 6 78,some 4,none,[],[]⟩] [4]:=fun _ _ _=>rfl
theorem e_lists_3:EqR zzx [⟨.mv (.c (.int .i64 (-1))),some 5,none,[],[]⟩] []:=fun _ _ _=>rfl
theorem e_lists_4:EqR zzw [⟨.mv (.c (.int .i64 0)),some 6,none,[],[]⟩] []:=fun _ _ _=>rfl
theorem e_lists_5:EqR zzv zhf []:=fun _ _ _=>rfl
theorem e_lists_6 (C:FuncId->List AV->AV->Prop) (σ:St) (K:St->Prop):z0m C zzu σ K = z07 C [] zhe zm9 (σ.kills []) K:=rfl
theorem e_lists_7:EqR zzt [⟨.mv (.t 6),some 55,none,[],[]⟩,⟨.mv (.t 55),some 5,none,[],[]⟩] []:=fun _ _ _=>rfl
theorem e_lists_8:EqR zzs zhd []:=fun _ _ _=>rfl
theorem e_lists_10:EqR zrw [⟨.mv (.t 5),some 56,none,[],[]⟩,⟨.bin .lss (.t 56) (.c (.int .i64 0)),some 57,none,[],[]⟩] []:=fun _ _ _=>rfl
theorem e_lists_11:EqR zrv [⟨.mv (.t 4),some 58,none,[],[]⟩,⟨.mv (.t 58),some 2,none,[],[]⟩] []:=fun _ _ _=>rfl
theorem e_lists_12 (C:FuncId->List AV->AV->Prop) (σ:St) (K:St->Prop):z0m C zru σ K = z07 C [] [⟨.append 6 78 72 (.t 59) (.t 70),some 71,none,[],[]⟩,⟨.mv (.t 71),some 4,none,[],[]⟩] zdo (σ.kills [70]) K:=rfl
theorem e_lists_13:EqR zrt zc6 []:=fun _ _ _=>rfl
theorem fn_lists {args:List AV} {r:AV} (ha:args.length.ble Tryd.f32.ntmps = true) (h:run (AFn Tryd.prog) y8s (endQ zwn r) (z0a args)):AFn Tryd.prog 32 args r :=
 AFn.of_code (pv:=false) (hint:=fun _=>[]) (c:=Tryd.f32.body.getD .skip) (by kernel_rfl) (by kernel_rfl) Tryd.func32 (by kernel_rfl) (by kernel_rfl) (by kernel_rfl) (of_decide_eq_true (by kernel_rfl)) (Nat.le_of_ble_eq_true ha) (Nat.le_of_ble_eq_true (by kernel_rfl)) (z0b h)
attribute [local go_sem ↓] y8v
attribute [local go_sem] zwq e_clip5_0 zhu e_clip5_1 zma e_clip5_2 zht e_clip5_3 zhs e_clip5_4 zhr e_clip5_5 zhq e_clip5_6 zhp e_clip5_7 zho e_clip5_8 zhn
attribute [local go_sem ↓] y1h
attribute [local go_sem] zo2 e_clip18_0 e_clip18_1 e_clip18_2 e_clip18_3 zcj e_clip18_4 zdr e_clip18_5 e_clip18_6 zci e_clip18_7 zch e_clip18_9
attribute [local go_sem ↓] y8s
attribute [local go_sem] zwn e_lists_0 e_lists_1 zhg e_lists_2 e_lists_3 e_lists_4 e_lists_5 zhf e_lists_6 zhe zm9 e_lists_7 e_lists_8 zhd e_lists_10 e_lists_11 e_lists_12 zdo e_lists_13 zc6
def zmu (m:Msg) (s:Spn):Msg × Bool :=
 if (m.span.meet s).empty then (Msg.zero,false) else (if m.kind = 4 then ⟨m.stamp,m.kind,(m.span.meet s).lo,(m.span.meet s).hi,(m.span.meet s).op,m.val⟩ else m,true)
def Spn.le (s:Spn) (n:Nat):Prop:=s.lo.size≤n∧s.hi.size≤n
theorem maxS_le {a b:ByteArray} {n:Nat} (ha:a.size≤n) (hb:b.size≤n):(maxS a b).size≤n:=by unfold maxS; split <;> assumption
theorem minS_le {a b:ByteArray} {n:Nat} (ha:a.size≤n) (hb:b.size≤n):(minS a b).size≤n:=by unfold minS; split <;> assumption
theorem norm_le {s:Spn} {n:Nat} (h:s.le n):s.norm.le n:=by
 unfold Spn.norm
 split
 ·exact ⟨Nat.zero_le _,Nat.zero_le _⟩
 ·split
  ·exact ⟨h.1,Nat.zero_le _⟩
  ·exact h
theorem zv9 {a b:Spn} {n:Nat} (ha:a.le n) (hb:b.le n):(a.meet b).le n:=by
 unfold Spn.meet
 refine norm_le ⟨maxS_le ha.1 hb.1,?_⟩
 show (if a.op then b.hi else if b.op then a.hi else minS a.hi b.hi).size≤n
 split
 ·exact hb.2
 ·split
  ·exact ha.2
  ·exact minS_le ha.2 hb.2
theorem zlt {s:Spn} {n:Nat} (h:s.le n) (hn:n≤9223372036854775807):SOk s:=⟨Nat.le_trans h.1 hn,Nat.le_trans h.2 hn⟩
def Msg.le (m:Msg) (n:Nat):Prop:=m.key.size≤n∧m.hi.size≤n∧m.val.size≤n
theorem zd7 {m:Msg} {n:Nat} (h:m.le n):m.span.le (n + 1):=by
 unfold Msg.span
 split
 ·exact ⟨Nat.le_succ_of_le h.1,Nat.le_succ_of_le h.2.1⟩
 ·refine ⟨Nat.le_succ_of_le h.1,?_⟩
  show (m.key ++ (⟨#[0]⟩:ByteArray)).size≤_
  rw [ByteArray.size_append]
  exact Nat.add_le_add_right h.1 1
theorem clip5_ok (m:Msg) (s:Spn) (n:Nat) (hn:n≤1000000000) (hm:m.le n) (hs:s.le n):AFn Tryd.prog 55 [m.a,s.a] (.tup [(zmu m s).1.a,.bool (zmu m s).2]):=by
 refine fn_clip5 rfl ?_
 have c1:=zig m (by have:=hm.1; omega)
 have l1:=zd7 hm
 have l2:s.le (n + 1):=⟨Nat.le_succ_of_le hs.1,Nat.le_succ_of_le hs.2⟩
 have c2:=y36 m.span s (zlt l1 (by omega)) (zlt l2 (by omega))
 have c3:=z43 (m.span.meet s) (zlt (zv9 l1 l2) (by omega))
 unfold zmu
 generalize m.span.meet s = x at *
 generalize m.span = sp at *
 generalize hb:x.empty = b at *
 obtain ⟨lo,hi,op⟩:=x
 obtain ⟨stamp,kind,key,mhi,mop,val⟩:=m
 cases b
 ·by_cases h4:kind = 4
  ·have h4':(kind == 4) = true:=by simp [h4]
   subst h4
   simp only [Bool.false_eq_true,if_false,if_true]
   (repeat (first | simp (maxSteps:=9^7) only [go_sem,↓reduceIte,reduceCtorEq,Nat.reduceEqDiff,Nat.reduceBEq,Nat.reduceAdd,Nat.reduceSub,Nat.reduceMul,Nat.reduceLT,Nat.reduceLeDiff,Nat.reduceBNe,Int.reduceBEq,Int.reduceBNe,Int.reduceLT,Int.reduceLE,Par.a,Nd.a,h4'] | refine z01 (c1) ?_ | refine z00 (c1) ?_ | refine z01 (c2) ?_ | refine z00 (c2) ?_ | refine z01 (c3) ?_ | refine z00 (c3) ?_ | refine And.intro (by omega) ?_ | refine And.intro (fun d hd=>by (repeat (rcases hd with rfl | hd; · exact ⟨rfl,rfl⟩)); cases hd) ?_))
  ·have h4':(kind == 4) = false:=by simp [h4]
   simp only [Bool.false_eq_true,if_false,if_neg h4]
   (repeat (first | simp (maxSteps:=9^7) only [go_sem,↓reduceIte,reduceCtorEq,Nat.reduceEqDiff,Nat.reduceBEq,Nat.reduceAdd,Nat.reduceSub,Nat.reduceMul,Nat.reduceLT,Nat.reduceLeDiff,Nat.reduceBNe,Int.reduceBEq,Int.reduceBNe,Int.reduceLT,Int.reduceLE,Par.a,Nd.a,h4'] | refine z01 (c1) ?_ | refine z00 (c1) ?_ | refine z01 (c2) ?_ | refine z00 (c2) ?_ | refine z01 (c3) ?_ | refine z00 (c3) ?_ | refine And.intro (by omega) ?_ | refine And.intro (fun d hd=>by (repeat (rcases hd with rfl | hd; · exact ⟨rfl,rfl⟩)); cases hd) ?_))
 ·simp only [if_true]
  (repeat (first | simp (maxSteps:=9^7) only [go_sem,↓reduceIte,reduceCtorEq,Nat.reduceEqDiff,Nat.reduceBEq,Nat.reduceAdd,Nat.reduceSub,Nat.reduceMul,Nat.reduceLT,Nat.reduceLeDiff,Nat.reduceBNe,Int.reduceBEq,Int.reduceBNe,Int.reduceLT,Int.reduceLE,Par.a,Nd.a] | refine z01 (c1) ?_ | refine z00 (c1) ?_ | refine z01 (c2) ?_ | refine z00 (c2) ?_ | refine z01 (c3) ?_ | refine z00 (c3) ?_ | refine And.intro (by omega) ?_ | refine And.intro (fun d hd=>by (repeat (rcases hd with rfl | hd; · exact ⟨rfl,rfl⟩)); cases hd) ?_))
  all_goals first | rfl | exact ⟨rfl,rfl,rfl,rfl,rfl,rfl⟩
def z6y (l:List Msg) (s:Spn):List Msg:=l.filterMap fun m=>if (zmu m s).2 then some (zmu m s).1 else none
def clipInv (l:List Msg) (s:Spn) (k:Nat) (σ:St):Prop :=
 ∃ (j:Nat) (out:List Msg),j≤l.length∧k = l.length - j∧out.length≤j∧σ.T 0 = .sl (l.map Msg.a)∧σ.T 3 = .ptr 3 0 0∧σ.H 3 = some ⟨3,29,[s.a],0⟩∧σ.T 5 = .rs 5 0 out.length∧σ.H 5 = some ⟨6,78,out.map Msg.a,0⟩∧σ.T 6 = .int .i64 j ∧
  out ++ z6y (l.drop j) s = z6y l s
theorem clipL_cons (m:Msg) (l:List Msg) (s:Spn):z6y (m :: l) s = (if (zmu m s).2 then [(zmu m s).1] else []) ++ z6y l s:=by
 unfold z6y
 rw [List.filterMap_cons]
 cases (zmu m s).2 <;> rfl
theorem z9y:∀ (l:List Msg) (s:Spn),(z6y l s).length≤l.length:=fun l s=>List.length_filterMap_le _ l
set_option maxHeartbeats 1000000 in
theorem y2d (l:List Msg) (s:Spn) (n:Nat) (hn:n≤1000000000) (hl:l.length≤1000000) (hm:∀ m,m ∈ l->m.le n) (hs:s.le n):AFn Tryd.prog 33 [.sl (l.map Msg.a),s.a] (.own 6 78 ((z6y l s).map Msg.a)):=by
 refine fn_clip18 rfl ?_
 obtain ⟨lo,hi,op⟩:=s
 simp (maxSteps:=9^7) only [go_sem,↓reduceIte,reduceCtorEq,Nat.reduceEqDiff,Nat.reduceBEq,Nat.reduceAdd,Nat.reduceSub,Nat.reduceMul,Nat.reduceLT,Nat.reduceLeDiff,Nat.reduceBNe,Int.reduceBEq,Int.reduceBNe,Int.reduceLT,Int.reduceLE,Par.a,Nd.a]
 refine z08 (clipInv l ⟨lo,hi,op⟩) (k:=l.length) ⟨0,[],by omega,rfl,by simp,rfl,?_,?_,?_,?_,rfl,rfl⟩ ?_
 iterate 4 focus ((simp (maxSteps:=9^7) only [go_sem,↓reduceIte,reduceCtorEq,Nat.reduceEqDiff,Nat.reduceBEq,Nat.reduceAdd,Nat.reduceSub,Nat.reduceMul,Nat.reduceLT,Nat.reduceLeDiff,Nat.reduceBNe,Int.reduceBEq,Int.reduceBNe,Int.reduceLT,Int.reduceLE,Par.a,Nd.a]) <;> rfl)
 rintro k σ ⟨j,out,hj,rfl,ho,t0,t3,h3,t5,h5,t6,hr⟩
 simp only [zl5]
 by_cases hlt:j < l.length
 ·have hlt':(j:Int) < (l.length:Int):=by omega
  obtain ⟨x,hx⟩:=z0f hlt
  have hgj:=z0j (f:=Msg.a) hx
  have hw:=z1j (j:=j) (by omega)
  have cc:=clip5_ok x ⟨lo,hi,op⟩ n hn (hm x (List.mem_of_getElem? hx)) hs
  rw [z0c hx,clipL_cons] at hr
  have ht:List.take out.length (out.map Msg.a) = out.map Msg.a:=List.take_of_length_le (by rw [List.length_map]; exact Nat.le_refl _)
  obtain ⟨y,b,hyb⟩:∃ y b,zmu x ⟨lo,hi,op⟩ = (y,b):=⟨_,_,rfl⟩
  rw [hyb] at cc hr
  simp only at cc hr
  simp only [Msg.a,Spn.a] at hgj h3
  cases b
  ·simp only [Bool.false_eq_true,if_false,List.nil_append] at hr
   (repeat (first | simp (maxSteps:=9^7) only [go_sem,↓reduceIte,reduceCtorEq,Nat.reduceEqDiff,Nat.reduceBEq,Nat.reduceAdd,Nat.reduceSub,Nat.reduceMul,Nat.reduceLT,Nat.reduceLeDiff,Nat.reduceBNe,Int.reduceBEq,Int.reduceBNe,Int.reduceLT,Int.reduceLE,Par.a,Nd.a,t0,t3,h3,t5,h5,t6,hlt',hgj,List.length_map,Int.toNat_natCast,hw] | refine z01 (cc) ?_ | refine z00 (cc) ?_ | refine And.intro (by omega) ?_ | refine And.intro (fun d hd=>by (repeat (rcases hd with rfl | hd; · exact ⟨rfl,rfl⟩)); cases hd) ?_))
   refine ⟨l.length - (j + 1),by omega,j + 1,out,by omega,rfl,by omega,?_,?_,?_,?_,?_,?_,hr⟩
   iterate 6 focus ((simp (maxSteps:=9^7) only [go_sem,↓reduceIte,reduceCtorEq,Nat.reduceEqDiff,Nat.reduceBEq,Nat.reduceAdd,Nat.reduceSub,Nat.reduceMul,Nat.reduceLT,Nat.reduceLeDiff,Nat.reduceBNe,Int.reduceBEq,Int.reduceBNe,Int.reduceLT,Int.reduceLE,Par.a,Nd.a,t0,t3,h3,t5,h5,hw]) <;> rfl)
  ·simp only [if_true] at hr
   (repeat (first | simp (maxSteps:=9^7) only [go_sem,↓reduceIte,reduceCtorEq,Nat.reduceEqDiff,Nat.reduceBEq,Nat.reduceAdd,Nat.reduceSub,Nat.reduceMul,Nat.reduceLT,Nat.reduceLeDiff,Nat.reduceBNe,Int.reduceBEq,Int.reduceBNe,Int.reduceLT,Int.reduceLE,Par.a,Nd.a,t0,t3,h3,t5,h5,t6,hlt',hgj,List.length_map,Int.toNat_natCast,hw,ht] | refine z01 (cc) ?_ | refine z00 (cc) ?_ | refine And.intro (by omega) ?_ | refine And.intro (fun d hd=>by (repeat (rcases hd with rfl | hd; · exact ⟨rfl,rfl⟩)); cases hd) ?_ | refine And.intro (And.intro (by omega) (fun d hd=>by (repeat (rcases hd with rfl | hd; · exact ⟨rfl,rfl⟩)); cases hd)) ?_))
   refine ⟨l.length - (j + 1),by omega,j + 1,out ++ [y],by omega,rfl,by simp; omega,?_,?_,?_,?_,?_,?_,by rw [List.append_assoc]; exact hr⟩
   iterate 6 focus ((simp (maxSteps:=9^7) only [go_sem,↓reduceIte,reduceCtorEq,Nat.reduceEqDiff,Nat.reduceBEq,Nat.reduceAdd,Nat.reduceSub,Nat.reduceMul,Nat.reduceLT,Nat.reduceLeDiff,Nat.reduceBNe,Int.reduceBEq,Int.reduceBNe,Int.reduceLT,Int.reduceLE,Par.a,Nd.a,t0,t3,h3,List.length_append,List.map_append,ht,hw]) <;> rfl)
 ·have hlt':¬ (j:Int) < (l.length:Int):=by omega
  rw [List.drop_eq_nil_of_le (by omega)] at hr
  have hr':out = z6y l ⟨lo,hi,op⟩:=by rw [← hr]; exact (List.append_nil _).symm
  rw [← hr']
  simp (maxSteps:=9^7) only [go_sem,↓reduceIte,reduceCtorEq,Nat.reduceEqDiff,Nat.reduceBEq,Nat.reduceAdd,Nat.reduceSub,Nat.reduceMul,Nat.reduceLT,Nat.reduceLeDiff,Nat.reduceBNe,Int.reduceBEq,Int.reduceBNe,Int.reduceLT,Int.reduceLE,Par.a,Nd.a,t0,t3,h3,t5,h5,t6,hlt',List.length_map]
def z1t:List Msg->List Msg->List Msg
 | [],l=>l
 | l,[]=>l
 | x :: l,y :: m=>if y.stamp < x.stamp then y :: z1t (x :: l) m else x :: z1t l (y :: m)
termination_by a b=>a.length + b.length
theorem z4l (l:List Msg):z1t [] l = l:=by rw [z1t]
theorem z56 (l:List Msg):z1t l [] = l:=by
 cases l with
 | nil=>rw [z1t]
 | cons x l=>rw [z1t]; simp
theorem z8q (x y:Msg) (l m:List Msg):z1t (x :: l) (y :: m) = if y.stamp < x.stamp then y :: z1t (x :: l) m else x :: z1t l (y :: m):=by rw [z1t]
theorem zd9:∀ (n:Nat) (a b:List Msg),a.length + b.length≤n->(z1t a b).length = a.length + b.length
 | _,[],b,_=>by rw [z4l]; simp
 | _,x :: a,[],_=>by rw [z56]; simp
 | 0,x :: a,y :: b,h=>by simp at h
 | n + 1,x :: a,y :: b,h=>by
  rw [z8q]
  simp only [List.length_cons] at h
  split
  ·rw [List.length_cons,zd9 n (x :: a) b (by simp only [List.length_cons]; omega)]; simp only [List.length_cons]; omega
  ·rw [List.length_cons,zd9 n a (y :: b) (by simp only [List.length_cons]; omega)]; simp only [List.length_cons]; omega
theorem zd8:∀ (n:Nat) (a b:List Msg),a.length + b.length≤n->∀ m,m ∈ z1t a b->m ∈ a∨m ∈ b
 | _,[],b,_,m,h=>by rw [z4l] at h; exact .inr h
 | _,x :: a,[],_,m,h=>by rw [z56] at h; exact .inl h
 | 0,x :: a,y :: b,h,_,_=>by simp at h
 | n + 1,x :: a,y :: b,h,m,hm=>by
  rw [z8q] at hm
  simp only [List.length_cons] at h
  split at hm
  ·rcases List.mem_cons.1 hm with rfl | hm
   ·exact .inr (List.mem_cons_self ..)
   ·rcases zd8 n (x :: a) b (by simp only [List.length_cons]; omega) m hm with q | q
    ·exact .inl q
    ·exact .inr (List.mem_cons_of_mem _ q)
  ·rcases List.mem_cons.1 hm with rfl | hm
   ·exact .inl (List.mem_cons_self ..)
   ·rcases zd8 n a (y :: b) (by simp only [List.length_cons]; omega) m hm with q | q
    ·exact .inl (List.mem_cons_of_mem _ q)
    ·exact .inr q
def zdz (a b:List Msg):Nat->Int
 | 0=>-1
 | 1=>if a = [] then -1 else 0
 | _=>match a,b with
  | [],[]=>-1
  | [],_ :: _=>1
  | _ :: _,[]=>0
  | x :: _,y :: _=>if y.stamp < x.stamp then 1 else 0
def y8d (a b:List Msg) (p q:Nat) (out:List Msg) (k:Nat) (σ:St):Prop :=
 ∃ i:Nat,i≤2∧k = 2 - i∧σ.T 0 = .sl [.sl (a.map Msg.a),.sl (b.map Msg.a)]∧σ.T 3 = .rs 9 0 2∧σ.H 9 = some ⟨1,3,[.int .i64 p,.int .i64 q],0⟩∧σ.T 4 = .rs 4 0 out.length∧σ.H 4 = some ⟨6,78,out.map Msg.a,0⟩ ∧
  σ.T 5 = .int .i64 (zdz (a.drop p) (b.drop q) i)∧σ.T 6 = .int .i64 i
def liInv (a b R:List Msg) (k:Nat) (σ:St):Prop :=
 ∃ (p q:Nat) (out:List Msg),p≤a.length∧q≤b.length∧k = (a.length - p) + (b.length - q)∧out.length = p + q∧σ.T 0 = .sl [.sl (a.map Msg.a),.sl (b.map Msg.a)]∧σ.T 3 = .rs 9 0 2∧σ.H 9 = some ⟨1,3,[.int .i64 p,.int .i64 q],0⟩∧σ.T 4 = .rs 4 0 out.length∧σ.H 4 = some ⟨6,78,out.map Msg.a,0⟩ ∧
  out ++ z1t (a.drop p) (b.drop q) = R
set_option maxHeartbeats 2000000 in
theorem best_step (C:FuncId->List AV->AV->Prop) (Q:XK->St->Prop) (a b:List Msg) (ha:a.length≤1000000) (hb:b.length≤1000000) (p q:Nat) (out:List Msg)
  (hQ:∀ σ,y8d a b p q out 0 σ->Q (.exit 2) σ) (k:Nat) (σ:St) (hI:y8d a b p q out k σ):run C zd2 (z30 (fun σ'=>∃ m,m < k∧y8d a b p q out m σ') Q) σ:=by
 obtain ⟨i,hi,rfl,t0,t3,h9,t4,h4,t5,t6⟩:=hI
 simp only [zd2]
 have z0:Int.toNat 0 = 0:=rfl
 have z1:Int.toNat 1 = 1:=rfl
 have c2:((2:Nat):Int) = 2:=rfl
 have w0:IntKind.i64.wrap (0 + 1) = ((1:Nat):Int):=by decide
 have w1:IntKind.i64.wrap (1 + 1) = ((2:Nat):Int):=by decide
 match i,hi with
 | 0,_ =>
  have t6:σ.T 6 = .int .i64 0:=t6
  have t5:σ.T 5 = .int .i64 (-1):=t5
  by_cases hp:p < a.length
  ·have hp':(p:Int) < (a.length:Int):=by omega
   obtain ⟨x,hx⟩:=z0f hp
   have hne:¬ a.drop p = []:=by rw [z0c hx]; simp
   simp (maxSteps:=9^7) only [go_sem,↓reduceIte,reduceCtorEq,Nat.reduceEqDiff,Nat.reduceBEq,Nat.reduceAdd,Nat.reduceSub,Nat.reduceMul,Nat.reduceLT,Nat.reduceLeDiff,Nat.reduceBNe,Int.reduceBEq,Int.reduceBNe,Int.reduceLT,Int.reduceLE,Par.a,Nd.a,t0,t3,h9,t4,h4,t5,t6,hp',z0,c2,w0,List.length_map]
   refine ⟨1,by omega,1,by omega,rfl,?_,?_,?_,?_,?_,?_,?_⟩
   iterate 7 focus ((simp (maxSteps:=9^7) only [go_sem,↓reduceIte,reduceCtorEq,Nat.reduceEqDiff,Nat.reduceBEq,Nat.reduceAdd,Nat.reduceSub,Nat.reduceMul,Nat.reduceLT,Nat.reduceLeDiff,Nat.reduceBNe,Int.reduceBEq,Int.reduceBNe,Int.reduceLT,Int.reduceLE,Par.a,Nd.a,t0,t3,h9,t4,h4,zdz,if_neg hne,w0]) <;> rfl)
   
  ·have hp':¬ (p:Int) < (a.length:Int):=by omega
   have hne:a.drop p = []:=List.drop_eq_nil_of_le (by omega)
   simp (maxSteps:=9^7) only [go_sem,↓reduceIte,reduceCtorEq,Nat.reduceEqDiff,Nat.reduceBEq,Nat.reduceAdd,Nat.reduceSub,Nat.reduceMul,Nat.reduceLT,Nat.reduceLeDiff,Nat.reduceBNe,Int.reduceBEq,Int.reduceBNe,Int.reduceLT,Int.reduceLE,Par.a,Nd.a,t0,t3,h9,t4,h4,t5,t6,hp',z0,c2,w0,List.length_map]
   refine ⟨1,by omega,1,by omega,rfl,?_,?_,?_,?_,?_,?_,?_⟩
   iterate 7 focus ((simp (maxSteps:=9^7) only [go_sem,↓reduceIte,reduceCtorEq,Nat.reduceEqDiff,Nat.reduceBEq,Nat.reduceAdd,Nat.reduceSub,Nat.reduceMul,Nat.reduceLT,Nat.reduceLeDiff,Nat.reduceBNe,Int.reduceBEq,Int.reduceBNe,Int.reduceLT,Int.reduceLE,Par.a,Nd.a,t0,t3,h9,t4,h4,t5,zdz,if_pos hne,w0]) <;> rfl)
 | 1,_ =>
  have t6:σ.T 6 = .int .i64 1:=t6
  have t5:σ.T 5 = .int .i64 (if a.drop p = [] then -1 else 0):=t5
  by_cases hq:q < b.length
  ·have hq':(q:Int) < (b.length:Int):=by omega
   obtain ⟨y,hy⟩:=z0f hq
   have hgy:=z0j (f:=Msg.a) hy
   simp only [Msg.a] at hgy
   by_cases hp:p < a.length
   ·have hp':(p:Int) < (a.length:Int):=by omega
    obtain ⟨x,hx⟩:=z0f hp
    have hgx:=z0j (f:=Msg.a) hx
    simp only [Msg.a] at hgx
    rw [if_neg (by rw [z0c hx]; simp)] at t5
    by_cases hs:y.stamp < x.stamp
    ·simp (maxSteps:=9^7) only [go_sem,↓reduceIte,reduceCtorEq,Nat.reduceEqDiff,Nat.reduceBEq,Nat.reduceAdd,Nat.reduceSub,Nat.reduceMul,Nat.reduceLT,Nat.reduceLeDiff,Nat.reduceBNe,Int.reduceBEq,Int.reduceBNe,Int.reduceLT,Int.reduceLE,Par.a,Nd.a,t0,t3,h9,t4,h4,t5,t6,hp',hq',hgx,hgy,hs,z0,z1,c2,w1,List.length_map,Int.toNat_natCast]
     (repeat refine And.intro (by omega) ?_)
     refine ⟨0,by omega,2,by omega,rfl,?_,?_,?_,?_,?_,?_,?_⟩
     iterate 7 focus ((simp (maxSteps:=9^7) only [go_sem,↓reduceIte,reduceCtorEq,Nat.reduceEqDiff,Nat.reduceBEq,Nat.reduceAdd,Nat.reduceSub,Nat.reduceMul,Nat.reduceLT,Nat.reduceLeDiff,Nat.reduceBNe,Int.reduceBEq,Int.reduceBNe,Int.reduceLT,Int.reduceLE,Par.a,Nd.a,t0,t3,h9,t4,h4,zdz,z0c hx,z0c hy,hs,w1,c2]) <;> rfl)
    ·simp (maxSteps:=9^7) only [go_sem,↓reduceIte,reduceCtorEq,Nat.reduceEqDiff,Nat.reduceBEq,Nat.reduceAdd,Nat.reduceSub,Nat.reduceMul,Nat.reduceLT,Nat.reduceLeDiff,Nat.reduceBNe,Int.reduceBEq,Int.reduceBNe,Int.reduceLT,Int.reduceLE,Par.a,Nd.a,t0,t3,h9,t4,h4,t5,t6,hp',hq',hgx,hgy,hs,z0,z1,c2,w1,List.length_map,Int.toNat_natCast]
     (repeat refine And.intro (by omega) ?_)
     refine ⟨0,by omega,2,by omega,rfl,?_,?_,?_,?_,?_,?_,?_⟩
     iterate 7 focus ((simp (maxSteps:=9^7) only [go_sem,↓reduceIte,reduceCtorEq,Nat.reduceEqDiff,Nat.reduceBEq,Nat.reduceAdd,Nat.reduceSub,Nat.reduceMul,Nat.reduceLT,Nat.reduceLeDiff,Nat.reduceBNe,Int.reduceBEq,Int.reduceBNe,Int.reduceLT,Int.reduceLE,Par.a,Nd.a,t0,t3,h9,t4,h4,t5,zdz,z0c hx,z0c hy,hs,w1,c2]) <;> rfl)
   ·have hne:a.drop p = []:=List.drop_eq_nil_of_le (by omega)
    rw [if_pos hne] at t5
    simp (maxSteps:=9^7) only [go_sem,↓reduceIte,reduceCtorEq,Nat.reduceEqDiff,Nat.reduceBEq,Nat.reduceAdd,Nat.reduceSub,Nat.reduceMul,Nat.reduceLT,Nat.reduceLeDiff,Nat.reduceBNe,Int.reduceBEq,Int.reduceBNe,Int.reduceLT,Int.reduceLE,Par.a,Nd.a,t0,t3,h9,t4,h4,t5,t6,hq',hgy,z0,z1,c2,w1,List.length_map,Int.toNat_natCast]
    (repeat refine And.intro (by omega) ?_)
    refine ⟨0,by omega,2,by omega,rfl,?_,?_,?_,?_,?_,?_,?_⟩
    iterate 7 focus ((simp (maxSteps:=9^7) only [go_sem,↓reduceIte,reduceCtorEq,Nat.reduceEqDiff,Nat.reduceBEq,Nat.reduceAdd,Nat.reduceSub,Nat.reduceMul,Nat.reduceLT,Nat.reduceLeDiff,Nat.reduceBNe,Int.reduceBEq,Int.reduceBNe,Int.reduceLT,Int.reduceLE,Par.a,Nd.a,t0,t3,h9,t4,h4,zdz,hne,z0c hy,w1,c2]) <;> rfl)
  ·have hq':¬ (q:Int) < (b.length:Int):=by omega
   have hne:b.drop q = []:=List.drop_eq_nil_of_le (by omega)
   have hb2:zdz (a.drop p) (b.drop q) 2 = (if a.drop p = [] then -1 else 0):=by
    rw [hne]; unfold zdz
    cases a.drop p <;> simp
   simp (maxSteps:=9^7) only [go_sem,↓reduceIte,reduceCtorEq,Nat.reduceEqDiff,Nat.reduceBEq,Nat.reduceAdd,Nat.reduceSub,Nat.reduceMul,Nat.reduceLT,Nat.reduceLeDiff,Nat.reduceBNe,Int.reduceBEq,Int.reduceBNe,Int.reduceLT,Int.reduceLE,Par.a,Nd.a,t0,t3,h9,t4,h4,t6,hq',z0,z1,c2,w1,List.length_map,Int.toNat_natCast]
   (repeat refine And.intro (by omega) ?_)
   refine ⟨0,by omega,2,by omega,rfl,?_,?_,?_,?_,?_,?_,?_⟩
   iterate 7 focus ((simp (maxSteps:=9^7) only [go_sem,↓reduceIte,reduceCtorEq,Nat.reduceEqDiff,Nat.reduceBEq,Nat.reduceAdd,Nat.reduceSub,Nat.reduceMul,Nat.reduceLT,Nat.reduceLeDiff,Nat.reduceBNe,Int.reduceBEq,Int.reduceBNe,Int.reduceLT,Int.reduceLE,Par.a,Nd.a,t0,t3,h9,t4,h4,t5,hb2,w1,c2]) <;> rfl)
 | 2,_ =>
  have t6':σ.T 6 = .int .i64 2:=t6
  simp (maxSteps:=9^7) only [go_sem,↓reduceIte,reduceCtorEq,Nat.reduceEqDiff,Nat.reduceBEq,Nat.reduceAdd,Nat.reduceSub,Nat.reduceMul,Nat.reduceLT,Nat.reduceLeDiff,Nat.reduceBNe,Int.reduceBEq,Int.reduceBNe,Int.reduceLT,Int.reduceLE,Par.a,Nd.a,t0,t3,h9,t4,h4,t6',c2,List.length_map]
  refine hQ _ ⟨2,by omega,rfl,?_,?_,?_,?_,?_,?_,?_⟩
  iterate 7 focus ((simp (maxSteps:=9^7) only [go_sem,↓reduceIte,reduceCtorEq,Nat.reduceEqDiff,Nat.reduceBEq,Nat.reduceAdd,Nat.reduceSub,Nat.reduceMul,Nat.reduceLT,Nat.reduceLeDiff,Nat.reduceBNe,Int.reduceBEq,Int.reduceBNe,Int.reduceLT,Int.reduceLE,Par.a,Nd.a,t0,t3,h9,t4,h4,t5,t6]) <;> rfl)
theorem best_cases (a b:List Msg) (p q:Nat) :
  (∃ x,a[p]? = some x∧zdz (a.drop p) (b.drop q) 2 = 0∧z1t (a.drop p) (b.drop q) = x :: z1t (a.drop (p + 1)) (b.drop q)) ∨
  (∃ y,b[q]? = some y∧zdz (a.drop p) (b.drop q) 2 = 1∧z1t (a.drop p) (b.drop q) = y :: z1t (a.drop p) (b.drop (q + 1))) ∨
  (zdz (a.drop p) (b.drop q) 2 = -1∧z1t (a.drop p) (b.drop q) = []):=by
 rcases Nat.lt_or_ge p a.length with hp | hp
 ·obtain ⟨x,hx⟩:=z0f hp
  rcases Nat.lt_or_ge q b.length with hq | hq
  ·obtain ⟨y,hy⟩:=z0f hq
   rw [z0c hx,z0c hy,z8q]
   by_cases h:y.stamp < x.stamp
   ·rw [if_pos h]
    exact .inr (.inl ⟨y,hy,by unfold zdz; simp only; rw [if_pos h],by first | rfl | rw [z0c hx]⟩)
   ·rw [if_neg h]
    exact .inl ⟨x,hx,by unfold zdz; simp only; rw [if_neg h],by first | rfl | rw [z0c hy]⟩
  ·rw [List.drop_eq_nil_of_le hq,z0c hx,z56,z56]
   exact .inl ⟨x,hx,rfl,rfl⟩
 ·rw [List.drop_eq_nil_of_le hp]
  rcases Nat.lt_or_ge q b.length with hq | hq
  ·obtain ⟨y,hy⟩:=z0f hq
   rw [z0c hy,z4l,z4l]
   exact .inr (.inl ⟨y,hy,rfl,rfl⟩)
  ·rw [List.drop_eq_nil_of_le hq,z4l]
   exact .inr (.inr ⟨rfl,rfl⟩)
theorem wrapN (n:Nat) (h:n≤1000000000000000):IntKind.i64.wrap ((n:Int) + 1) = ((n + 1:Nat):Int):=z1j h
set_option maxHeartbeats 4000000 in
theorem lists_ok (a b:List Msg) (ha:a.length≤1000000) (hb:b.length≤1000000):AFn Tryd.prog 32 [.sl [.sl (a.map Msg.a),.sl (b.map Msg.a)]] (.own 6 78 ((z1t a b).map Msg.a)):=by
 refine fn_lists rfl ?_
 obtain ⟨R,hR⟩:∃ R,z1t a b = R:=⟨_,rfl⟩
 rw [hR]
 have z0:Int.toNat 0 = 0:=rfl
 have z1:Int.toNat 1 = 1:=rfl
 have z2:Int.toNat 2 = 2:=rfl
 have c2:((2:Nat):Int) = 2:=rfl
 simp (maxSteps:=9^7) only [go_sem,↓reduceIte,reduceCtorEq,Nat.reduceEqDiff,Nat.reduceBEq,Nat.reduceAdd,Nat.reduceSub,Nat.reduceMul,Nat.reduceLT,Nat.reduceLeDiff,Nat.reduceBNe,Int.reduceBEq,Int.reduceBNe,Int.reduceLT,Int.reduceLE,Par.a,Nd.a,c2,z2,List.replicate_succ,List.replicate_zero]
 (repeat refine And.intro (by omega) ?_)
 refine z08 (liInv a b R) (k:=a.length + b.length) ⟨0,0,[],by omega,by omega,by omega,rfl,?_,?_,?_,?_,?_,hR⟩ ?_
 iterate 5 focus ((simp (maxSteps:=9^7) only [go_sem,↓reduceIte,reduceCtorEq,Nat.reduceEqDiff,Nat.reduceBEq,Nat.reduceAdd,Nat.reduceSub,Nat.reduceMul,Nat.reduceLT,Nat.reduceLeDiff,Nat.reduceBNe,Int.reduceBEq,Int.reduceBNe,Int.reduceLT,Int.reduceLE,Par.a,Nd.a]) <;> rfl)
 clear hR
 rintro k σ ⟨p,q,out,hp,hq,rfl,ho,t0,t3,h9,t4,h4,hr⟩
 simp only [zks]
 simp (maxSteps:=9^7) only [go_sem,↓reduceIte,reduceCtorEq,Nat.reduceEqDiff,Nat.reduceBEq,Nat.reduceAdd,Nat.reduceSub,Nat.reduceMul,Nat.reduceLT,Nat.reduceLeDiff,Nat.reduceBNe,Int.reduceBEq,Int.reduceBNe,Int.reduceLT,Int.reduceLE,Par.a,Nd.a]
 refine z08 (y8d a b p q out) (k:=2) ⟨0,by omega,rfl,?_,?_,?_,?_,?_,?_,?_⟩ (best_step _ _ a b ha hb p q out ?_)
 iterate 7 focus ((simp (maxSteps:=9^7) only [go_sem,↓reduceIte,reduceCtorEq,Nat.reduceEqDiff,Nat.reduceBEq,Nat.reduceAdd,Nat.reduceSub,Nat.reduceMul,Nat.reduceLT,Nat.reduceLeDiff,Nat.reduceBNe,Int.reduceBEq,Int.reduceBNe,Int.reduceLT,Int.reduceLE,Par.a,Nd.a,t0,t3,h9,t4,h4]) <;> rfl)
 rintro σ ⟨i,hi,hi2,t0,t3,h9,t4,h4,t5,t6⟩
 obtain rfl:i = 2:=by omega
 have ht:List.take out.length (out.map Msg.a) = out.map Msg.a:=List.take_of_length_le (by rw [List.length_map]; exact Nat.le_refl _)
 have hw:=wrapN p (by omega)
 have hw':=wrapN q (by omega)
 have hR0:AFn Tryd.prog 52 [.sl []] (.bool true):=zw8 [] (by decide) (fun x hx=>by cases hx)
 rcases best_cases a b p q with ⟨x,hx,hb0,hm⟩ | ⟨y,hy,hb0,hm⟩ | ⟨hb0,hm⟩
 ·rw [hb0] at t5
  rw [hm] at hr
  have hp1:=(List.getElem?_eq_some_iff.1 hx).1
  have hgx:=z0j (f:=Msg.a) hx
  simp only [Msg.a] at hgx
  have hp':(p:Int) < (a.length:Int):=by omega
  (repeat (first | simp (maxSteps:=9^7) only [go_sem,↓reduceIte,reduceCtorEq,Nat.reduceEqDiff,Nat.reduceBEq,Nat.reduceAdd,Nat.reduceSub,Nat.reduceMul,Nat.reduceLT,Nat.reduceLeDiff,Nat.reduceBNe,Int.reduceBEq,Int.reduceBNe,Int.reduceLT,Int.reduceLE,Par.a,Nd.a,t0,t3,h9,t4,h4,t5,z0,z1,hp',hgx,List.length_map,Int.toNat_natCast,hw,ht] | refine z01 (hR0) ?_ | refine z00 (hR0) ?_ | refine And.intro (by omega) ?_ | refine And.intro (fun d hd=>by (repeat (rcases hd with rfl | hd; · exact ⟨rfl,rfl⟩)); cases hd) ?_ | refine And.intro (And.intro (by omega) (fun d hd=>by (repeat (rcases hd with rfl | hd; · exact ⟨rfl,rfl⟩)); cases hd)) ?_))
  refine ⟨(a.length - (p + 1)) + (b.length - q),by omega,p + 1,q,out ++ [x],by omega,by omega,rfl,by simp; omega,?_,?_,?_,?_,?_,by rw [List.append_assoc]; exact hr⟩
  iterate 5 focus ((simp (maxSteps:=9^7) only [go_sem,↓reduceIte,reduceCtorEq,Nat.reduceEqDiff,Nat.reduceBEq,Nat.reduceAdd,Nat.reduceSub,Nat.reduceMul,Nat.reduceLT,Nat.reduceLeDiff,Nat.reduceBNe,Int.reduceBEq,Int.reduceBNe,Int.reduceLT,Int.reduceLE,Par.a,Nd.a,t0,t3,hw,List.length_append,List.length_cons,List.length_nil,List.map_append,List.map_cons,List.map_nil,ht]) <;> rfl)
 ·rw [hb0] at t5
  rw [hm] at hr
  have hq1:=(List.getElem?_eq_some_iff.1 hy).1
  have hgy:=z0j (f:=Msg.a) hy
  simp only [Msg.a] at hgy
  have hq':(q:Int) < (b.length:Int):=by omega
  (repeat (first | simp (maxSteps:=9^7) only [go_sem,↓reduceIte,reduceCtorEq,Nat.reduceEqDiff,Nat.reduceBEq,Nat.reduceAdd,Nat.reduceSub,Nat.reduceMul,Nat.reduceLT,Nat.reduceLeDiff,Nat.reduceBNe,Int.reduceBEq,Int.reduceBNe,Int.reduceLT,Int.reduceLE,Par.a,Nd.a,t0,t3,h9,t4,h4,t5,z0,z1,hq',hgy,List.length_map,Int.toNat_natCast,hw',ht] | refine z01 (hR0) ?_ | refine z00 (hR0) ?_ | refine And.intro (by omega) ?_ | refine And.intro (fun d hd=>by (repeat (rcases hd with rfl | hd; · exact ⟨rfl,rfl⟩)); cases hd) ?_ | refine And.intro (And.intro (by omega) (fun d hd=>by (repeat (rcases hd with rfl | hd; · exact ⟨rfl,rfl⟩)); cases hd)) ?_))
  refine ⟨(a.length - p) + (b.length - (q + 1)),by omega,p,q + 1,out ++ [y],by omega,by omega,rfl,by simp; omega,?_,?_,?_,?_,?_,by rw [List.append_assoc]; exact hr⟩
  iterate 5 focus ((simp (maxSteps:=9^7) only [go_sem,↓reduceIte,reduceCtorEq,Nat.reduceEqDiff,Nat.reduceBEq,Nat.reduceAdd,Nat.reduceSub,Nat.reduceMul,Nat.reduceLT,Nat.reduceLeDiff,Nat.reduceBNe,Int.reduceBEq,Int.reduceBNe,Int.reduceLT,Int.reduceLE,Par.a,Nd.a,t0,t3,hw',List.set_cons_succ,List.length_append,List.length_cons,List.length_nil,List.map_append,List.map_cons,List.map_nil,ht]) <;> rfl)
 ·rw [hb0] at t5
  rw [hm,List.append_nil] at hr
  subst hr
  simp (maxSteps:=9^7) only [go_sem,↓reduceIte,reduceCtorEq,Nat.reduceEqDiff,Nat.reduceBEq,Nat.reduceAdd,Nat.reduceSub,Nat.reduceMul,Nat.reduceLT,Nat.reduceLeDiff,Nat.reduceBNe,Int.reduceBEq,Int.reduceBNe,Int.reduceLT,Int.reduceLE,Par.a,Nd.a,t0,t3,h9,t4,h4,t5,z0,z1,List.length_map,Int.toNat_natCast]
end
end Go.Proofs.YtkfciapeikkmfaaDoor
