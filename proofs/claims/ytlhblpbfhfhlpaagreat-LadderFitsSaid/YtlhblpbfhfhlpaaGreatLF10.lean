/-
  Part 10 of a proof: SqK, TeA, LoA, LoF.
-/
import Derived.Test.YtlhblpbfhfhlpaaGreatLF9
set_option linter.unusedVariables false
set_option linter.unusedSimpArgs false
set_option maxRecDepth 100000
attribute [local go_sem] reduceCtorEq Nat.reduceEqDiff Nat.reduceBEq Nat.reduceAdd Nat.reduceSub Nat.reduceMul Nat.reduceLT Nat.reduceLeDiff Nat.reduceBNe Int.reduceBEq Int.reduceBNe Int.reduceLT Int.reduceLE
attribute [local go_sem ↓] reduceIte
namespace Go.Proofs.YtlhblpbfhfhlpaaGreat
section
open Go.RowKit
attribute [local go_sem ↓] z18 z0h
theorem gM {l:List Msg} {j:Nat} {x:Msg} (hx:l[j]? = some x):(l.map Msg.a).getD j .und = .agg [.int .i64 x.stamp,.int .i64 x.kind,.str x.key,.str x.hi,.bool x.op,.str x.val]:=by
 rw [List.getD_eq_getElem?_getD,List.getElem?_map,hx]; rfl
theorem wS {j:Nat} (h:j≤1000000000000):IntKind.i64.wrap ((j:Int) + 1) = ((j + 1:Nat):Int):=by rw [IntWalk.i64_in _ (by omega)]; rfl
theorem getM {l:List Msg} {j:Nat} (h:j < l.length):∃ x,l[j]? = some x:=⟨_,List.getElem?_eq_getElem h⟩
def zux:Reg:=⟨[],[⟨.box 6 87 (.t 0),some 1,none,[],[]⟩,⟨.mv (.c (.int .i64 0)),some 2,none,[],[]⟩],[1],[],false⟩
def zem:List ROp:=[⟨.faddr 1 (.t 1),some 3,none,[],[]⟩,⟨.load 1 false (.t 3),some 4,none,[],[]⟩,⟨.bin .eql (.t 4) (.c (.int .i64 4)),some 5,none,[],[]⟩]
def zuw:Reg:=⟨[],zem,[],[],false⟩
def zuv:Reg:=⟨[],[⟨.mv (.c (.int .i64 36)),some 2,none,[],[]⟩],[],[],false⟩
def zel:List ROp:=[⟨.faddr 2 (.t 1),some 6,none,[],[]⟩,⟨.load 1 false (.t 6),some 7,none,[],[]⟩,⟨.len true (.t 7),some 8,none,[],[]⟩,⟨.bin .add (.c (.int .i64 4)) (.t 8),some 9,none,[],[]⟩,⟨.faddr 5 (.t 1),some 10,none,[],[]⟩,⟨.load 1 false (.t 10),some 11,none,[],[]⟩,⟨.len true (.t 11),some 12,none,[],[]⟩,⟨.bin .add (.t 9) (.t 12),some 13,none,[],[]⟩,⟨.mv (.t 13),some 2,none,[],[]⟩]
def zuu:Reg:=⟨[],zel,[],[],false⟩
def y75:IR:=(.seq (.reg zux)
 (.seq (.seq (.reg zuw)
 (.cond (.t 5) (.seq (.reg zuv)
 .ret)
 .skip))
 (.seq (.reg zuu)
 .ret)))
def zti:List RDesc:=[(.tmp 2)]
theorem e_rSize_0:EqR zux [⟨.box 6 87 (.t 0),some 1,none,[],[]⟩,⟨.mv (.c (.int .i64 0)),some 2,none,[],[]⟩] [1]:=fun _ _ _=>rfl
theorem e_rSize_1:EqR zuw zem []:=fun _ _ _=>rfl
theorem e_rSize_2:EqR zuv [⟨.mv (.c (.int .i64 36)),some 2,none,[],[]⟩] []:=fun _ _ _=>rfl
theorem e_rSize_3:EqR zuu zel []:=fun _ _ _=>rfl
theorem fn_rSize {args:List AV} {r:AV} (ha:args.length.ble Tryz.f106.ntmps = true) (h:run (AFn Tryz.prog) y75 (endQ zti r) (z0b args)):AFn Tryz.prog 106 args r :=
 AFn.of_code (pv:=false) (hint:=fun _=>[]) (c:=Tryz.f106.body.getD .skip) (by kernel_rfl) (by kernel_rfl) Tryz.func106 (by kernel_rfl) (by kernel_rfl) (by kernel_rfl) (of_decide_eq_true (by kernel_rfl)) (Nat.le_of_ble_eq_true ha) (Nat.le_of_ble_eq_true (by kernel_rfl)) (z09 h)
def zhi:Reg:=⟨[],[⟨.mv (.c (.int .i64 0)),some 2,none,[],[]⟩],[],[],false⟩
def zhh:Reg:=⟨[],[⟨.mv (.c (.int .i64 0)),some 3,none,[],[]⟩],[],[],false⟩
def zhg:Reg:=⟨[],[⟨.mv (.c (.int .i64 0)),some 4,none,[],[]⟩],[],[],false⟩
def z7f:List ROp:=[⟨.mv (.t 4),some 5,none,[],[]⟩,⟨.mv (.t 0),some 6,none,[],[]⟩,⟨.len false (.t 6),some 7,none,[],[]⟩,⟨.bin .lss (.t 5) (.t 7),some 8,none,[],[]⟩]
def zhf:Reg:=⟨[],z7f,[],[],false⟩
def z7e:List ROp:=[⟨.mv (.t 3),some 11,none,[16],[]⟩,⟨.mv (.t 0),some 12,none,[16],[]⟩,⟨.mv (.t 4),some 13,none,[16],[]⟩,⟨.iaddr 6 (.t 12) (.t 13),some 14,none,[16],[]⟩,⟨.load 6 true (.t 14),some 15,none,[16],[]⟩,⟨.callv (.c (.clo 106 [] [])) [(.t 15)],some 16,none,[],[]⟩,⟨.bin .add (.t 11) (.t 16),some 17,none,[],[]⟩,⟨.mv (.t 17),some 3,none,[],[]⟩]
def zhe:Reg:=⟨[],z7e,[16],[],false⟩
def z7d:List ROp:=[⟨.mv (.t 4),some 9,none,[],[]⟩,⟨.bin .add (.t 9) (.c (.int .i64 1)),some 10,none,[],[]⟩,⟨.mv (.t 10),some 4,none,[],[]⟩]
def zhd:Reg:=⟨[],z7d,[],[],false⟩
def zcp:IR:=(.seq (.seq (.reg zhf)
 (.cond (.t 8) .skip
 (.exit 0)))
 (.seq (.block 1 (.reg zhe))
 (.reg zhd)))
def zhc:Reg:=⟨[],[⟨.mv (.t 3),some 18,none,[],[]⟩,⟨.mv (.t 18),some 2,none,[],[]⟩],[],[],false⟩
def zpq:IR:=(.seq (.reg zhi)
 (.seq (.reg zhh)
 (.seq (.seq (.reg zhg)
 (.block 0 (.loop zcp)))
 (.seq (.reg zhc)
 .ret))))
def zga:List RDesc:=[(.tmp 2)]
theorem y2v:EqR zhi [⟨.mv (.c (.int .i64 0)),some 2,none,[],[]⟩] []:=fun _ _ _=>rfl
theorem y2u:EqR zhh [⟨.mv (.c (.int .i64 0)),some 3,none,[],[]⟩] []:=fun _ _ _=>rfl
theorem y2t:EqR zhg [⟨.mv (.c (.int .i64 0)),some 4,none,[],[]⟩] []:=fun _ _ _=>rfl
theorem y2s:EqR zhf z7f []:=fun _ _ _=>rfl
theorem y2r:EqR zhe z7e [16]:=fun _ _ _=>rfl
theorem y2q:EqR zhd z7d []:=fun _ _ _=>rfl
theorem y2p:EqR zhc [⟨.mv (.t 3),some 18,none,[],[]⟩,⟨.mv (.t 18),some 2,none,[],[]⟩] []:=fun _ _ _=>rfl
theorem fn_r18Size {args:List AV} {r:AV} (ha:args.length.ble Tryz.f95.ntmps = true) (h:run (AFn Tryz.prog) zpq (endQ zga r) (z0b args)):AFn Tryz.prog 95 args r :=
 AFn.of_code (pv:=false) (hint:=fun _=>[]) (c:=Tryz.f95.body.getD .skip) (by kernel_rfl) (by kernel_rfl) Tryz.func95 (by kernel_rfl) (by kernel_rfl) (by kernel_rfl) (of_decide_eq_true (by kernel_rfl)) (Nat.le_of_ble_eq_true ha) (Nat.le_of_ble_eq_true (by kernel_rfl)) (z09 h)
attribute [local go_sem ↓] y75
attribute [local go_sem] zti e_rSize_0 e_rSize_1 zem e_rSize_2 e_rSize_3 zel
attribute [local go_sem ↓] zpq
attribute [local go_sem] zga y2v y2u y2t y2s z7f y2r z7e y2q z7d y2p
def KOk (l:List Msg):Prop:=l.length≤1000000∧∀ m,m ∈ l->m.key.size≤1000000∧m.hi.size≤1000000∧m.val.size≤1000000
theorem refSize (m:Msg) (h1:m.key.size≤1000000) (h2:m.val.size≤1000000):AFn Tryz.prog 106 [m.a] (.int .i64 (m.size:Int)):=by
 refine fn_rSize rfl ?_
 cases h:(m.kind == 4) with
 | true =>
  have h':m.kind = 4:=by simpa using h
  simp (maxSteps:=9^7) only [go_sem,Spn.a,Msg.a,Eff.a,h]
  simp [Msg.size,h']
 | false =>
  have h':m.kind ≠ 4:=by simpa using h
  have w1:IntKind.i64.wrap (4 + (m.key.size:Int)) = 4 + (m.key.size:Int):=IntWalk.i64_in _ (by omega)
  have w2:IntKind.i64.wrap (4 + (m.key.size:Int) + (m.val.size:Int)) = 4 + (m.key.size:Int) + (m.val.size:Int):=IntWalk.i64_in _ (by omega)
  simp (maxSteps:=9^7) only [go_sem,Spn.a,Msg.a,Eff.a,h,w1,w2]
  simp [Msg.size,h']
theorem take_one {l:List Msg} {j:Nat} {x:Msg} (hx:l[j]? = some x):l.take (j + 1) = l.take j ++ [x]:=by
 rw [List.take_add_one,hx]; rfl
theorem size_le (m:Msg) (h1:m.key.size≤1000000) (h2:m.val.size≤1000000):m.size≤2000036:=by
 unfold Msg.size; split <;> omega
theorem y45:∀ {l:List Msg},(∀ m,m ∈ l->m.key.size≤1000000∧m.hi.size≤1000000∧m.val.size≤1000000)->z38 l≤l.length * 2000036
 | [],_=>Nat.zero_le _
 | m :: l,h=>by
  rw [z2d,List.length_cons]
  have h1:=y45 (l:=l) fun x hx=>h x (List.mem_cons_of_mem _ hx)
  have h2:=size_le m (h m (List.mem_cons_self ..)).1 (h m (List.mem_cons_self ..)).2.2
  omega
theorem sizes_take {l:List Msg} (h:KOk l) (j:Nat):z38 (l.take j)≤2000036000000:=by
 have h1:=y45 (l:=l.take j) fun x hx=>h.2 x (List.mem_of_mem_take hx)
 have h2:=h.1
 have h3:(l.take j).length≤l.length:=by rw [List.length_take]; omega
 omega
def szInv (l:List Msg) (k:Nat) (σ:St):Prop :=
 ∃ j:Nat,j≤l.length∧k = l.length - j∧σ.T 0 = .sl (l.map Msg.a)∧σ.T 3 = .int .i64 ((z38 (l.take j):Nat):Int)∧σ.T 4 = .int .i64 j
theorem ref18Size (l:List Msg) (hl:KOk l):AFn Tryz.prog 95 [.sl (l.map Msg.a)] (.int .i64 (z38 l:Int)):=by
 refine fn_r18Size rfl ?_
 simp (maxSteps:=9^7) only [go_sem,Spn.a,Msg.a,Eff.a]
 refine z06 (szInv l) (k:=l.length) ⟨0,by omega,rfl,?_,?_,?_⟩ ?_
 ·simp (maxSteps:=9^7) only [go_sem,Spn.a,Msg.a,Eff.a]
 ·simp (maxSteps:=9^7) only [go_sem,Spn.a,Msg.a,Eff.a]
  rfl
 ·simp (maxSteps:=9^7) only [go_sem,Spn.a,Msg.a,Eff.a]
  rfl
 rintro k σ ⟨j,hj,rfl,t0,t3,t4⟩
 simp only [zcp]
 by_cases hlt:j < l.length
 ·have hlt':(j:Int) < (l.length:Int):=by omega
  obtain ⟨x,hx⟩:=getM hlt
  have hm:=hl.2 x (List.mem_of_getElem? hx)
  have hw:=wS (j:=j) (by have:=hl.1; omega)
  have hw2:IntKind.i64.wrap (((z38 (l.take j):Nat):Int) + (x.size:Int)) = ((z38 (l.take (j + 1)):Nat):Int):=by
   rw [IntWalk.i64_in _ (by have:=sizes_take hl j; have:=size_le x hm.1 hm.2.2; omega),take_one hx,z5o,z2d]; simp [z38]
  simp (maxSteps:=9^7) only [go_sem,Spn.a,Msg.a,Eff.a,t0,t3,t4,hlt',gM hx,List.length_map,Int.toNat_natCast]
  refine ⟨by omega,?_⟩
  (first | refine z01 (refSize x hm.1 hm.2.2) ?_ | refine z00 (refSize x hm.1 hm.2.2) ?_)
  simp (maxSteps:=9^7) only [go_sem,Spn.a,Msg.a,Eff.a,t0,t3,t4,hw,hw2]
  refine ⟨l.length - (j + 1),by omega,j + 1,by omega,rfl,?_,?_,?_⟩ <;>
   (simp (maxSteps:=9^7) only [go_sem,Spn.a,Msg.a,Eff.a,t0,t3,t4,hw,hw2])
 ·have hlt':¬ (j:Int) < (l.length:Int):=by omega
  simp (maxSteps:=9^7) only [go_sem,Spn.a,Msg.a,Eff.a,t0,t3,t4,hlt',List.length_map]
  rw [List.take_of_length_le (by omega)]
end
section
open Go.RowKit
attribute [local go_sem ↓] z18 z0h
def nul0:ByteArray:=⟨#[]⟩
def Nd.zero:Nd:=⟨0,0,[],[],nul0,false,0,0,[],[]⟩
def Msg.zero:Msg:=⟨0,0,nul0,nul0,false,nul0⟩
def z3v (slot:Int):Nd->Nat->List Nd->Nd × Nat
 | o,n,[]=>(o,n)
 | o,n,x :: l=>if x.slot = slot then z3v slot x (n + 1) l else z3v slot o n l
def z3w (l:List Nd) (slot:Int):Nd × Bool:=((z3v slot Nd.zero 0 l).1,decide ((z3v slot Nd.zero 0 l).2 = 1))
def zr6:List ROp:=[⟨.alloc 10 45 (.agg [(.int .i64 0),(.int .i64 0),(.sl []),(.sl []),(.str ⟨#[]⟩),(.bool false),(.int .i64 0),(.int .i64 0),(.sl []),(.sl [])]),some 4,none,[],[]⟩,⟨.mv (.c (.bool false)),some 5,none,[],[]⟩]
def y62:Reg:=⟨[],zr6,[4],[],false⟩
def zr5:List ROp:=[⟨.bld [(.int .i64 0),(.int .i64 0),(.sl []),(.sl []),(.str ⟨#[]⟩),(.bool false),(.int .i64 0),(.int .i64 0),(.sl []),(.sl [])] [],some 9,none,[6],[]⟩,⟨.alloc 10 45 (.agg [(.int .i64 0),(.int .i64 0),(.sl []),(.sl []),(.str ⟨#[]⟩),(.bool false),(.int .i64 0),(.int .i64 0),(.sl []),(.sl [])]),some 6,none,[],[]⟩,⟨.store 10 (.t 6) (.t 9),none,none,[],[]⟩]
def y61:Reg:=⟨[],zr5,[6],[],false⟩
def y60:Reg:=⟨[],[⟨.mv (.c (.int .i64 0)),some 7,none,[],[]⟩],[],[],false⟩
def y5z:Reg:=⟨[],[⟨.mv (.c (.int .i64 0)),some 8,none,[],[]⟩],[],[],false⟩
def zr4:List ROp:=[⟨.mv (.t 8),some 10,none,[],[]⟩,⟨.mv (.t 0),some 11,none,[],[]⟩,⟨.len false (.t 11),some 12,none,[],[]⟩,⟨.bin .lss (.t 10) (.t 12),some 13,none,[],[]⟩]
def y5y:Reg:=⟨[],zr4,[],[],false⟩
def zr3:List ROp:=[⟨.mv (.t 0),some 16,none,[],[]⟩,⟨.mv (.t 8),some 17,none,[],[]⟩,⟨.iaddr 10 (.t 16) (.t 17),some 18,none,[],[]⟩,⟨.faddr 0 (.t 18),some 19,none,[],[]⟩,⟨.load 1 false (.t 19),some 20,none,[],[]⟩,⟨.mv (.t 1),some 21,none,[],[]⟩,⟨.bin .eql (.t 20) (.t 21),some 22,none,[],[]⟩]
def y5x:Reg:=⟨[],zr3,[],[],false⟩
def zr2:List ROp:=[⟨.mv (.t 0),some 23,none,[],[]⟩,⟨.mv (.t 8),some 24,none,[],[]⟩,⟨.iaddr 10 (.t 23) (.t 24),some 25,none,[],[]⟩,⟨.load 10 true (.t 25),some 26,none,[],[]⟩,⟨.store 10 (.t 6) (.t 26),none,none,[],[]⟩]
def y5w:Reg:=⟨[],zr2,[],[],false⟩
def zr1:List ROp:=[⟨.mv (.t 7),some 27,none,[],[]⟩,⟨.bin .add (.t 27) (.c (.int .i64 1)),some 28,none,[],[]⟩,⟨.mv (.t 28),some 7,none,[],[]⟩]
def y5v:Reg:=⟨[],zr1,[],[],false⟩
def zr0:List ROp:=[⟨.mv (.t 8),some 14,none,[],[]⟩,⟨.bin .add (.t 14) (.c (.int .i64 1)),some 15,none,[],[]⟩,⟨.mv (.t 15),some 8,none,[],[]⟩]
def y5u:Reg:=⟨[],zr0,[],[],false⟩
def zx3:IR:=(.seq (.seq (.reg y5y)
 (.cond (.t 13) .skip
 (.exit 0)))
 (.seq (.block 1 (.seq (.reg y5x)
 (.cond (.t 22) (.seq (.reg y5w)
 (.reg y5v))
 .skip)))
 (.reg y5u)))
def zfp:List ROp:=[⟨.load 10 true (.t 6),some 29,none,[],[]⟩,⟨.mv (.t 7),some 30,none,[],[]⟩,⟨.bin .eql (.t 30) (.c (.int .i64 1)),some 31,none,[],[]⟩,⟨.store 10 (.t 4) (.t 29),none,none,[],[]⟩,⟨.mv (.t 31),some 5,none,[],[]⟩]
def zx4:Reg:=⟨[],zfp,[],[],false⟩
def ir_find:IR:=(.seq (.reg y62)
 (.seq (.reg y61)
 (.seq (.reg y60)
 (.seq (.seq (.reg y5z)
 (.block 0 (.loop zx3)))
 (.seq (.reg zx4)
 .ret)))))
def y4f:List RDesc:=[(.cell 4 10 true),(.tmp 5)]
theorem e_find_0:EqR y62 zr6 [4]:=fun _ _ _=>rfl
theorem e_find_1:EqR y61 zr5 [6]:=fun _ _ _=>rfl
theorem e_find_2:EqR y60 [⟨.mv (.c (.int .i64 0)),some 7,none,[],[]⟩] []:=fun _ _ _=>rfl
theorem e_find_3:EqR y5z [⟨.mv (.c (.int .i64 0)),some 8,none,[],[]⟩] []:=fun _ _ _=>rfl
theorem e_find_4:EqR y5y zr4 []:=fun _ _ _=>rfl
theorem e_find_5:EqR y5x zr3 []:=fun _ _ _=>rfl
theorem e_find_6:EqR y5w zr2 []:=fun _ _ _=>rfl
theorem e_find_7:EqR y5v zr1 []:=fun _ _ _=>rfl
theorem e_find_8:EqR y5u zr0 []:=fun _ _ _=>rfl
theorem e_find_10:EqR zx4 zfp []:=fun _ _ _=>rfl
theorem fn_find {args:List AV} {r:AV} (ha:args.length.ble Tryz.f51.ntmps = true) (h:run (AFn Tryz.prog) ir_find (endQ y4f r) (z0b args)):AFn Tryz.prog 51 args r :=
 AFn.of_code (pv:=false) (hint:=fun _=>[]) (c:=Tryz.f51.body.getD .skip) (by kernel_rfl) (by kernel_rfl) Tryz.func51 (by kernel_rfl) (by kernel_rfl) (by kernel_rfl) (of_decide_eq_true (by kernel_rfl)) (Nat.le_of_ble_eq_true ha) (Nat.le_of_ble_eq_true (by kernel_rfl)) (z09 h)
def zmd:Reg:=⟨[],[⟨.mv (.c (.bool false)),some 2,none,[],[]⟩],[],[],false⟩
def zmc:Reg:=⟨[],[⟨.mv (.c (.int .i64 1)),some 3,none,[],[]⟩],[],[],false⟩
def z9y:List ROp:=[⟨.mv (.t 3),some 4,none,[],[]⟩,⟨.mv (.t 0),some 5,none,[],[]⟩,⟨.len false (.t 5),some 6,none,[],[]⟩,⟨.bin .lss (.t 4) (.t 6),some 7,none,[],[]⟩]
def zmb:Reg:=⟨[],z9y,[],[],false⟩
def z9x:List ROp:=[⟨.callv (.c (.clo 90 [] [])) [(.t 14),(.t 18)],some 19,none,[],[]⟩,⟨.un .not (.t 19),some 20,none,[],[]⟩]
def zbz:List ROp:=[⟨.mv (.t 0),some 10,none,[19],[]⟩,⟨.mv (.t 3),some 11,none,[19],[]⟩,⟨.bin .sub (.t 11) (.c (.int .i64 1)),some 12,none,[19],[]⟩,⟨.iaddr 1 (.t 10) (.t 12),some 13,none,[19],[]⟩,⟨.load 1 false (.t 13),some 14,none,[19],[]⟩,⟨.mv (.t 0),some 15,none,[19],[]⟩,⟨.mv (.t 3),some 16,none,[19],[]⟩,⟨.iaddr 1 (.t 15) (.t 16),some 17,none,[19],[]⟩,⟨.load 1 false (.t 17),some 18,none,[19],[]⟩]
def zma:Reg:=⟨zbz,z9x,[19],[],true⟩
def zm9:Reg:=⟨[],[⟨.mv (.c (.bool false)),some 2,none,[],[]⟩],[],[],false⟩
def z9w:List ROp:=[⟨.mv (.t 3),some 8,none,[],[]⟩,⟨.bin .add (.t 8) (.c (.int .i64 1)),some 9,none,[],[]⟩,⟨.mv (.t 9),some 3,none,[],[]⟩]
def zm8:Reg:=⟨[],z9w,[],[],false⟩
def z84:IR:=(.seq (.seq (.reg zmb)
 (.cond (.t 7) .skip
 (.exit 0)))
 (.seq (.block 1 (.seq (.reg zma)
 (.cond (.t 20) (.seq (.reg zm9)
 .ret)
 .skip)))
 (.reg zm8)))
def zm7:Reg:=⟨[],[⟨.mv (.c (.bool true)),some 2,none,[],[]⟩],[],[],false⟩
def zy5:IR:=(.seq (.reg zmd)
 (.seq (.seq (.reg zmc)
 (.block 0 (.loop z84)))
 (.seq (.reg zm7)
 .ret)))
def zl3:List RDesc:=[(.tmp 2)]
theorem e_rising_0:EqR zmd [⟨.mv (.c (.bool false)),some 2,none,[],[]⟩] []:=fun _ _ _=>rfl
theorem e_rising_1:EqR zmc [⟨.mv (.c (.int .i64 1)),some 3,none,[],[]⟩] []:=fun _ _ _=>rfl
theorem e_rising_2:EqR zmb z9y []:=fun _ _ _=>rfl
theorem e_rising_3 (C:FuncId->List AV->AV->Prop) (σ:St) (K:St->Prop):z0l C zma σ K = z08 C [] z9x zbz (σ.kills [19]) K:=rfl
theorem e_rising_4:EqR zm9 [⟨.mv (.c (.bool false)),some 2,none,[],[]⟩] []:=fun _ _ _=>rfl
theorem e_rising_5:EqR zm8 z9w []:=fun _ _ _=>rfl
theorem e_rising_7:EqR zm7 [⟨.mv (.c (.bool true)),some 2,none,[],[]⟩] []:=fun _ _ _=>rfl
theorem fn_rising {args:List AV} {r:AV} (ha:args.length.ble Tryz.f89.ntmps = true) (h:run (AFn Tryz.prog) zy5 (endQ zl3 r) (z0b args)):AFn Tryz.prog 89 args r :=
 AFn.of_code (pv:=false) (hint:=fun _=>[]) (c:=Tryz.f89.body.getD .skip) (by kernel_rfl) (by kernel_rfl) Tryz.func89 (by kernel_rfl) (by kernel_rfl) (by kernel_rfl) (of_decide_eq_true (by kernel_rfl)) (Nat.le_of_ble_eq_true ha) (Nat.le_of_ble_eq_true (by kernel_rfl)) (z09 h)
def zgs:Reg:=⟨[],[⟨.mv (.c (.bool false)),some 4,none,[],[]⟩],[],[],false⟩
def z6z:List ROp:=[⟨.mv (.t 0),some 5,none,[6],[]⟩,⟨.callv (.c (.clo 89 [] [])) [(.t 5)],some 6,none,[],[]⟩,⟨.mv (.t 6),some 7,none,[],[]⟩,⟨.mv (.t 1),some 8,(some (7,true)),[],[]⟩,⟨.len false (.t 8),some 9,(some (7,true)),[],[]⟩,⟨.mv (.t 0),some 10,(some (7,true)),[],[]⟩,⟨.len false (.t 10),some 11,(some (7,true)),[],[]⟩,⟨.bin .add (.t 11) (.c (.int .i64 1)),some 12,(some (7,true)),[],[]⟩,⟨.bin .eql (.t 9) (.t 12),some 13,(some (7,true)),[],[]⟩,⟨.pick (.t 7) (.t 13) (.c (.bool false)),some 14,none,[],[]⟩,⟨.mv (.t 14),some 4,none,[],[]⟩]
def zgr:Reg:=⟨[],z6z,[6],[],false⟩
def zpn:IR:=(.seq (.reg zgs)
 (.seq (.reg zgr)
 .ret))
def zg7:List RDesc:=[(.tmp 4)]
theorem y27:EqR zgs [⟨.mv (.c (.bool false)),some 4,none,[],[]⟩] []:=fun _ _ _=>rfl
theorem y26:EqR zgr z6z [6]:=fun _ _ _=>rfl
theorem fn_right15 {args:List AV} {r:AV} (ha:args.length.ble Tryz.f58.ntmps = true) (h:run (AFn Tryz.prog) zpn (endQ zg7 r) (z0b args)):AFn Tryz.prog 58 args r :=
 AFn.of_code (pv:=false) (hint:=fun _=>[]) (c:=Tryz.f58.body.getD .skip) (by kernel_rfl) (by kernel_rfl) Tryz.func58 (by kernel_rfl) (by kernel_rfl) (by kernel_rfl) (of_decide_eq_true (by kernel_rfl)) (Nat.le_of_ble_eq_true ha) (Nat.le_of_ble_eq_true (by kernel_rfl)) (z09 h)
def zh2:Reg:=⟨[],[⟨.alloc 3 81 (.agg [(.str ⟨#[]⟩),(.str ⟨#[]⟩),(.bool false)]),some 4,none,[],[]⟩],[4],[],false⟩
def z79:List ROp:=[⟨.bld [(.str ⟨#[]⟩),(.str ⟨#[]⟩),(.bool false)] [⟨2,1,(.c (.bool true))⟩],some 6,none,[5],[]⟩,⟨.alloc 3 81 (.agg [(.str ⟨#[]⟩),(.str ⟨#[]⟩),(.bool false)]),some 5,none,[],[]⟩,⟨.store 3 (.t 5) (.t 6),none,none,[],[]⟩]
def zh1:Reg:=⟨[],z79,[5],[],false⟩
def z78:List ROp:=[⟨.mv (.t 1),some 7,none,[],[]⟩,⟨.bin .lss (.t 7) (.c (.int .i64 0)),some 8,none,[],[]⟩,⟨.mv (.t 8),some 9,none,[],[]⟩,⟨.mv (.t 1),some 10,(some (9,false)),[],[]⟩,⟨.mv (.t 0),some 11,(some (9,false)),[],[]⟩,⟨.len false (.t 11),some 12,(some (9,false)),[],[]⟩,⟨.bin .gtr (.t 10) (.t 12),some 13,(some (9,false)),[],[]⟩,⟨.pick (.t 9) (.c (.bool true)) (.t 13),some 14,none,[],[]⟩]
def zh0:Reg:=⟨[],z78,[],[],false⟩
def z75:List ROp:=[⟨.bld [(.str ⟨#[]⟩),(.str ⟨#[]⟩),(.bool false)] [],some 15,none,[],[]⟩,⟨.store 3 (.t 4) (.t 15),none,none,[],[]⟩]
def zgz:Reg:=⟨[],z75,[],[],false⟩
def zgy:Reg:=⟨[],[⟨.mv (.t 1),some 16,none,[],[]⟩,⟨.bin .gtr (.t 16) (.c (.int .i64 0)),some 17,none,[],[]⟩],[],[],false⟩
def z74:List ROp:=[⟨.mv (.t 0),some 18,none,[],[]⟩,⟨.mv (.t 1),some 19,none,[],[]⟩,⟨.bin .sub (.t 19) (.c (.int .i64 1)),some 20,none,[],[]⟩,⟨.iaddr 1 (.t 18) (.t 20),some 21,none,[],[]⟩,⟨.load 1 false (.t 21),some 22,none,[],[]⟩,⟨.faddr 0 (.t 5),some 23,none,[],[]⟩,⟨.store 1 (.t 23) (.t 22),none,none,[],[]⟩]
def zgx:Reg:=⟨[],z74,[],[],false⟩
def z73:List ROp:=[⟨.mv (.t 1),some 24,none,[],[]⟩,⟨.mv (.t 0),some 25,none,[],[]⟩,⟨.len false (.t 25),some 26,none,[],[]⟩,⟨.bin .lss (.t 24) (.t 26),some 27,none,[],[]⟩]
def zgw:Reg:=⟨[],z73,[],[],false⟩
def zgv:Reg:=⟨[],[⟨.faddr 2 (.t 5),some 28,none,[],[]⟩,⟨.store 1 (.t 28) (.c (.bool false)),none,none,[],[]⟩],[],[],false⟩
def z72:List ROp:=[⟨.mv (.t 0),some 29,none,[],[]⟩,⟨.mv (.t 1),some 30,none,[],[]⟩,⟨.iaddr 1 (.t 29) (.t 30),some 31,none,[],[]⟩,⟨.load 1 false (.t 31),some 32,none,[],[]⟩,⟨.faddr 1 (.t 5),some 33,none,[],[]⟩,⟨.store 1 (.t 33) (.t 32),none,none,[],[]⟩]
def zgu:Reg:=⟨[],z72,[],[],false⟩
def z71:List ROp:=[⟨.load 3 true (.t 5),some 34,none,[35],[]⟩,⟨.callv (.c (.clo 67 [] [])) [(.t 34)],some 35,none,[],[]⟩,⟨.store 3 (.t 4) (.t 35),none,none,[],[]⟩]
def zgt:Reg:=⟨[],z71,[35],[],false⟩
def zpo:IR:=(.seq (.reg zh2)
 (.seq (.reg zh1)
 (.seq (.seq (.reg zh0)
 (.cond (.t 14) (.seq (.reg zgz)
 .ret)
 .skip))
 (.seq (.seq (.reg zgy)
 (.cond (.t 17) (.reg zgx)
 .skip))
 (.seq (.seq (.reg zgw)
 (.cond (.t 27) (.seq (.reg zgv)
 (.reg zgu))
 .skip))
 (.seq (.reg zgt)
 .ret))))))
def zg8:List RDesc:=[(.cell 4 3 true)]
theorem y2h:EqR zh2 [⟨.alloc 3 81 (.agg [(.str ⟨#[]⟩),(.str ⟨#[]⟩),(.bool false)]),some 4,none,[],[]⟩] [4]:=fun _ _ _=>rfl
theorem y2g:EqR zh1 z79 [5]:=fun _ _ _=>rfl
theorem y2f:EqR zh0 z78 []:=fun _ _ _=>rfl
theorem y2e:EqR zgz z75 []:=fun _ _ _=>rfl
theorem y2d:EqR zgy [⟨.mv (.t 1),some 16,none,[],[]⟩,⟨.bin .gtr (.t 16) (.c (.int .i64 0)),some 17,none,[],[]⟩] []:=fun _ _ _=>rfl
theorem y2c:EqR zgx z74 []:=fun _ _ _=>rfl
theorem y2b:EqR zgw z73 []:=fun _ _ _=>rfl
theorem y2a:EqR zgv [⟨.faddr 2 (.t 5),some 28,none,[],[]⟩,⟨.store 1 (.t 28) (.c (.bool false)),none,none,[],[]⟩] []:=fun _ _ _=>rfl
theorem y29:EqR zgu z72 []:=fun _ _ _=>rfl
theorem y28:EqR zgt z71 [35]:=fun _ _ _=>rfl
theorem fn_range15 {args:List AV} {r:AV} (ha:args.length.ble Tryz.f60.ntmps = true) (h:run (AFn Tryz.prog) zpo (endQ zg8 r) (z0b args)):AFn Tryz.prog 60 args r :=
 AFn.of_code (pv:=false) (hint:=fun _=>[]) (c:=Tryz.f60.body.getD .skip) (by kernel_rfl) (by kernel_rfl) Tryz.func60 (by kernel_rfl) (by kernel_rfl) (by kernel_rfl) (of_decide_eq_true (by kernel_rfl)) (Nat.le_of_ble_eq_true ha) (Nat.le_of_ble_eq_true (by kernel_rfl)) (z09 h)
attribute [local go_sem ↓] ir_find
attribute [local go_sem] y4f e_find_0 zr6 e_find_1 zr5 e_find_2 e_find_3 e_find_4 zr4 e_find_5 zr3 e_find_6 zr2 e_find_7 zr1 e_find_8 zr0 e_find_10 zfp
attribute [local go_sem ↓] zy5
attribute [local go_sem] zl3 e_rising_0 e_rising_1 e_rising_2 z9y e_rising_3 z9x zbz e_rising_4 e_rising_5 z9w e_rising_7
attribute [local go_sem ↓] zpn
attribute [local go_sem] zg7 y27 y26 z6z
attribute [local go_sem ↓] zpo
attribute [local go_sem] zg8 y2h y2g z79 y2f z78 y2e z75 y2d y2c z74 y2b z73 y2a y29 z72 y28 z71
def findInv (l:List Nd) (slot:Int) (R:Nd × Nat) (k:Nat) (σ:St):Prop :=
 ∃ (j n:Nat) (o:Nd),j≤l.length∧k = l.length - j∧n≤j∧σ.T 0 = .sl (l.map Nd.a)∧σ.T 1 = .int .i64 slot∧σ.T 4 = .ptr 4 0 0∧σ.H 4 = some ⟨10,45,[Nd.zero.a],0⟩ ∧
  σ.T 6 = .ptr 6 0 0∧σ.H 6 = some ⟨10,45,[o.a],0⟩∧σ.T 7 = .int .i64 n∧σ.T 8 = .int .i64 j∧z3v slot o n (l.drop j) = R
set_option maxHeartbeats 1000000 in
theorem y1x (l:List Nd) (slot:Int) (hl:l.length≤1000000000):AFn Tryz.prog 51 [.sl (l.map Nd.a),.int .i64 slot] (.tup [(z3w l slot).1.a,.bool (z3w l slot).2]):=by
 refine fn_find rfl ?_
 unfold z3w
 obtain ⟨R,hR⟩:∃ R,z3v slot Nd.zero 0 l = R:=⟨_,rfl⟩
 rw [hR]
 simp (maxSteps:=9^7) only [go_sem,Spn.a,Msg.a,Par.a,Nd.a]
 refine z06 (findInv l slot R) (k:=l.length) ⟨0,0,Nd.zero,by omega,rfl,by omega,rfl,rfl,?_,?_,?_,?_,rfl,rfl,hR⟩ ?_
 ·simp (maxSteps:=9^7) only [go_sem,Spn.a,Msg.a,Par.a,Nd.a]
 ·simp (maxSteps:=9^7) only [go_sem,Spn.a,Msg.a,Par.a,Nd.a]; rfl
 ·simp (maxSteps:=9^7) only [go_sem,Spn.a,Msg.a,Par.a,Nd.a]
 ·simp (maxSteps:=9^7) only [go_sem,Spn.a,Msg.a,Par.a,Nd.a]; rfl
 clear hR
 rintro k σ ⟨j,n,o,hj,rfl,hn,t0,t1,t4,h4,t6,h6,t7,t8,hr⟩
 simp only [zx3]
 by_cases hlt:j < l.length
 ·have hlt':(j:Int) < (l.length:Int):=by omega
  obtain ⟨x,hx⟩:=z0f hlt
  have hgj:=z0k (f:=Nd.a) hx
  simp only [Nd.a] at hgj h6 h4
  have hw:=z1a (j:=j) (by omega)
  have hw':=z1a (j:=n) (by omega)
  rw [z0d hx,z3v] at hr
  by_cases hs:x.slot = slot
  ·have hs':(x.slot == slot) = true:=by simp [hs]
   rw [if_pos hs] at hr
   simp (maxSteps:=9^7) only [go_sem,Spn.a,Msg.a,Par.a,Nd.a,t0,t1,t4,h4,t6,h6,t7,t8,hlt',hgj,hs',List.length_map,Int.toNat_natCast,hw,hw']
   (repeat refine And.intro (by omega) ?_)
   refine ⟨l.length - (j + 1),by omega,j + 1,n + 1,x,by omega,rfl,by omega,?_,?_,?_,?_,?_,?_,?_,?_,hr⟩
   iterate 8 focus ((simp (maxSteps:=9^7) only [go_sem,Spn.a,Msg.a,Par.a,Nd.a,t0,t1,t4,h4,t6,hw',hw]) <;> rfl)
  ·have hs':(x.slot == slot) = false:=by simp [hs]
   rw [if_neg hs] at hr
   simp (maxSteps:=9^7) only [go_sem,Spn.a,Msg.a,Par.a,Nd.a,t0,t1,t4,h4,t6,h6,t7,t8,hlt',hgj,hs',List.length_map,Int.toNat_natCast,hw]
   (repeat refine And.intro (by omega) ?_)
   refine ⟨l.length - (j + 1),by omega,j + 1,n,o,by omega,rfl,by omega,?_,?_,?_,?_,?_,?_,?_,?_,hr⟩
   iterate 8 focus ((simp (maxSteps:=9^7) only [go_sem,Spn.a,Msg.a,Par.a,Nd.a,t0,t1,t4,h4,t6,h6,t7,hw]) <;> rfl)
 ·have hlt':¬ (j:Int) < (l.length:Int):=by omega
  rw [List.drop_eq_nil_of_le (by omega)] at hr
  subst hr
  simp only [Nd.a] at h4 h6
  have hd:((n:Int) == 1) = decide (n = 1):=by
   by_cases h:n = 1
   ·simp [h]
   ·rw [decide_eq_false h]; simp; omega
  simp (maxSteps:=9^7) only [go_sem,Spn.a,Msg.a,Par.a,Nd.a,t0,t1,t4,h4,t6,h6,t7,t8,hlt',List.length_map,z3v,hd]
  exact decide_eq_decide.2 Iff.rfl
def z7z:List ByteArray->Bool
 | x :: y :: l=>lt x y && z7z (y :: l)
 | _=>true
def risInv (l:List ByteArray) (R:Bool) (k:Nat) (σ:St):Prop :=
 ∃ j:Nat,1≤j∧j≤l.length∧k = l.length - j∧σ.T 0 = .sl (l.map .str)∧σ.T 3 = .int .i64 j∧z7z (l.drop (j - 1)) = R
theorem ztb (l:List ByteArray) (hl:l.length≤1000000000) (hs:∀ x,x ∈ l->x.size≤9223372036854775807):AFn Tryz.prog 89 [.sl (l.map .str)] (.bool (z7z l)):=by
 refine fn_rising rfl ?_
 obtain ⟨R,hR⟩:∃ R,z7z l = R:=⟨_,rfl⟩
 rw [hR]
 simp (maxSteps:=9^7) only [go_sem,Spn.a,Msg.a,Par.a,Nd.a]
 by_cases h0:l.length = 0
 ·obtain rfl:l = []:=List.length_eq_zero_iff.1 h0
  subst hR
  refine z06 (fun k σ=>σ.T 0 = .sl []∧σ.T 3 = .int .i64 1) (k:=0) ⟨rfl,rfl⟩ ?_
  rintro k σ ⟨t0,t3⟩
  simp only [z84]
  have z:¬ (1:Int) < ((0:Nat):Int):=by omega
  simp (maxSteps:=9^7) only [go_sem,Spn.a,Msg.a,Par.a,Nd.a,t0,t3,z,List.length_map,Int.ofNat_zero]
  rfl
 refine z06 (risInv l R) (k:=l.length - 1) ⟨1,by omega,by omega,rfl,rfl,rfl,hR⟩ ?_
 clear hR
 rintro k σ ⟨j,h1,hj,rfl,t0,t3,hr⟩
 simp only [z84]
 by_cases hlt:j < l.length
 ·have hlt':(j:Int) < (l.length:Int):=by omega
  obtain ⟨y,hy⟩:=z0f hlt
  obtain ⟨x,hx⟩:=z0f (l:=l) (j:=j - 1) (by omega)
  have hgy:=z0k (f:=AV.str) hy
  have hgx:=z0k (f:=AV.str) hx
  have hw:=z1a (j:=j) (by omega)
  have hm:IntKind.i64.wrap ((j:Int) - 1) = ((j - 1:Nat):Int):=by rw [IntWalk.i64_in _ (by omega)]; omega
  have hj':((j - 1:Nat):Int) < (l.length:Int):=by omega
  have cl:=z3a x y (hs x (List.mem_of_getElem? hx)) (hs y (List.mem_of_getElem? hy))
  rw [z0d hx,show j - 1 + 1 = j by omega,z0d hy,z7z] at hr
  generalize lt x y = b at *
  cases b
  ·simp only [Bool.false_and] at hr
   subst hr
   (repeat (first | simp (maxSteps:=9^7) only [go_sem,Spn.a,Msg.a,Par.a,Nd.a,t0,t3,hlt',hgx,hgy,hm,hj',List.length_map,Int.toNat_natCast,hw] | refine z01 (cl) ?_ | refine z00 (cl) ?_ | refine And.intro (by omega) ?_ | refine And.intro (fun d hd=>by (repeat (rcases hd with rfl | hd; · exact ⟨rfl,rfl⟩)); cases hd) ?_))
  ·simp only [Bool.true_and] at hr
   (repeat (first | simp (maxSteps:=9^7) only [go_sem,Spn.a,Msg.a,Par.a,Nd.a,t0,t3,hlt',hgx,hgy,hm,hj',List.length_map,Int.toNat_natCast,hw] | refine z01 (cl) ?_ | refine z00 (cl) ?_ | refine And.intro (by omega) ?_ | refine And.intro (fun d hd=>by (repeat (rcases hd with rfl | hd; · exact ⟨rfl,rfl⟩)); cases hd) ?_))
   refine ⟨l.length - (j + 1),by omega,j + 1,by omega,by omega,rfl,?_,?_,by rw [Nat.add_sub_cancel,z0d hy]; exact hr⟩
   iterate 2 focus ((simp (maxSteps:=9^7) only [go_sem,Spn.a,Msg.a,Par.a,Nd.a,t0,hw]) <;> rfl)
 ·have hlt':¬ (j:Int) < (l.length:Int):=by omega
  obtain rfl:j = l.length:=by omega
  obtain ⟨x,hx⟩:=z0f (l:=l) (j:=l.length - 1) (by omega)
  rw [z0d hx,show l.length - 1 + 1 = l.length by omega,List.drop_eq_nil_of_le (Nat.le_refl _)] at hr
  subst hr
  simp (maxSteps:=9^7) only [go_sem,Spn.a,Msg.a,Par.a,Nd.a,t0,t3,hlt',List.length_map]
  rfl
def zcm (p:List ByteArray) (k:List Int):Bool:=z7z p && decide (k.length = p.length + 1)
theorem zl1 (p:List ByteArray) (k:List Int) (hp:p.length≤1000000000) (hs:∀ x,x ∈ p->x.size≤9223372036854775807):AFn Tryz.prog 58 [.sl (p.map .str),.sl (k.map (.int .i64))] (.bool (zcm p k)):=by
 refine fn_right15 rfl ?_
 have c1:=ztb p hp hs
 have hw:=z1a (j:=p.length) (by omega)
 unfold zcm
 have hd:((k.length:Int) == ((p.length + 1:Nat):Int)) = decide (k.length = p.length + 1):=by
  by_cases h:k.length = p.length + 1
  ·simp [h]
  ·rw [decide_eq_false h]; simp; omega
 generalize z7z p = b at *
 cases b
 ·(repeat (first | simp (maxSteps:=9^7) only [go_sem,Spn.a,Msg.a,Par.a,Nd.a,List.length_map] | refine z01 (c1) ?_ | refine z00 (c1) ?_ | refine And.intro (by omega) ?_ | refine And.intro (fun d hd=>by (repeat (rcases hd with rfl | hd; · exact ⟨rfl,rfl⟩)); cases hd) ?_))
 ·(repeat (first | simp (maxSteps:=9^7) only [go_sem,Spn.a,Msg.a,Par.a,Nd.a,List.length_map,hw,hd] | refine z01 (c1) ?_ | refine z00 (c1) ?_ | refine And.intro (by omega) ?_ | refine And.intro (fun d hd=>by (repeat (rcases hd with rfl | hd; · exact ⟨rfl,rfl⟩)); cases hd) ?_))
def z2f (p:List ByteArray) (j:Nat):Spn:=(⟨if j = 0 then nul0 else p.getD (j - 1) nul0,if j < p.length then p.getD j nul0 else nul0,!decide (j < p.length)⟩:Spn).norm
theorem zs8 {l:List ByteArray} {j:Nat} {d:ByteArray} (h:j < l.length):l.getD j d ∈ l:=by
 rw [List.getD_eq_getElem?_getD,List.getElem?_eq_getElem h]; exact List.getElem_mem h
theorem range15_ok (p:List ByteArray) (j:Nat) (hp:p.length≤1000000000) (hj:j≤p.length) (hs:∀ x,x ∈ p->x.size≤9223372036854775807):AFn Tryz.prog 60 [.sl (p.map .str),.int .i64 j] (z2f p j).a:=by
 refine fn_range15 rfl ?_
 have hget:∀ i,i < p.length->(p.map AV.str).getD i .und = .str (p.getD i nul0):=by
  intro i hi
  rw [List.getD_eq_getElem?_getD,List.getElem?_map,List.getD_eq_getElem?_getD,List.getElem?_eq_getElem hi]; rfl
 have n0:¬ (j:Int) < 0:=by omega
 have n1:¬ (p.length:Int) < (j:Int):=by omega
 have hm:j ≠ 0->IntKind.i64.wrap ((j:Int) - 1) = ((j - 1:Nat):Int):=fun h=>by rw [IntWalk.i64_in _ (by omega)]; omega
 have ok:∀ i,i < p.length->(p.getD i nul0).size≤9223372036854775807:=fun i hi=>hs _ (zs8 hi)
 have z:nul0.size≤9223372036854775807:=by decide
 unfold z2f
 by_cases h0:j = 0
 ·have p0:¬ (0:Int) < (j:Int):=by omega
  rw [if_pos h0]
  by_cases h1:j < p.length
  ·have q1:(j:Int) < (p.length:Int):=by omega
   have g1:=hget j h1
   rw [if_pos h1,decide_eq_true h1]
   have cN:=z4x ⟨nul0,p.getD j nul0,false⟩ ⟨z,ok j h1⟩
   generalize p.getD j nul0 = a at *
   (repeat (first | simp (maxSteps:=9^7) only [go_sem,Spn.a,Msg.a,Par.a,Nd.a,List.length_map,n0,n1,p0,q1,g1,Int.toNat_natCast] | refine z01 (cN) ?_ | refine z00 (cN) ?_ | refine And.intro (by omega) ?_ | refine And.intro (fun d hd=>by (repeat (rcases hd with rfl | hd; · exact ⟨rfl,rfl⟩)); cases hd) ?_))
   all_goals rfl
  ·have q1:¬ (j:Int) < (p.length:Int):=by omega
   rw [if_neg h1,decide_eq_false h1]
   have cN:=z4x ⟨nul0,nul0,true⟩ ⟨z,z⟩
   (repeat (first | simp (maxSteps:=9^7) only [go_sem,Spn.a,Msg.a,Par.a,Nd.a,List.length_map,n0,n1,p0,q1,Int.toNat_natCast] | refine z01 (cN) ?_ | refine z00 (cN) ?_ | refine And.intro (by omega) ?_ | refine And.intro (fun d hd=>by (repeat (rcases hd with rfl | hd; · exact ⟨rfl,rfl⟩)); cases hd) ?_))
   all_goals rfl
 ·have p0:(0:Int) < (j:Int):=by omega
  have hm:=hm h0
  have g0:=hget (j - 1) (by omega)
  have q0:((j - 1:Nat):Int) < (p.length:Int):=by omega
  have o0:=ok (j - 1) (by omega)
  rw [if_neg h0]
  by_cases h1:j < p.length
  ·have q1:(j:Int) < (p.length:Int):=by omega
   have g1:=hget j h1
   rw [if_pos h1,decide_eq_true h1]
   have cN:=z4x ⟨p.getD (j - 1) nul0,p.getD j nul0,false⟩ ⟨o0,ok j h1⟩
   generalize p.getD j nul0 = a at *
   generalize p.getD (j - 1) nul0 = b at *
   (repeat (first | simp (maxSteps:=9^7) only [go_sem,Spn.a,Msg.a,Par.a,Nd.a,List.length_map,n0,n1,p0,q0,q1,g0,g1,hm,Int.toNat_natCast] | refine z01 (cN) ?_ | refine z00 (cN) ?_ | refine And.intro (by omega) ?_ | refine And.intro (fun d hd=>by (repeat (rcases hd with rfl | hd; · exact ⟨rfl,rfl⟩)); cases hd) ?_))
   all_goals rfl
  ·have q1:¬ (j:Int) < (p.length:Int):=by omega
   rw [if_neg h1,decide_eq_false h1]
   have cN:=z4x ⟨p.getD (j - 1) nul0,nul0,true⟩ ⟨o0,z⟩
   generalize p.getD (j - 1) nul0 = b at *
   (repeat (first | simp (maxSteps:=9^7) only [go_sem,Spn.a,Msg.a,Par.a,Nd.a,List.length_map,n0,n1,p0,q0,q1,g0,hm,Int.toNat_natCast] | refine z01 (cN) ?_ | refine z00 (cN) ?_ | refine And.intro (by omega) ?_ | refine And.intro (fun d hd=>by (repeat (rcases hd with rfl | hd; · exact ⟨rfl,rfl⟩)); cases hd) ?_))
   all_goals rfl
end
section
open Go.RowKit
def ndAt (l:List Nd) (s:Int):Option Nd:=if 0≤s then l[s.toNat]? else none
def zsk (l:List Nd):Prop:=∀ (j:Nat) (n:Nd),l[j]? = some n->n.slot = (j:Int)
theorem zc8 (s:Int):∀ (l:List Nd) (i:Nat) (o:Nd) (c:Nat),(∀ (j:Nat) (n:Nd),l[j]? = some n->n.slot = ((i + j:Nat):Int)) ->
  z3v s o c l = (((if (i:Int)≤s then l[(s - i).toNat]? else none).map fun n=>(n,c + 1)).getD (o,c))
 | [],i,o,c,h=>by
  rw [z3v]
  split <;> rfl
 | x :: l,i,o,c,h=>by
  have hx:x.slot = (i:Int):=by have:=h 0 x rfl; simpa using this
  have h':∀ (j:Nat) (n:Nd),l[j]? = some n->n.slot = ((i + 1 + j:Nat):Int):=fun j n e=>by
   have:=h (j + 1) n (by simpa using e)
   rw [this]; omega
  rw [z3v,hx]
  by_cases hs:(i:Int) = s
  ·rw [if_pos hs,zc8 s l (i + 1) x (c + 1) h',if_neg (by omega),if_pos (by omega),show (s - (i:Int)).toNat = 0 by omega]
   rfl
  ·rw [if_neg hs,zc8 s l (i + 1) o c h']
   by_cases h2:(i:Int)≤s
   ·rw [if_pos h2,if_pos (by omega),show (s - (i:Int)).toNat = (s - ((i + 1:Nat):Int)).toNat + 1 by omega,List.getElem?_cons_succ]
   ·rw [if_neg h2,if_neg (by omega)]
theorem zjr {l:List Nd} (h:zsk l) (s:Int):z3w l s = (((ndAt l s).map fun n=>(n,true)).getD (Nd.zero,false)):=by
 have e:=zc8 s l 0 Nd.zero 0 (fun j n e=>by rw [h j n e]; omega)
 unfold z3w ndAt
 rw [e]
 by_cases h0:0≤s
 ·rw [if_pos h0,if_pos (by omega),show (s - ((0:Nat):Int)).toNat = s.toNat by omega]
  cases l[s.toNat]? <;> rfl
 ·rw [if_neg h0,if_neg (by omega)]; rfl
theorem z1r {l:List Nd} (h:zsk l) {s:Int} {n:Nd} (e:ndAt l s = some n):n.slot = s∧n ∈ l∧0≤s∧s < l.length:=by
 unfold ndAt at e
 by_cases h0:0≤s
 ·rw [if_pos h0] at e
  have h1:=h _ _ e
  have h2:=(List.getElem?_eq_some_iff.1 e).1
  exact ⟨by rw [h1]; omega,List.mem_of_getElem? e,h0,by omega⟩
 ·rw [if_neg h0] at e; cases e
theorem ziv {l:List Nd} {s:Int} (h0:0≤s) (h1:s < l.length):∃ n,ndAt l s = some n:=by
 unfold ndAt
 rw [if_pos h0]
 exact ⟨l[s.toNat]'(by omega),List.getElem?_eq_getElem _⟩
def nxt (n:Nd):List Int:=n.kids ++ (if n.top then [] else [n.right])
def steps (l:List Nd) (s:Int):List Int:=((ndAt l s).map nxt).getD []
def z0t (l:List Nd) (s:Int):List Int:=((ndAt l s).map Nd.kids).getD []
structure Lad (l:List Nd):Prop where
 ord:zsk l
 len:l.length≤200
 nk:∀ n,n ∈ l->n.kids.length≤2000
 kid:∀ n,n ∈ l->∀ k,k ∈ n.kids->0≤k∧k < l.length
 rt:∀ n,n ∈ l->n.right < l.length
 top:∀ n,n ∈ l->(0≤n.right ↔ n.top = false)
theorem Lad.step {l:List Nd} (h:Lad l) {s x:Int} (hx:x ∈ steps l s):0≤x∧x < l.length:=by
 unfold steps at hx
 cases e:ndAt l s with
 | none=>rw [e] at hx; cases hx
 | some n =>
  rw [e] at hx
  have hn:=(z1r h.ord e).2.1
  rcases List.mem_append.1 (show x ∈ n.kids ++ _ from hx) with q | q
  ·exact h.kid n hn x q
  ·cases ht:n.top with
   | true=>rw [ht] at q; cases q
   | false =>
    rw [ht] at q
    have:x = n.right:=by simpa using q
    exact ⟨by rw [this]; exact (h.top n hn).2 ht,by rw [this]; exact h.rt n hn⟩
theorem Lad.steps_len {l:List Nd} (h:Lad l) (s:Int):(steps l s).length≤2001:=by
 unfold steps
 cases e:ndAt l s with
 | none=>exact Nat.zero_le _
 | some n =>
  have:=h.nk n (z1r h.ord e).2.1
  show (n.kids ++ _).length≤2001
  rw [List.length_append]
  split <;> simp <;> omega
inductive Bel (l:List Nd):Int->Int->Prop
 | one {a b:Int}:b ∈ steps l a->Bel l a b
 | more {a c b:Int}:Bel l a c->b ∈ steps l c->Bel l a b
theorem zk7 {α:Type} {p q:α->Bool} (hpq:∀ x,q x = true->p x = true) {y:α} (h1:p y = true) (h2:q y = false):∀ {l:List α},y ∈ l->l.countP q < l.countP p
 | x :: l,hy=>by
  have hle:l.countP q≤l.countP p:=List.countP_mono_left fun x _ h=>hpq x h
  rw [List.countP_cons,List.countP_cons]
  rcases List.mem_cons.1 hy with e | e
  ·subst e
   rw [h1,h2]; simp; omega
  ·have ih:=zk7 hpq h1 h2 e
   cases hq:q x with
   | true=>rw [hpq x hq]; simp; omega
   | false=>cases p x <;> simp <;> omega
def left (N:Nat) (met:List Int):Nat:=(List.range N).countP fun i:Nat=>!met.contains (i:Int)
theorem zry {N:Nat} {met:List Int} {x:Int} (h0:0≤x) (h1:x < N) (hx:met.contains x = false):left N (met ++ [x]) + 1≤left N met:=by
 unfold left
 refine zk7 (y:=x.toNat) (fun i hi=>?_) ?_ ?_ (List.mem_range.2 (by omega))
 ·rw [Bool.not_eq_true',List.contains_eq_mem,decide_eq_false_iff_not] at hi ⊢
  exact fun h=>hi (List.mem_append.2 (.inl h))
 ·rw [show ((x.toNat:Nat):Int) = x by omega,hx]; rfl
 ·rw [show ((x.toNat:Nat):Int) = x by omega]
  simp
def goL (l:List Nd):Nat->List Int->List Int->List Int
 | 0,met,_=>met
 | _ + 1,met,[]=>met
 | f + 1,met,n :: todo=>if met.contains n then goL l f met todo else goL l f (met ++ [n]) (todo ++ steps l n)
def mesL (l:List Nd) (met todo:List Int):Nat:=left l.length met * 2002 + todo.length
def belowL (l:List Nd) (a:Int):List Int:=goL l (mesL l [] (steps l a)) [] (steps l a)
theorem zxs {l:List Nd} (h:Lad l) {met todo:List Int} {n:Int} (h0:0≤n∧n < l.length) (hn:met.contains n = false):mesL l (met ++ [n]) (todo ++ steps l n) < mesL l met (n :: todo):=by
 have h1:=zry (N:=l.length) h0.1 h0.2 hn
 have h2:=h.steps_len n
 unfold mesL
 rw [List.length_append,List.length_cons]
 have h3:(left l.length (met ++ [n]) + 1) * 2002≤left l.length met * 2002:=Nat.mul_le_mul_right _ h1
 omega
theorem y1v {l : List Nd} (h : Lad l) (a : Int) : ∀ (f : Nat) (met todo : List Int), mesL l met todo ≤ f → (∀ x, x ∈ met → Bel l a x) → (∀ x, x ∈ todo → Bel l a x ∧ 0 ≤ x ∧ x < l.length) →
    (∀ x, x ∈ steps l a → x ∈ met ∨ x ∈ todo) → (∀ c, c ∈ met → ∀ x, x ∈ steps l c → x ∈ met ∨ x ∈ todo) → ∀ b, b ∈ goL l f met todo ↔ Bel l a b
  | 0, met, todo, hf, h1, h2, h3, h4, b => by
    have ht : todo = [] := by
      unfold mesL at hf
      exact List.length_eq_zero_iff.1 (by omega)
    subst ht
    rw [goL]
    refine ⟨h1 b, fun hb => ?_⟩
    induction hb with
    | one hb => rcases h3 _ hb with q | q
                · exact q
                · cases q
    | more _ hb ih => rcases h4 _ ih _ hb with q | q
                      · exact q
                      · cases q
  | f + 1, met, [], hf, h1, h2, h3, h4, b => by
    rw [goL]
    refine ⟨h1 b, fun hb => ?_⟩
    induction hb with
    | one hb => rcases h3 _ hb with q | q
                · exact q
                · cases q
    | more _ hb ih => rcases h4 _ ih _ hb with q | q
                      · exact q
                      · cases q
  | f + 1, met, n :: todo, hf, h1, h2, h3, h4, b => by
    rw [goL]
    have hn := h2 n (List.mem_cons_self ..)
    cases hc : met.contains n with
    | true =>
      rw [if_pos rfl]
      have hm : n ∈ met := by simpa using hc
      have lift : ∀ x, x ∈ met ∨ x ∈ n :: todo → x ∈ met ∨ x ∈ todo := fun x q => by
        rcases q with q | q
        · exact .inl q
        · rcases List.mem_cons.1 q with e | e
          · exact .inl (by rw [e]; exact hm)
          · exact .inr e
      refine y1v h a f met todo ?_ h1 (fun x hx => h2 x (List.mem_cons_of_mem _ hx)) (fun x hx => lift x (h3 x hx)) (fun c hc x hx => lift x (h4 c hc x hx)) b
      unfold mesL at hf ⊢
      rw [List.length_cons] at hf
      omega
    | false =>
      rw [if_neg (by decide)]
      have lift : ∀ x, x ∈ met ∨ x ∈ n :: todo → x ∈ met ++ [n] ∨ x ∈ todo ++ steps l n := fun x q => by
        rcases q with q | q
        · exact .inl (List.mem_append.2 (.inl q))
        · rcases List.mem_cons.1 q with e | e
          · exact .inl (List.mem_append.2 (.inr (by simp [e])))
          · exact .inr (List.mem_append.2 (.inl e))
      have hlt := zxs h (todo := todo) hn.2 hc
      refine y1v h a f (met ++ [n]) (todo ++ steps l n) (by omega) (fun x hx => ?_) (fun x hx => ?_) (fun x hx => lift x (h3 x hx)) (fun c hc x hx => ?_) b
      · rcases List.mem_append.1 hx with q | q
        · exact h1 x q
        · rw [show x = n by simpa using q]; exact hn.1
      · rcases List.mem_append.1 hx with q | q
        · exact h2 x (List.mem_cons_of_mem _ q)
        · exact ⟨.more hn.1 q, h.step q⟩
      · rcases List.mem_append.1 hc with q | q
        · exact lift x (h4 c q x hx)
        · rw [show c = n by simpa using q] at hx
          exact .inr (List.mem_append.2 (.inr hx))
theorem zcf {l:List Nd} (h:Lad l) (a b:Int):b ∈ belowL l a ↔ Bel l a b :=
 y1v h a _ _ _ (Nat.le_refl _) (fun x hx=>by cases hx) (fun x hx=>⟨.one hx,h.step hx⟩) (fun x hx=>.inr hx) (fun c hc=>by cases hc) b
def z21:List Int->List Int->List Int
 | met,[]=>met
 | met,x :: xs=>z21 (if met.contains x then met else met ++ [x]) xs
def goR (l:List Nd) (a:Int):Nat->List Int->Nat->List Int
 | 0,met,_=>met
 | f + 1,met,i=>match (a :: met)[i]? with
  | none=>met
  | some c=>goR l a f (z21 met (steps l c)) (i + 1)
def mesR (l:List Nd) (met:List Int) (i:Nat):Nat:=left l.length met + (met.length + 1 - i)
def y8f (l:List Nd) (a:Int):List Int:=goR l a (mesR l [] 0) [] 0
theorem z3p:∀ (xs met:List Int),∃ ys,z21 met xs = met ++ ys∧∀ y,y ∈ ys->y ∈ xs
 | [],met=>⟨[],by simp [z21],fun y hy=>by cases hy⟩
 | x :: xs,met=>by
  rw [z21]
  split
  ·obtain ⟨ys,e1,e2⟩:=z3p xs met
   exact ⟨ys,e1,fun y hy=>List.mem_cons_of_mem _ (e2 y hy)⟩
  ·obtain ⟨ys,e1,e2⟩:=z3p xs (met ++ [x])
   refine ⟨x :: ys,by rw [e1,List.append_assoc]; rfl,fun y hy=>?_⟩
   rcases List.mem_cons.1 hy with e | e
   ·rw [e]; exact List.mem_cons_self ..
   ·exact List.mem_cons_of_mem _ (e2 y e)
theorem zq8:∀ (xs met:List Int) (x:Int),x ∈ xs->x ∈ z21 met xs
 | y :: xs,met,x,h=>by
  rw [z21]
  rcases List.mem_cons.1 h with e | e
  ·subst e
   obtain ⟨ys,e1,_⟩:=z3p xs (if met.contains x then met else met ++ [x])
   rw [e1]
   refine List.mem_append.2 (.inl ?_)
   split
   ·rename_i hc; simpa using hc
   ·simp
  ·exact zq8 xs _ x e
theorem zki {N:Nat}:∀ (xs met:List Int),(∀ x,x ∈ xs->0≤x∧x < N)->left N (z21 met xs) + (z21 met xs).length≤left N met + met.length
 | [],met,_=>Nat.le_refl _
 | x :: xs,met,h=>by
  rw [z21]
  have ih:=zki xs (if met.contains x then met else met ++ [x]) (fun y hy=>h y (List.mem_cons_of_mem _ hy))
  refine Nat.le_trans ih ?_
  cases hc:met.contains x with
  | true=>exact Nat.le_refl _
  | false =>
   have h0:=h x (List.mem_cons_self ..)
   have:=zry (N:=N) h0.1 h0.2 hc
   show left N (met ++ [x]) + (met ++ [x]).length≤_
   rw [List.length_append]
   simp only [List.length_cons,List.length_nil]
   omega
theorem zxr {l:List Nd} (h:Lad l) {a c:Int} {met:List Int} {i:Nat} (hc:(a :: met)[i]? = some c):mesR l (z21 met (steps l c)) (i + 1) < mesR l met i:=by
 have h1:=zki (N:=l.length) (steps l c) met (fun x hx=>h.step hx)
 have h2:=(List.getElem?_eq_some_iff.1 hc).1
 rw [List.length_cons] at h2
 obtain ⟨ys,e1,_⟩:=z3p (steps l c) met
 have h3:met.length≤(z21 met (steps l c)).length:=by rw [e1,List.length_append]; omega
 unfold mesR
 omega
theorem goR_mem {l:List Nd} (h:Lad l) (a:Int):∀ (f:Nat) (met:List Int) (i:Nat),mesR l met i≤f->(∀ x,x ∈ met->Bel l a x)->(∀ (j:Nat) (c:Int),j < i->(a :: met)[j]? = some c->∀ x,x ∈ steps l c->x ∈ met) ->
  ∀ b,b ∈ goR l a f met i ↔ Bel l a b:=by
 have fin:∀ (met:List Int) (i:Nat),(a :: met)[i]? = none->(∀ x,x ∈ met->Bel l a x)->(∀ (j:Nat) (c:Int),j < i->(a :: met)[j]? = some c->∀ x,x ∈ steps l c->x ∈ met)->∀ b,b ∈ met ↔ Bel l a b:=by
  intro met i hi h1 h2 b
  have hlen:=List.getElem?_eq_none_iff.1 hi
  refine ⟨h1 b,fun hb=>?_⟩
  induction hb with
  | one hb=>exact h2 0 a (by rw [List.length_cons] at hlen; omega) rfl _ hb
  | more _ hb ih =>
   obtain ⟨j,hj⟩:=List.mem_iff_getElem?.1 ih
   have:=(List.getElem?_eq_some_iff.1 hj).1
   exact h2 (j + 1) _ (by rw [List.length_cons] at hlen; omega) (by simpa using hj) _ hb
 intro f
 induction f with
 | zero =>
  intro met i hf h1 h2 b
  rw [goR]
  refine fin met i ?_ h1 h2 b
  unfold mesR at hf
  exact List.getElem?_eq_none_iff.2 (by rw [List.length_cons]; omega)
 | succ f ih =>
  intro met i hf h1 h2 b
  rw [goR]
  cases hc:(a :: met)[i]? with
  | none=>exact fin met i hc h1 h2 b
  | some c =>
   have hlt:=zxr h hc
   obtain ⟨ys,e1,e2⟩:=z3p (steps l c) met
   have hb:c = a∨c ∈ met:=by
    rcases List.mem_cons.1 (List.mem_of_getElem? hc) with q | q
    ·exact .inl q
    ·exact .inr q
   refine ih (z21 met (steps l c)) (i + 1) (by omega) (fun x hx=>?_) (fun j c' hj hc' x hx=>?_) b
   ·rw [e1] at hx
    rcases List.mem_append.1 hx with q | q
    ·exact h1 x q
    ·rcases hb with e | e
     ·rw [e] at e2; exact .one (e2 x q)
     ·exact .more (h1 c e) (e2 x q)
   ·by_cases hji:j = i
    ·subst hji
     have hl:=(List.getElem?_eq_some_iff.1 hc).1
     have:c' = c:=by
      rw [e1,← List.cons_append,List.getElem?_append_left hl,hc] at hc'
      cases hc'; rfl
     rw [this] at hx
     exact zq8 _ _ _ hx
    ·have hl:=(List.getElem?_eq_some_iff.1 hc).1
     have hc2:(a :: met)[j]? = some c':=by
      rw [e1,← List.cons_append,List.getElem?_append_left (by omega)] at hc'
      exact hc'
     rw [e1]
     exact List.mem_append.2 (.inl (h2 j c' (by omega) hc2 x hx))
theorem belowR_mem {l:List Nd} (h:Lad l) (a b:Int):b ∈ y8f l a ↔ Bel l a b :=
 goR_mem h a _ _ _ (Nat.le_refl _) (fun x hx=>by cases hx) (fun j c hj=>absurd hj (by omega)) b
theorem below_same {l:List Nd} (h:Lad l) (a b:Int):(belowL l a).contains b = (y8f l a).contains b:=by
 rw [List.contains_eq_mem,List.contains_eq_mem]
 exact decide_eq_decide.2 ((zcf h a b).trans (belowR_mem h a b).symm)
end
section
open Go.RowKit
attribute [local go_sem ↓] z18 z0h
def zvx:Reg:=⟨[],[⟨.mv (.c (.bool false)),some 4,none,[],[]⟩],[],[],false⟩
def zvw:Reg:=⟨[],[⟨.mv (.c (.int .i64 0)),some 5,none,[],[]⟩],[],[],false⟩
def zf4:List ROp:=[⟨.mv (.t 5),some 6,none,[],[]⟩,⟨.mv (.t 0),some 7,none,[],[]⟩,⟨.len false (.t 7),some 8,none,[],[]⟩,⟨.bin .lss (.t 6) (.t 8),some 9,none,[],[]⟩]
def zvv:Reg:=⟨[],zf4,[],[],false⟩
def zf3:List ROp:=[⟨.mv (.t 0),some 12,none,[],[]⟩,⟨.mv (.t 5),some 13,none,[],[]⟩,⟨.iaddr 1 (.t 12) (.t 13),some 14,none,[],[]⟩,⟨.load 1 false (.t 14),some 15,none,[],[]⟩,⟨.mv (.t 1),some 16,none,[],[]⟩,⟨.bin .eql (.t 15) (.t 16),some 17,none,[],[]⟩]
def zvu:Reg:=⟨[],zf3,[],[],false⟩
def zvt:Reg:=⟨[],[⟨.mv (.c (.bool true)),some 4,none,[],[]⟩],[],[],false⟩
def zf2:List ROp:=[⟨.mv (.t 5),some 10,none,[],[]⟩,⟨.bin .add (.t 10) (.c (.int .i64 1)),some 11,none,[],[]⟩,⟨.mv (.t 11),some 5,none,[],[]⟩]
def zvs:Reg:=⟨[],zf2,[],[],false⟩
def zn3:IR:=(.seq (.seq (.reg zvv)
 (.cond (.t 9) .skip
 (.exit 0)))
 (.seq (.block 1 (.seq (.reg zvu)
 (.cond (.t 17) (.seq (.reg zvt)
 .ret)
 .skip)))
 (.reg zvs)))
def zvr:Reg:=⟨[],[⟨.mv (.c (.bool false)),some 4,none,[],[]⟩],[],[],false⟩
def y7a:IR:=(.seq (.reg zvx)
 (.seq (.seq (.reg zvw)
 (.block 0 (.loop zn3)))
 (.seq (.reg zvr)
 .ret)))
def ztn:List RDesc:=[(.tmp 4)]
theorem e_r55in_0:EqR zvx [⟨.mv (.c (.bool false)),some 4,none,[],[]⟩] []:=fun _ _ _=>rfl
theorem e_r55in_1:EqR zvw [⟨.mv (.c (.int .i64 0)),some 5,none,[],[]⟩] []:=fun _ _ _=>rfl
theorem e_r55in_2:EqR zvv zf4 []:=fun _ _ _=>rfl
theorem e_r55in_3:EqR zvu zf3 []:=fun _ _ _=>rfl
theorem e_r55in_4:EqR zvt [⟨.mv (.c (.bool true)),some 4,none,[],[]⟩] []:=fun _ _ _=>rfl
theorem e_r55in_5:EqR zvs zf2 []:=fun _ _ _=>rfl
theorem e_r55in_7:EqR zvr [⟨.mv (.c (.bool false)),some 4,none,[],[]⟩] []:=fun _ _ _=>rfl
theorem fn_r55in {args:List AV} {r:AV} (ha:args.length.ble Tryz.f8.ntmps = true) (h:run (AFn Tryz.prog) y7a (endQ ztn r) (z0b args)):AFn Tryz.prog 8 args r :=
 AFn.of_code (pv:=false) (hint:=fun _=>[]) (c:=Tryz.f8.body.getD .skip) (by kernel_rfl) (by kernel_rfl) Tryz.func8 (by kernel_rfl) (by kernel_rfl) (by kernel_rfl) (of_decide_eq_true (by kernel_rfl)) (Nat.le_of_ble_eq_true ha) (Nat.le_of_ble_eq_true (by kernel_rfl)) (z09 h)
def y56:Reg:=⟨[],[⟨.mv (.c (.bool false)),some 6,none,[],[]⟩],[],[],false⟩
def y55:Reg:=⟨[],[⟨.mknil 1 3,some 7,none,[],[]⟩],[7],[],false⟩
def zqo:List ROp:=[⟨.mv (.t 1),some 15,none,[16],[]⟩,⟨.bsl 1 3 [(.t 15)],some 16,none,[],[]⟩,⟨.mv (.t 16),some 8,none,[],[]⟩]
def y54:Reg:=⟨[],zqo,[16],[],false⟩
def y53:Reg:=⟨[],[⟨.mv (.c (.int .i64 0)),some 9,none,[],[]⟩],[],[],false⟩
def zqn:List ROp:=[⟨.mv (.t 9),some 17,none,[],[]⟩,⟨.mv (.t 8),some 18,none,[],[]⟩,⟨.len false (.t 18),some 19,none,[],[]⟩,⟨.bin .lss (.t 17) (.t 19),some 20,none,[],[]⟩]
def y52:Reg:=⟨[],zqn,[],[],false⟩
def zqm:List ROp:=[⟨.mv (.t 0),some 24,none,[29,10],[]⟩,⟨.mv (.t 8),some 25,none,[29,10],[]⟩,⟨.mv (.t 9),some 26,none,[29,10],[]⟩,⟨.iaddr 1 (.t 25) (.t 26),some 27,none,[29,10],[]⟩,⟨.load 1 false (.t 27),some 28,none,[29,10],[]⟩,⟨.callv (.c (.clo 51 [] [])) [(.t 24),(.t 28)],some 29,none,[10],[]⟩,⟨.mv (.t 29),some 23,none,[10],[]⟩,⟨.ext 0 (.t 23),some 30,none,[10],[]⟩,⟨.ext 1 (.t 23),some 31,none,[10],[]⟩,⟨.alloc 10 45 (.agg [(.int .i64 0),(.int .i64 0),(.sl []),(.sl []),(.str ⟨#[]⟩),(.bool false),(.int .i64 0),(.int .i64 0),(.sl []),(.sl [])]),some 10,none,[],[]⟩,⟨.store 10 (.t 10) (.t 30),none,none,[],[]⟩,⟨.mv (.t 31),some 11,none,[],[]⟩]
def y51:Reg:=⟨[],zqm,[29,10],[],false⟩
def y50:Reg:=⟨[],[⟨.mv (.t 11),some 32,none,[],[]⟩,⟨.un .not (.t 32),some 33,none,[],[]⟩],[],[],false⟩
def zql:List ROp:=[⟨.bsl 1 3 [],some 34,none,[],[]⟩,⟨.faddr 3 (.t 10),some 35,none,[],[]⟩,⟨.load 1 false (.t 35),some 36,none,[],[]⟩,⟨.append 1 3 8 (.t 34) (.t 36),some 37,none,[],[]⟩,⟨.mv (.t 37),some 12,none,[],[]⟩]
def y4z:Reg:=⟨[],zql,[34],[],false⟩
def zqk:List ROp:=[⟨.faddr 6 (.t 10),some 38,none,[],[]⟩,⟨.load 1 false (.t 38),some 39,none,[],[]⟩,⟨.bin .geq (.t 39) (.c (.int .i64 0)),some 40,none,[],[]⟩]
def y4y:Reg:=⟨[],zqk,[],[],false⟩
def zqj:List ROp:=[⟨.mv (.t 12),some 41,none,[44],[]⟩,⟨.faddr 6 (.t 10),some 42,none,[44],[]⟩,⟨.load 1 false (.t 42),some 43,none,[44],[]⟩,⟨.bsl 1 3 [(.t 43)],some 44,none,[],[]⟩,⟨.append 1 3 8 (.t 41) (.t 44),some 45,none,[],[]⟩,⟨.mv (.t 45),some 12,none,[],[]⟩]
def y4x:Reg:=⟨[],zqj,[44],[],false⟩
def zfb:List ROp:=[⟨.mv (.t 12),some 46,none,[],[]⟩,⟨.len false (.t 46),some 47,none,[],[]⟩,⟨.mv (.c (.int .i64 0)),some 48,none,[],[]⟩]
def zw6:Reg:=⟨[],zfb,[],[],false⟩
def zw5:Reg:=⟨[],[⟨.bin .lss (.t 48) (.t 47),some 49,none,[],[]⟩],[],[],false⟩
def zfa:List ROp:=[⟨.iaddr 1 (.t 46) (.t 48),some 50,none,[],[]⟩,⟨.load 1 false (.t 50),some 51,none,[],[]⟩,⟨.mv (.t 51),some 14,none,[],[]⟩]
def zw4:Reg:=⟨[],zfa,[],[],false⟩
def zf9:List ROp:=[⟨.mv (.t 7),some 52,none,[54],[]⟩,⟨.mv (.t 14),some 53,none,[54],[]⟩,⟨.callv (.c (.clo 8 [] [])) [(.t 52),(.t 53)],some 54,none,[],[]⟩,⟨.un .not (.t 54),some 55,none,[],[]⟩]
def zw3:Reg:=⟨[],zf9,[54],[],false⟩
def zf8:List ROp:=[⟨.mv (.t 7),some 56,none,[58],[]⟩,⟨.mv (.t 14),some 57,none,[58],[]⟩,⟨.bsl 1 3 [(.t 57)],some 58,none,[],[]⟩,⟨.append 1 3 8 (.t 56) (.t 58),some 59,none,[],[]⟩,⟨.mv (.t 59),some 7,none,[],[]⟩]
def zw2:Reg:=⟨[],zf8,[58],[],false⟩
def zf7:List ROp:=[⟨.mv (.t 8),some 60,none,[62],[]⟩,⟨.mv (.t 14),some 61,none,[62],[]⟩,⟨.bsl 1 3 [(.t 61)],some 62,none,[],[]⟩,⟨.append 1 3 8 (.t 60) (.t 62),some 63,none,[],[]⟩,⟨.mv (.t 63),some 8,none,[],[]⟩]
def zw1:Reg:=⟨[],zf7,[62],[],false⟩
def zw0:Reg:=⟨[],[⟨.bin .add (.t 48) (.c (.int .i64 1)),some 64,none,[],[]⟩,⟨.mv (.t 64),some 48,none,[],[]⟩],[],[],false⟩
def zbf:IR:=(.seq (.reg zw5)
 (.seq (.cond (.t 49) .skip
 (.exit 2))
 (.seq (.block 3 (.seq (.reg zw4)
 (.seq (.reg zw3)
 (.cond (.t 55) (.seq (.reg zw2)
 (.reg zw1))
 .skip))))
 (.reg zw0))))
def zf6:List ROp:=[⟨.mv (.t 9),some 21,none,[],[]⟩,⟨.bin .add (.t 21) (.c (.int .i64 1)),some 22,none,[],[]⟩,⟨.mv (.t 22),some 9,none,[],[]⟩]
def zvz:Reg:=⟨[],zf6,[],[],false⟩
def zn4:IR:=(.seq (.seq (.reg y52)
 (.cond (.t 20) .skip
 (.exit 0)))
 (.seq (.block 1 (.seq (.reg y51)
 (.seq (.seq (.reg y50)
 (.cond (.t 33) (.exit 1)
 .skip))
 (.seq (.reg y4z)
 (.seq (.seq (.reg y4y)
 (.cond (.t 40) (.reg y4x)
 .skip))
 (.seq (.reg zw6)
 (.block 2 (.loop zbf))))))))
 (.reg zvz)))
def zf5:List ROp:=[⟨.mv (.t 7),some 65,none,[67],[]⟩,⟨.mv (.t 2),some 66,none,[67],[]⟩,⟨.callv (.c (.clo 8 [] [])) [(.t 65),(.t 66)],some 67,none,[],[]⟩,⟨.mv (.t 67),some 6,none,[],[]⟩]
def zvy:Reg:=⟨[],zf5,[67],[],false⟩
def ir_r55b:IR:=(.seq (.reg y56)
 (.seq (.reg y55)
 (.seq (.reg y54)
 (.seq (.seq (.reg y53)
 (.block 0 (.loop zn4)))
 (.seq (.reg zvy)
 .ret)))))
def y4d:List RDesc:=[(.tmp 6)]
theorem e_r55b_0:EqR y56 [⟨.mv (.c (.bool false)),some 6,none,[],[]⟩] []:=fun _ _ _=>rfl
theorem e_r55b_1:EqR y55 [⟨.mknil 1 3,some 7,none,[],[]⟩] [7]:=fun _ _ _=>rfl
theorem e_r55b_2:EqR y54 zqo [16]:=fun _ _ _=>rfl
theorem e_r55b_3:EqR y53 [⟨.mv (.c (.int .i64 0)),some 9,none,[],[]⟩] []:=fun _ _ _=>rfl
theorem e_r55b_4:EqR y52 zqn []:=fun _ _ _=>rfl
theorem e_r55b_5:EqR y51 zqm [29,10]:=fun _ _ _=>rfl
theorem e_r55b_6:EqR y50 [⟨.mv (.t 11),some 32,none,[],[]⟩,⟨.un .not (.t 32),some 33,none,[],[]⟩] []:=fun _ _ _=>rfl
theorem e_r55b_7:EqR y4z zql [34]:=fun _ _ _=>rfl
theorem e_r55b_8:EqR y4y zqk []:=fun _ _ _=>rfl
theorem e_r55b_9:EqR y4x zqj [44]:=fun _ _ _=>rfl
theorem e_r55b_10:EqR zw6 zfb []:=fun _ _ _=>rfl
theorem e_r55b_11:EqR zw5 [⟨.bin .lss (.t 48) (.t 47),some 49,none,[],[]⟩] []:=fun _ _ _=>rfl
theorem e_r55b_12:EqR zw4 zfa []:=fun _ _ _=>rfl
theorem e_r55b_13:EqR zw3 zf9 [54]:=fun _ _ _=>rfl
theorem e_r55b_14:EqR zw2 zf8 [58]:=fun _ _ _=>rfl
theorem e_r55b_15:EqR zw1 zf7 [62]:=fun _ _ _=>rfl
theorem e_r55b_16:EqR zw0 [⟨.bin .add (.t 48) (.c (.int .i64 1)),some 64,none,[],[]⟩,⟨.mv (.t 64),some 48,none,[],[]⟩] []:=fun _ _ _=>rfl
theorem e_r55b_18:EqR zvz zf6 []:=fun _ _ _=>rfl
theorem e_r55b_20:EqR zvy zf5 [67]:=fun _ _ _=>rfl
theorem fn_r55b {args:List AV} {r:AV} (ha:args.length.ble Tryz.f24.ntmps = true) (h:run (AFn Tryz.prog) ir_r55b (endQ y4d r) (z0b args)):AFn Tryz.prog 24 args r :=
 AFn.of_code (pv:=false) (hint:=fun _=>[]) (c:=Tryz.f24.body.getD .skip) (by kernel_rfl) (by kernel_rfl) Tryz.func24 (by kernel_rfl) (by kernel_rfl) (by kernel_rfl) (of_decide_eq_true (by kernel_rfl)) (Nat.le_of_ble_eq_true ha) (Nat.le_of_ble_eq_true (by kernel_rfl)) (z09 h)
attribute [local go_sem ↓] y7a
attribute [local go_sem] ztn e_r55in_0 e_r55in_1 e_r55in_2 zf4 e_r55in_3 zf3 e_r55in_4 e_r55in_5 zf2 e_r55in_7
attribute [local go_sem ↓] ir_r55b
attribute [local go_sem] y4d e_r55b_0 e_r55b_1 e_r55b_2 zqo e_r55b_3 e_r55b_4 zqn e_r55b_5 zqm e_r55b_6 e_r55b_7 zql e_r55b_8 zqk e_r55b_9 zqj e_r55b_10 zfb e_r55b_11 e_r55b_12 zfa e_r55b_13 zf9 e_r55b_14 zf8 e_r55b_15 zf7 e_r55b_16 e_r55b_18 zf6 e_r55b_20 zf5
def r55Inv (l:List Int) (s:Int) (R:Bool) (k:Nat) (σ:St):Prop :=
 ∃ j:Nat,j≤l.length∧k = l.length - j∧σ.T 0 = .sl (l.map (AV.int .i64))∧σ.T 1 = .int .i64 s∧σ.T 5 = .int .i64 j∧(l.drop j).contains s = R
theorem zrm (l:List Int) (s:Int) (hl:l.length≤1000000):AFn Tryz.prog 8 [.sl (l.map (AV.int .i64)),.int .i64 s] (.bool (l.contains s)):=by
 refine fn_r55in rfl ?_
 obtain ⟨R,hR⟩:∃ R,l.contains s = R:=⟨_,rfl⟩
 rw [hR]
 simp (maxSteps:=9^7) only [go_sem,Msg.a,Par.a,List.length_map]
 refine z06 (r55Inv l s R) (k:=l.length) ⟨0,by omega,rfl,?_,?_,?_,hR⟩ ?_
 iterate 3 focus ((simp (maxSteps:=9^7) only [go_sem,Msg.a,Par.a]) <;> rfl)
 clear hR
 rintro k σ ⟨j,hj,rfl,t0,t1,t5,hr⟩
 simp only [zn3]
 by_cases hlt:j < l.length
 case neg =>
  have hlt':¬ (j:Int) < (l.length:Int):=by omega
  rw [List.drop_eq_nil_of_le (by omega),List.contains_nil] at hr
  subst hr
  simp (maxSteps:=9^7) only [go_sem,Msg.a,Par.a,t0,t1,t5,hlt',List.length_map]
 have hlt':(j:Int) < (l.length:Int):=by omega
 obtain ⟨x,hx⟩:=z0f hlt
 have hgx:=z0k (f:=AV.int .i64) hx
 have hw:=z1a (j:=j) (by omega)
 rw [z0d hx,List.contains_cons] at hr
 by_cases hs:x = s
 ·have hs':(x == s) = true:=by simp [hs]
  rw [show (s == x) = true by simp [hs],Bool.true_or] at hr
  subst hr
  simp (maxSteps:=9^7) only [go_sem,Msg.a,Par.a,t0,t1,t5,hlt',hgx,hs',List.length_map,Int.toNat_natCast]
  all_goals omega
 ·have hs':(x == s) = false:=by simp [hs]
  rw [show (s == x) = false by simpa using fun e:s = x=>hs e.symm,Bool.false_or] at hr
  simp (maxSteps:=9^7) only [go_sem,Msg.a,Par.a,t0,t1,t5,hlt',hgx,hs',hw,List.length_map,Int.toNat_natCast]
  (repeat refine And.intro (by omega) ?_)
  refine ⟨l.length - (j + 1),by omega,j + 1,by omega,rfl,?_,?_,?_,hr⟩
  iterate 3 focus ((simp (maxSteps:=9^7) only [go_sem,Msg.a,Par.a,t0,t1,hw]) <;> rfl)
def rbI (l:List Nd) (a b:Int) (M xs:List Int) (i:Nat) (k:Nat) (σ:St):Prop :=
 ∃ (j p:Nat) (m:List Int),j≤xs.length∧k = xs.length - j∧z21 m (xs.drop j) = M∧p≤m.length∧left l.length m + m.length≤200∧σ.T 46 = .rs 34 0 xs.length∧σ.H 34 = some ⟨1,3,xs.map (AV.int .i64),0⟩∧σ.T 47 = .int .i64 xs.length∧σ.T 48 = .int .i64 j ∧
  σ.T 0 = .sl (l.map Nd.a)∧σ.T 2 = .int .i64 b∧σ.T 7 = .rs 7 0 m.length∧σ.H 7 = some ⟨1,3,m.map (AV.int .i64),p⟩∧σ.T 8 = .rs 16 0 (m.length + 1)∧σ.H 16 = some ⟨1,3,.int .i64 a :: m.map (AV.int .i64),0⟩∧σ.T 9 = .int .i64 i
def rbEnd (l:List Nd) (a b:Int) (M:List Int) (i:Nat) (σ:St):Prop :=
 ∃ p:Nat,p≤M.length∧left l.length M + M.length≤200∧σ.T 0 = .sl (l.map Nd.a)∧σ.T 2 = .int .i64 b∧σ.T 7 = .rs 7 0 M.length∧σ.H 7 = some ⟨1,3,M.map (AV.int .i64),p⟩∧σ.T 8 = .rs 16 0 (M.length + 1)∧σ.H 16 = some ⟨1,3,.int .i64 a :: M.map (AV.int .i64),0⟩∧σ.T 9 = .int .i64 i
set_option maxHeartbeats 8000000 in
theorem y8h (l:List Nd) (a b:Int) (M xs:List Int) (i:Nat) (hx:∀ x,x ∈ xs->0≤x∧x < l.length) (hxs:xs.length≤2001) (Q:XK->St->Prop) (hEnd:∀ σ,rbEnd l a b M i σ->Q (.exit 2) σ) (k:Nat) (σ:St) (hI:rbI l a b M xs i k σ) :
  run (AFn Tryz.prog) zbf (z2h (fun σ'=>∃ m,m < k∧rbI l a b M xs i m σ') Q) σ:=by
 obtain ⟨j,p,m,hj,rfl,hM,hp,hlen,t46,h34,t47,t48,t0,t2,t7,h7,t8,h16,t9⟩:=hI
 simp only [zbf]
 by_cases hlt:j < xs.length
 case neg =>
  have hlt':¬ (j:Int) < (xs.length:Int):=by omega
  rw [List.drop_eq_nil_of_le (by omega),z21] at hM
  subst hM
  simp (maxSteps:=9^7) only [go_sem,Msg.a,Par.a,t47,t48,hlt']
  refine hEnd _ ⟨p,hp,hlen,?_,?_,?_,?_,?_,?_,?_⟩
  iterate 7 focus ((simp (maxSteps:=9^7) only [go_sem,Msg.a,Par.a,t0,t2,t7,h7,t8,h16,t9]) <;> rfl)
 have hlt':(j:Int) < (xs.length:Int):=by omega
 obtain ⟨x,hxj⟩:=z0f hlt
 have hgx:=z0k (f:=AV.int .i64) hxj
 have hxr:=hx x (List.mem_of_getElem? hxj)
 have hw:=z1a (j:=j) (by omega)
 have cI:=zrm m x (by omega)
 have tk:List.take m.length (m.map (AV.int .i64)) = m.map (AV.int .i64):=List.take_of_length_le (by simp)
 rw [z0d hxj,z21] at hM
 cases hc:m.contains x with
 | true =>
  rw [hc] at cI
  rw [hc,if_pos rfl] at hM
  (repeat (first | simp (maxSteps:=9^7) only [go_sem,Msg.a,Par.a,t46,h34,t47,t48,t0,t2,t7,h7,t8,h16,t9,hlt',hgx,hw,tk,hlt,Int.toNat_natCast,List.length_map,Nat.zero_add] | refine z01 (cI) ?_ | refine z00 (cI) ?_ | refine And.intro (by omega) ?_ | refine And.intro (fun d hd=>by (repeat (rcases hd with rfl | hd; · exact ⟨rfl,rfl⟩)); cases hd) ?_))
  refine ⟨xs.length - (j + 1),by omega,j + 1,p,m,by omega,rfl,hM,hp,hlen,?_,?_,?_,?_,?_,?_,?_,?_,?_,?_,?_⟩
  iterate 11 focus ((simp (maxSteps:=9^7) only [go_sem,Msg.a,Par.a,t46,h34,t47,hw,t0,t2,t7,h7,t8,h16,t9]) <;> rfl)
 | false =>
  rw [hc] at cI
  rw [hc,if_neg (by decide)] at hM
  have hl1:=zry hxr.1 hxr.2 hc
  (repeat (first | simp (maxSteps:=9^7) only [go_sem,Msg.a,Par.a,t46,h34,t47,t48,t0,t2,t7,h7,t8,h16,t9,hlt',hgx,hw,tk,hlt,Int.toNat_natCast,List.length_map,Nat.zero_add] | refine z01 (cI) ?_ | refine z00 (cI) ?_ | refine And.intro (by omega) ?_ | refine And.intro (fun d hd=>by (repeat (rcases hd with rfl | hd; · exact ⟨rfl,rfl⟩)); cases hd) ?_))
  have one:∀ d:AV,d = .int .i64 x∨False->d.cells.length = 1∧d.cells.all AV.one = true:=fun d hd=>by
   rcases hd with rfl | hd
   ·exact ⟨rfl,rfl⟩
   ·cases hd
  have hml:(m ++ [x]).length = m.length + 1:=List.length_append
  have hmm:(m ++ [x]).map (AV.int .i64) = m.map (AV.int .i64) ++ [.int .i64 x]:=List.map_append
  refine ⟨⟨hp,⟨by omega,by omega⟩,one⟩,⟨⟨by omega,by omega⟩,one⟩,xs.length - (j + 1),by omega,j + 1,p,m ++ [x],by omega,rfl,hM,by rw [hml]; omega,by rw [hml]; omega,?_,?_,?_,?_,?_,?_,?_,?_,?_,?_,?_⟩
  iterate 11 focus ((simp (maxSteps:=9^7) only [go_sem,Msg.a,Par.a,t46,h34,t47,hw,t0,t2,hml,h7,hmm,tk,h16,t9]) <;> rfl)
def rbInv (l:List Nd) (a b:Int) (R:List Int) (k:Nat) (σ:St):Prop :=
 ∃ (i p:Nat) (m:List Int),goR l a k m i = R∧mesR l m i≤k∧i≤m.length + 1∧p≤m.length∧left l.length m + m.length≤200 ∧
  σ.T 0 = .sl (l.map Nd.a)∧σ.T 2 = .int .i64 b∧σ.T 7 = .rs 7 0 m.length∧σ.H 7 = some ⟨1,3,m.map (AV.int .i64),p⟩∧σ.T 8 = .rs 16 0 (m.length + 1)∧σ.H 16 = some ⟨1,3,.int .i64 a :: m.map (AV.int .i64),0⟩∧σ.T 9 = .int .i64 i
theorem goR_end (l:List Nd) (a:Int) {m:List Int} {i:Nat} (h:(a :: m)[i]? = none):∀ k,goR l a k m i = m
 | 0=>rfl
 | k + 1=>by rw [goR,h]
theorem mesR_start {l:List Nd} (h:Lad l):left l.length ([]:List Int)≤200:=by
 unfold left
 have:=List.countP_le_length (p:=fun i:Nat=>!([]:List Int).contains (i:Int)) (l:=List.range l.length)
 rw [List.length_range] at this
 have:=h.len
 omega
set_option maxHeartbeats 8000000 in
theorem r55b_ok (l:List Nd) (h:Lad l) (a b:Int):AFn Tryz.prog 24 [.sl (l.map Nd.a),.int .i64 a,.int .i64 b] (.bool ((y8f l a).contains b)):=by
 refine fn_r55b rfl ?_
 have hst:=mesR_start h
 obtain ⟨R,hR⟩:∃ R,y8f l a = R:=⟨_,rfl⟩
 rw [hR]
 simp (maxSteps:=9^7) only [go_sem,Msg.a,Par.a]
 refine z06 (rbInv l a b R) (k:=mesR l [] 0) ⟨0,0,[],hR,Nat.le_refl _,Nat.zero_le _,Nat.le_refl _,hst,?_,?_,?_,?_,?_,?_,?_⟩ ?_
 iterate 7 focus ((simp (maxSteps:=9^7) only [go_sem,Msg.a,Par.a]) <;> rfl)
 clear hR hst
 rintro k σ ⟨i,p,m,hr,hm,hi,hp,hlen,t0,t2,t7,h7,t8,h16,t9⟩
 simp only [zn4]
 by_cases hlt:i < m.length + 1
 case neg =>
  have hlt':¬ (i:Int) < ((m.length + 1:Nat):Int):=by omega
  rw [goR_end l a (List.getElem?_eq_none_iff.2 (by rw [List.length_cons]; omega))] at hr
  subst hr
  have cI:=zrm m b (by omega)
  have tk:List.take m.length (m.map (AV.int .i64)) = m.map (AV.int .i64):=List.take_of_length_le (by simp)
  (repeat (first | simp (maxSteps:=9^7) only [go_sem,Msg.a,Par.a,t0,t2,t7,h7,t8,h16,t9,hlt',tk,List.length_map] | refine z01 (cI) ?_ | refine z00 (cI) ?_ | refine And.intro (by omega) ?_ | refine And.intro (fun d hd=>by (repeat (rcases hd with rfl | hd; · exact ⟨rfl,rfl⟩)); cases hd) ?_))
 have hlt':(i:Int) < ((m.length + 1:Nat):Int):=by omega
 obtain ⟨k,rfl⟩:∃ k',k = k' + 1:=⟨k - 1,by unfold mesR at hm; omega⟩
 obtain ⟨c,hc⟩:∃ c,(a :: m)[i]? = some c:=⟨_,List.getElem?_eq_getElem (by rw [List.length_cons]; omega)⟩
 have hgc:(AV.int .i64 a :: m.map (AV.int .i64)).getD i .und = .int .i64 c:=by
  have:=congrArg (Option.map (AV.int .i64)) hc
  rw [← List.getElem?_map] at this
  rw [List.getD_eq_getElem?_getD,show (AV.int .i64 a :: m.map (AV.int .i64)) = (a :: m).map (AV.int .i64) from rfl,this]; rfl
 have hmr:=zxr h hc
 rw [goR,hc] at hr
 dsimp only at hr
 have hw:=z1a (j:=i) (by omega)
 have cF:=y1x l c (by have:=h.len; omega)
 rw [zjr h.ord] at cF
 cases e:ndAt l c with
 | none =>
  rw [e] at cF
  have cF:AFn Tryz.prog 51 [.sl (l.map Nd.a),.int .i64 c] (.tup [Nd.zero.a,.bool false]):=cF
  simp only [Nd.zero,Nd.a,nul0,List.map_nil] at cF
  have hs:steps l c = []:=by unfold steps; rw [e]; rfl
  rw [hs,z21] at hr
  rw [hs,z21] at hmr
  (repeat (first | simp (maxSteps:=9^7) only [go_sem,Msg.a,Par.a,t0,t2,t7,h7,t8,h16,t9,hlt',hgc,hlt,hw,Int.toNat_natCast,List.length_map,Nat.zero_add] | refine z01 (cF) ?_ | refine z00 (cF) ?_ | refine And.intro (by omega) ?_ | refine And.intro (fun d hd=>by (repeat (rcases hd with rfl | hd; · exact ⟨rfl,rfl⟩)); cases hd) ?_))
  refine ⟨k,by omega,i + 1,p,m,hr,by omega,by omega,hp,hlen,?_,?_,?_,?_,?_,?_,?_⟩
  iterate 7 focus ((simp (maxSteps:=9^7) only [go_sem,Msg.a,Par.a,t0,t2,t7,h7,t8,h16,hw]) <;> rfl)
 | some n =>
  rw [e] at cF
  have cF:AFn Tryz.prog 51 [.sl (l.map Nd.a),.int .i64 c] (.tup [n.a,.bool true]):=cF
  simp only [Nd.a] at cF
  have hs:steps l c = nxt n:=by unfold steps; rw [e]; rfl
  rw [hs] at hr hmr
  have hnm:=(z1r h.ord e).2.1
  have hnk:=h.nk n hnm
  have hxr:∀ x,x ∈ nxt n->0≤x∧x < l.length:=fun x hx=>h.step (s:=c) (by rw [hs]; exact hx)
  have hxl:(nxt n).length≤2001:=by have:=h.steps_len c; rw [hs] at this; exact this
  have tkk:List.take n.kids.length (n.kids.map (AV.int .i64)) = n.kids.map (AV.int .i64):=List.take_of_length_le (by simp)
  obtain ⟨ys,e1,_⟩:=z3p (nxt n) m
  have hge:m.length≤(z21 m (nxt n)).length:=by rw [e1,List.length_append]; omega
  clear e1
  cases ht:n.top with
  | true =>
   have hneg:¬ 0≤n.right:=fun q=>by rw [(h.top n hnm).1 q] at ht; cases ht
   have hx:nxt n = n.kids:=by unfold nxt; rw [ht,if_pos rfl,List.append_nil]
   rw [hx] at hr hmr hxr hxl hge
   (repeat (first | simp (maxSteps:=9^7) only [go_sem,Msg.a,Par.a,t0,t2,t7,h7,t8,h16,t9,hlt',hgc,hlt,hw,hneg,tkk,Int.toNat_natCast,List.length_map,Nat.zero_add] | refine z01 (cF) ?_ | refine z00 (cF) ?_ | refine And.intro (by omega) ?_ | refine And.intro (fun d hd=>by (repeat (rcases hd with rfl | hd; · exact ⟨rfl,rfl⟩)); cases hd) ?_))
   refine ⟨⟨⟨by omega,by omega⟩,fun d hd=>?_⟩,z06 (rbI l a b (z21 m n.kids) n.kids i) (k:=n.kids.length) ⟨0,p,m,Nat.zero_le _,rfl,rfl,hp,hlen,?_,?_,?_,?_,?_,?_,?_,?_,?_,?_,?_⟩ (y8h l a b _ n.kids i hxr hxl _ ?_)⟩
   ·obtain ⟨z,_,rfl⟩:=List.mem_map.1 hd
    exact ⟨rfl,rfl⟩
   iterate 11 focus ((simp (maxSteps:=9^7) only [go_sem,Msg.a,Par.a,List.length_map,tkk,t0,t2,t7,h7,t8,h16,t9]) <;> rfl)
   ·rintro σ2 ⟨p',a1,a2,a3,a4,a5,a6,a7,a8,a9⟩
    simp (maxSteps:=9^7) only [go_sem,Msg.a,Par.a,a9,hw]
    refine ⟨k,by omega,i + 1,p',_,hr,by omega,by omega,a1,a2,?_,?_,?_,?_,?_,?_,?_⟩
    iterate 7 focus ((simp (maxSteps:=9^7) only [go_sem,Msg.a,Par.a,a3,a4,a5,a6,a7,a8,hw]) <;> rfl)
  | false =>
   have hnn:0≤n.right:=(h.top n hnm).2 ht
   have hx:nxt n = n.kids ++ [n.right]:=by unfold nxt; rw [ht,if_neg (by decide)]
   rw [hx] at hr hmr hxr hxl hge
   (repeat (first | simp (maxSteps:=9^7) only [go_sem,Msg.a,Par.a,t0,t2,t7,h7,t8,h16,t9,hlt',hgc,hlt,hw,hnn,tkk,Int.toNat_natCast,List.length_map,Nat.zero_add] | refine z01 (cF) ?_ | refine z00 (cF) ?_ | refine And.intro (by omega) ?_ | refine And.intro (fun d hd=>by (repeat (rcases hd with rfl | hd; · exact ⟨rfl,rfl⟩)); cases hd) ?_))
   have hln:(n.kids ++ [n.right]).length = n.kids.length + 1:=List.length_append
   have hmn:(n.kids ++ [n.right]).map (AV.int .i64) = n.kids.map (AV.int .i64) ++ [.int .i64 n.right]:=List.map_append
   refine ⟨⟨⟨by omega,by omega⟩,fun d hd=>?_⟩,⟨⟨by omega,by omega⟩,fun d hd=>?_⟩,z06 (rbI l a b (z21 m (n.kids ++ [n.right])) (n.kids ++ [n.right]) i) (k:=(n.kids ++ [n.right]).length) ⟨0,p,m,Nat.zero_le _,rfl,rfl,hp,hlen,?_,?_,?_,?_,?_,?_,?_,?_,?_,?_,?_⟩ (y8h l a b _ (n.kids ++ [n.right]) i hxr hxl _ ?_)⟩
   ·obtain ⟨z,_,rfl⟩:=List.mem_map.1 hd
    exact ⟨rfl,rfl⟩
   ·rcases hd with rfl | hd
    ·exact ⟨rfl,rfl⟩
    ·cases hd
   ·simp (maxSteps:=9^7) only [go_sem,Msg.a,Par.a,List.length_map,hln]
   ·simp (maxSteps:=9^7) only [go_sem,Msg.a,Par.a,tkk,hmn]
   ·simp (maxSteps:=9^7) only [go_sem,Msg.a,Par.a,List.length_map,hln]
   ·(simp (maxSteps:=9^7) only [go_sem,Msg.a,Par.a]) <;> rfl
   ·simp (maxSteps:=9^7) only [go_sem,Msg.a,Par.a,t0]
   ·simp (maxSteps:=9^7) only [go_sem,Msg.a,Par.a,t2]
   ·simp (maxSteps:=9^7) only [go_sem,Msg.a,Par.a,t7]
   ·simp (maxSteps:=9^7) only [go_sem,Msg.a,Par.a,h7]
   ·simp (maxSteps:=9^7) only [go_sem,Msg.a,Par.a,t8]
   ·simp (maxSteps:=9^7) only [go_sem,Msg.a,Par.a,h16]
   ·simp (maxSteps:=9^7) only [go_sem,Msg.a,Par.a,t9]
   ·rintro σ2 ⟨p',a1,a2,a3,a4,a5,a6,a7,a8,a9⟩
    simp (maxSteps:=9^7) only [go_sem,Msg.a,Par.a,a9,hw]
    refine ⟨k,by omega,i + 1,p',_,hr,by omega,by omega,a1,a2,?_,?_,?_,?_,?_,?_,?_⟩
    iterate 7 focus ((simp (maxSteps:=9^7) only [go_sem,Msg.a,Par.a,a3,a4,a5,a6,a7,a8,hw]) <;> rfl)
end
end Go.Proofs.YtlhblpbfhfhlpaaGreat
