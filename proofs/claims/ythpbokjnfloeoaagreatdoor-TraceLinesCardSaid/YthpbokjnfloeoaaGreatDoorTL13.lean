/-
  Part 13 of a proof: PkT, TrG.
-/
import Derived.Test.YthpbokjnfloeoaaGreatDoorTL12
namespace Go.Proofs.YthpbokjnfloeoaaGreatDoor
set_option linter.unusedVariables false
section
/-
 Layer 7 on the plain machine: the operation that a line is,and the law OpLines.
-/
open Go.RowKit
set_option linter.unusedVariables false
set_option linter.unusedSimpArgs false
set_option maxRecDepth 100000
attribute [local go_sem ↓] z11 z0l
def idxInv7 (l:List ByteArray) (x:ByteArray) (r:Int) (k:Nat) (σ:St):Prop :=
 ∃ j:Nat,j≤l.length∧k = l.length - j∧σ.T 0 = .sl (l.map .str)∧σ.T 1 = .str x∧σ.T 7 = .int .i64 l.length∧σ.T 8 = .int .i64 j∧idxS x (l.drop j) j = r
/-! ### slices.Index[[]string,string] -/
def y5a:Reg:=⟨[],[⟨.mv (.c (.int .i64 0)),some 4,none,[],[]⟩],[],[],false⟩
def zj5:List ROp:=[⟨.mv (.t 0),some 6,none,[],[]⟩,⟨.len false (.t 6),some 7,none,[],[]⟩,⟨.mv (.c (.int .i64 0)),some 8,none,[],[]⟩]
def y59:Reg:=⟨[],zj5,[],[],false⟩
def y58:Reg:=⟨[],[⟨.bin .lss (.t 8) (.t 7),some 9,none,[],[]⟩],[],[],false⟩
def y57:Reg:=⟨[],[⟨.mv (.t 8),some 10,none,[],[]⟩,⟨.mv (.t 10),some 5,none,[],[]⟩],[],[],false⟩
def zj4:List ROp:=[⟨.mv (.t 1),some 11,none,[],[]⟩,⟨.mv (.t 0),some 12,none,[],[]⟩,⟨.mv (.t 5),some 13,none,[],[]⟩,⟨.iaddr 1 (.t 12) (.t 13),some 14,none,[],[]⟩,⟨.load 1 false (.t 14),some 15,none,[],[]⟩,⟨.bin .eql (.t 11) (.t 15),some 16,none,[],[]⟩]
def y56:Reg:=⟨[],zj4,[],[],false⟩
def y55:Reg:=⟨[],[⟨.mv (.t 5),some 17,none,[],[]⟩,⟨.mv (.t 17),some 4,none,[],[]⟩],[],[],false⟩
def y54:Reg:=⟨[],[⟨.bin .add (.t 8) (.c (.int .i64 1)),some 18,none,[],[]⟩,⟨.mv (.t 18),some 8,none,[],[]⟩],[],[],false⟩
def zwc:IR:=(.seq (.reg y58)
 (.seq (.cond (.t 9) .skip
 (.exit 0))
 (.seq (.block 1 (.seq (.reg y57)
 (.seq (.reg y56)
 (.cond (.t 16) (.seq (.reg y55)
 .ret)
 .skip))))
 (.reg y54))))
def y53:Reg:=⟨[],[⟨.mv (.c (.int .i64 (-1))),some 4,none,[],[]⟩],[],[],false⟩
def yg0:IR:=(.seq (.reg y5a)
 (.seq (.seq (.reg y59)
 (.block 0 (.loop zwc)))
 (.seq (.reg y53)
 .ret)))
def y0r:List RDesc:=[(.tmp 4)]
theorem e_idxOf_0:EqR y5a [⟨.mv (.c (.int .i64 0)),some 4,none,[],[]⟩] []:=fun _ _ _=>rfl
theorem e_idxOf_1:EqR y59 zj5 []:=fun _ _ _=>rfl
theorem e_idxOf_2:EqR y58 [⟨.bin .lss (.t 8) (.t 7),some 9,none,[],[]⟩] []:=fun _ _ _=>rfl
theorem e_idxOf_3:EqR y57 [⟨.mv (.t 8),some 10,none,[],[]⟩,⟨.mv (.t 10),some 5,none,[],[]⟩] []:=fun _ _ _=>rfl
theorem e_idxOf_4:EqR y56 zj4 []:=fun _ _ _=>rfl
theorem e_idxOf_5:EqR y55 [⟨.mv (.t 5),some 17,none,[],[]⟩,⟨.mv (.t 17),some 4,none,[],[]⟩] []:=fun _ _ _=>rfl
theorem e_idxOf_6:EqR y54 [⟨.bin .add (.t 8) (.c (.int .i64 1)),some 18,none,[],[]⟩,⟨.mv (.t 18),some 8,none,[],[]⟩] []:=fun _ _ _=>rfl
theorem e_idxOf_8:EqR y53 [⟨.mv (.c (.int .i64 (-1))),some 4,none,[],[]⟩] []:=fun _ _ _=>rfl
theorem fn_idxOf {args:List AV} {r:AV} (ha:args.length.ble Tryz.f63.ntmps = true) (h:run (AFn Tryz.prog) yg0 (endQ y0r r) (z0b args)):AFn Tryz.prog 63 args r :=
 AFn.of_code (pv:=false) (hint:=fun _=>[]) (c:=Tryz.f63.body.getD .skip) (by kernel_rfl) (by kernel_rfl) Tryz.func63 (by kernel_rfl) (by kernel_rfl) (by kernel_rfl) (of_decide_eq_true (by kernel_rfl)) (Nat.le_of_ble_eq_true ha) (Nat.le_of_ble_eq_true (by kernel_rfl)) (z0c h)
/-! ### percolate/op.Parse -/
def zd2:List ROp:=[⟨.alloc 6 39 (.agg [(.int .i64 0),(.str ⟨#[]⟩),(.str ⟨#[]⟩),(.bool false),(.str ⟨#[]⟩),(.int .i64 0)]),some 2,none,[],[]⟩,⟨.mv (.c (.bool false)),some 3,none,[],[]⟩]
def zv1:Reg:=⟨[],zd2,[2],[],false⟩
def zd1:List ROp:=[⟨.mv (.t 0),some 6,none,[7,8],[]⟩,⟨.callv (.c (.clo 33 [] [])) [(.t 6)],some 7,none,[8],[]⟩,⟨.bsl 1 9 [(.c (.str ⟨#[]⟩)),(.c (.str ⟨#[]⟩)),(.c (.str ⟨#[]⟩))],some 8,none,[],[]⟩,⟨.append 1 9 16 (.t 7) (.t 8),some 9,none,[],[]⟩,⟨.mv (.t 9),some 4,none,[],[]⟩]
def zv0:Reg:=⟨[],zd1,[7,8],[],false⟩
def zeu:List ROp:=[⟨.callv (.c (.clo 64 [] [])) [],some 10,none,[14,5],[]⟩,⟨.mv (.t 4),some 11,none,[10,14,5],[]⟩,⟨.iaddr 1 (.t 11) (.c (.int .i64 0)),some 12,none,[10,14,5],[]⟩,⟨.load 1 false (.t 12),some 13,none,[10,14,5],[]⟩,⟨.callv (.c (.clo 63 [] [])) [(.t 10),(.t 13)],some 14,none,[5],[]⟩,⟨.bld [(.int .i64 0),(.str ⟨#[]⟩),(.str ⟨#[]⟩),(.bool false),(.str ⟨#[]⟩),(.int .i64 0)] [⟨0,1,(.t 14)⟩],some 15,none,[5],[]⟩,⟨.alloc 6 39 (.agg [(.int .i64 0),(.str ⟨#[]⟩),(.str ⟨#[]⟩),(.bool false),(.str ⟨#[]⟩),(.int .i64 0)]),some 5,none,[10,14],[]⟩]
def zuz:Reg:=⟨zeu,[⟨.store 6 (.t 5) (.t 15),none,none,[],[5]⟩],[10,14,5],[],true⟩
def zd0:List ROp:=[⟨.mv (.t 4),some 17,none,[20],[]⟩,⟨.iaddr 1 (.t 17) (.c (.int .i64 1)),some 18,none,[20],[]⟩,⟨.load 1 false (.t 18),some 19,none,[20],[]⟩,⟨.callv (.c (.clo 65 [] [])) [(.t 19)],some 20,none,[],[]⟩,⟨.mv (.t 20),some 16,none,[],[]⟩,⟨.ext 0 (.t 16),some 21,none,[],[]⟩,⟨.ext 1 (.t 16),some 22,none,[],[]⟩,⟨.faddr 1 (.t 5),some 23,none,[],[]⟩,⟨.store 1 (.t 23) (.t 21),none,none,[],[]⟩]
def zuy:Reg:=⟨[],zd0,[20],[],false⟩
def zcz:List ROp:=[⟨.load 6 true (.t 5),some 25,none,[26],[]⟩,⟨.callv (.c (.clo 66 [] [])) [(.t 25)],some 26,none,[],[]⟩,⟨.mv (.t 26),some 24,none,[],[]⟩]
def zux:Reg:=⟨[],zcz,[26],[],false⟩
def zcy:List ROp:=[⟨.mv (.t 4),some 28,none,[31],[]⟩,⟨.iaddr 1 (.t 28) (.c (.int .i64 2)),some 29,none,[31],[]⟩,⟨.load 1 false (.t 29),some 30,none,[31],[]⟩,⟨.callv (.c (.clo 65 [] [])) [(.t 30)],some 31,none,[],[]⟩,⟨.mv (.t 31),some 27,none,[],[]⟩,⟨.ext 0 (.t 27),some 32,none,[],[]⟩,⟨.ext 1 (.t 27),some 33,none,[],[]⟩,⟨.faddr 4 (.t 5),some 34,none,[],[]⟩,⟨.store 1 (.t 34) (.t 32),none,none,[],[]⟩]
def zuw:Reg:=⟨[],zcy,[31],[],false⟩
def zcx:List ROp:=[⟨.load 6 true (.t 5),some 36,none,[37],[]⟩,⟨.callv (.c (.clo 67 [] [])) [(.t 36)],some 37,none,[],[]⟩,⟨.mv (.t 37),some 38,none,[],[]⟩,⟨.mv (.t 4),some 39,(some (38,true)),[],[]⟩,⟨.iaddr 1 (.t 39) (.c (.int .i64 2)),some 40,(some (38,true)),[],[]⟩,⟨.load 1 false (.t 40),some 41,(some (38,true)),[],[]⟩,⟨.bin .eql (.t 41) (.c (.str ⟨#[42]⟩)),some 42,(some (38,true)),[],[]⟩,⟨.pick (.t 38) (.t 42) (.c (.bool false)),some 43,none,[],[]⟩,⟨.mv (.t 43),some 35,none,[],[]⟩]
def zuv:Reg:=⟨[],zcx,[37],[],false⟩
def zuu:Reg:=⟨[],[⟨.faddr 3 (.t 5),some 44,none,[],[]⟩,⟨.store 1 (.t 44) (.c (.bool true)),none,none,[],[]⟩],[],[],false⟩
def zcw:List ROp:=[⟨.load 6 true (.t 5),some 46,none,[47],[]⟩,⟨.callv (.c (.clo 67 [] [])) [(.t 46)],some 47,none,[],[]⟩,⟨.mv (.t 47),some 45,none,[],[]⟩]
def zut:Reg:=⟨[],zcw,[47],[],false⟩
def zcv:List ROp:=[⟨.mv (.t 4),some 49,none,[52],[]⟩,⟨.iaddr 1 (.t 49) (.c (.int .i64 2)),some 50,none,[52],[]⟩,⟨.load 1 false (.t 50),some 51,none,[52],[]⟩,⟨.callv (.c (.clo 65 [] [])) [(.t 51)],some 52,none,[],[]⟩,⟨.mv (.t 52),some 48,none,[],[]⟩,⟨.ext 0 (.t 48),some 53,none,[],[]⟩,⟨.ext 1 (.t 48),some 54,none,[],[]⟩,⟨.faddr 2 (.t 5),some 55,none,[],[]⟩,⟨.store 1 (.t 55) (.t 53),none,none,[],[]⟩]
def zus:Reg:=⟨[],zcv,[52],[],false⟩
def z8d:List ROp:=[⟨.faddr 0 (.t 5),some 56,none,[],[]⟩,⟨.load 1 false (.t 56),some 57,none,[],[]⟩,⟨.bin .eql (.t 57) (.c (.int .i64 6)),some 58,none,[],[]⟩]
def zms:Reg:=⟨[],z8d,[],[],false⟩
def z8c:List ROp:=[⟨.mv (.t 4),some 60,none,[63],[]⟩,⟨.iaddr 1 (.t 60) (.c (.int .i64 3)),some 61,none,[63],[]⟩,⟨.load 1 false (.t 61),some 62,none,[63],[]⟩,⟨.callv (.c (.clo 34 [] [])) [(.t 62)],some 63,none,[],[]⟩,⟨.mv (.t 63),some 59,none,[],[]⟩,⟨.ext 0 (.t 59),some 64,none,[],[]⟩,⟨.ext 1 (.t 59),some 65,none,[],[]⟩,⟨.faddr 5 (.t 5),some 66,none,[],[]⟩,⟨.store 1 (.t 66) (.t 64),none,none,[],[]⟩]
def zmr:Reg:=⟨[],z8c,[63],[],false⟩
def z8b:List ROp:=[⟨.load 6 true (.t 5),some 67,none,[68,72],[]⟩,⟨.callv (.c (.clo 68 [] [])) [(.t 67)],some 68,none,[72],[]⟩,⟨.bin .neq (.t 68) (.c (.int .i64 0)),some 69,none,[72],[]⟩,⟨.mv (.t 69),some 70,none,[72],[]⟩,⟨.load 6 true (.t 5),some 71,(some (70,false)),[72],[]⟩,⟨.callv (.c (.clo 41 [] [])) [(.t 71)],some 72,(some (70,false)),[],[]⟩,⟨.mv (.t 0),some 73,(some (70,false)),[],[]⟩,⟨.bin .neq (.t 72) (.t 73),some 74,(some (70,false)),[],[]⟩,⟨.pick (.t 70) (.c (.bool true)) (.t 74),some 75,none,[],[]⟩]
def zmq:Reg:=⟨[],z8b,[68,72],[],false⟩
def z8a:List ROp:=[⟨.bld [(.int .i64 0),(.str ⟨#[]⟩),(.str ⟨#[]⟩),(.bool false),(.str ⟨#[]⟩),(.int .i64 0)] [],some 76,none,[],[]⟩,⟨.store 6 (.t 2) (.t 76),none,none,[],[]⟩,⟨.mv (.c (.bool false)),some 3,none,[],[]⟩]
def zmp:Reg:=⟨[],z8a,[],[],false⟩
def z89:List ROp:=[⟨.load 6 true (.t 5),some 77,none,[],[]⟩,⟨.store 6 (.t 2) (.t 77),none,none,[],[]⟩,⟨.mv (.c (.bool true)),some 3,none,[],[]⟩]
def zmo:Reg:=⟨[],z89,[],[],false⟩
def y71:IR:=(.seq (.reg zv1)
 (.seq (.reg zv0)
 (.seq (.reg zuz)
 (.seq (.reg zuy)
 (.seq (.block 0 (.seq (.reg zux)
 (.cond (.t 24) (.reg zuw)
 (.seq (.reg zuv)
 (.cond (.t 35) (.reg zuu)
 (.seq (.reg zut)
 (.cond (.t 45) (.reg zus)
 .skip)))))))
 (.seq (.seq (.reg zms)
 (.cond (.t 58) (.reg zmr)
 .skip))
 (.seq (.seq (.reg zmq)
 (.cond (.t 75) (.seq (.reg zmp)
 .ret)
 .skip))
 (.seq (.reg zmo)
 .ret))))))))
def zqe:List RDesc:=[(.cell 2 6 true),(.tmp 3)]
theorem e_oParse_0:EqR zv1 zd2 [2]:=fun _ _ _=>rfl
theorem e_oParse_1:EqR zv0 zd1 [7,8]:=fun _ _ _=>rfl
theorem e_oParse_2 (C:FuncId->List AV->AV->Prop) (σ:St) (K:St->Prop):z0k C zuz σ K = z08 C [] [⟨.store 6 (.t 5) (.t 15),none,none,[],[5]⟩] zeu (σ.kills [10,14,5]) K:=rfl
theorem e_oParse_3:EqR zuy zd0 [20]:=fun _ _ _=>rfl
theorem e_oParse_4:EqR zux zcz [26]:=fun _ _ _=>rfl
theorem e_oParse_5:EqR zuw zcy [31]:=fun _ _ _=>rfl
theorem e_oParse_6:EqR zuv zcx [37]:=fun _ _ _=>rfl
theorem e_oParse_7:EqR zuu [⟨.faddr 3 (.t 5),some 44,none,[],[]⟩,⟨.store 1 (.t 44) (.c (.bool true)),none,none,[],[]⟩] []:=fun _ _ _=>rfl
theorem e_oParse_8:EqR zut zcw [47]:=fun _ _ _=>rfl
theorem e_oParse_9:EqR zus zcv [52]:=fun _ _ _=>rfl
theorem ybq:EqR zms z8d []:=fun _ _ _=>rfl
theorem ybp:EqR zmr z8c [63]:=fun _ _ _=>rfl
theorem ybo:EqR zmq z8b [68,72]:=fun _ _ _=>rfl
theorem ybn:EqR zmp z8a []:=fun _ _ _=>rfl
theorem ybm:EqR zmo z89 []:=fun _ _ _=>rfl
theorem fn_oParse {args:List AV} {r:AV} (ha:args.length.ble Tryz.f35.ntmps = true) (h:run (AFn Tryz.prog) y71 (endQ zqe r) (z0b args)):AFn Tryz.prog 35 args r :=
 AFn.of_code (pv:=false) (hint:=fun _=>[]) (c:=Tryz.f35.body.getD .skip) (by kernel_rfl) (by kernel_rfl) Tryz.func35 (by kernel_rfl) (by kernel_rfl) (by kernel_rfl) (of_decide_eq_true (by kernel_rfl)) (Nat.le_of_ble_eq_true ha) (Nat.le_of_ble_eq_true (by kernel_rfl)) (z0c h)
attribute [local go_sem ↓] yg0
attribute [local go_sem] y0r e_idxOf_0 e_idxOf_1 zj5 e_idxOf_2 e_idxOf_3 e_idxOf_4 zj4 e_idxOf_5 e_idxOf_6 e_idxOf_8
attribute [local go_sem ↓] y71
attribute [local go_sem] zqe e_oParse_0 zd2 e_oParse_1 zd1 e_oParse_2 zeu e_oParse_3 zd0 e_oParse_4 zcz e_oParse_5 zcy e_oParse_6 zcx e_oParse_7 e_oParse_8 zcw e_oParse_9 zcv ybq z8d ybp z8c ybo z8b ybn z8a ybm z89
theorem yg7 (l:List ByteArray) (x:ByteArray) (hl:l.length≤1000000):AFn Tryz.prog 63 [.sl (l.map .str),.str x] (.int .i64 (idxS x l 0)):=by
 refine fn_idxOf rfl ?_
 simp (maxSteps:=9^7) only [go_sem,↓reduceIte,reduceCtorEq,Nat.reduceEqDiff,Nat.reduceBEq,Nat.reduceAdd,Nat.reduceSub,Nat.reduceMul,Nat.reduceLT,Nat.reduceLeDiff,Nat.reduceBNe,Int.reduceBEq,Int.reduceBNe,Int.reduceLT,Int.reduceLE,Opr.a,nul,List.length_map]
 refine z0d (idxInv7 l x (idxS x l 0)) (k:=l.length) ⟨0,by omega,rfl,rfl,rfl,rfl,rfl,rfl⟩ ?_
 rintro k σ ⟨j,hj,rfl,t0,t1,t7,t8,hr⟩
 simp only [zwc]
 by_cases hlt:j < l.length
 ·have hlt':(j:Int) < (l.length:Int):=by omega
  obtain ⟨y,hy⟩:∃ y,l[j]? = some y:=⟨_,List.getElem?_eq_getElem hlt⟩
  have hg:(l.map AV.str).getD j .und = .str y:=by rw [List.getD_eq_getElem?_getD,List.getElem?_map,hy]; rfl
  have hw:IntKind.i64.wrap ((j:Int) + 1) = ((j + 1:Nat):Int):=by rw [IntWalk.i64_in _ (by omega)]; rfl
  have hd:l.drop j = y :: l.drop (j + 1):=by
   rw [List.drop_eq_getElem_cons hlt]
   have:=List.getElem?_eq_getElem hlt
   rw [hy] at this; cases this; rfl
  rw [hd,idxS] at hr
  cases he:(x.toList == y.toList) with
  | true =>
   rw [he,if_pos rfl] at hr
   have hr':=hr.symm
   simp (maxSteps:=9^7) only [go_sem,↓reduceIte,reduceCtorEq,Nat.reduceEqDiff,Nat.reduceBEq,Nat.reduceAdd,Nat.reduceSub,Nat.reduceMul,Nat.reduceLT,Nat.reduceLeDiff,Nat.reduceBNe,Int.reduceBEq,Int.reduceBNe,Int.reduceLT,Int.reduceLE,Opr.a,nul,t0,t1,t7,t8,hlt',hg,he,hr',List.length_map,Int.toNat_natCast]
   omega
  | false =>
   rw [he,if_neg (by simp)] at hr
   simp (maxSteps:=9^7) only [go_sem,↓reduceIte,reduceCtorEq,Nat.reduceEqDiff,Nat.reduceBEq,Nat.reduceAdd,Nat.reduceSub,Nat.reduceMul,Nat.reduceLT,Nat.reduceLeDiff,Nat.reduceBNe,Int.reduceBEq,Int.reduceBNe,Int.reduceLT,Int.reduceLE,Opr.a,nul,t0,t1,t7,t8,hlt',hg,he,hw,List.length_map,Int.toNat_natCast]
   (repeat refine And.intro (by omega) ?_)
   refine ⟨l.length - (j + 1),by omega,j + 1,by omega,rfl,?_,?_,?_,?_,hr⟩ <;> (simp (maxSteps:=9^7) only [go_sem,↓reduceIte,reduceCtorEq,Nat.reduceEqDiff,Nat.reduceBEq,Nat.reduceAdd,Nat.reduceSub,Nat.reduceMul,Nat.reduceLT,Nat.reduceLeDiff,Nat.reduceBNe,Int.reduceBEq,Int.reduceBNe,Int.reduceLT,Int.reduceLE,Opr.a,nul,t0,t1,t7,t8,hw])
 ·have hlt':¬ (j:Int) < (l.length:Int):=by omega
  have:j = l.length:=by omega
  subst this
  rw [List.drop_length,idxS] at hr
  simp (maxSteps:=9^7) only [go_sem,↓reduceIte,reduceCtorEq,Nat.reduceEqDiff,Nat.reduceBEq,Nat.reduceAdd,Nat.reduceSub,Nat.reduceMul,Nat.reduceLT,Nat.reduceLeDiff,Nat.reduceBNe,Int.reduceBEq,Int.reduceBNe,Int.reduceLT,Int.reduceLE,Opr.a,nul,t7,t8,hlt',hr]
theorem y61:∀ l:List UInt8,l.length≤(z0n l).length
 | []=>Nat.zero_le _
 | c :: l=>by
  have:=y61 l
  rw [z0n,List.length_append,List.length_cons]
  split
  ·simp; omega
  ·simp; omega
theorem uq1_size (s:ByteArray):(uq1 s).size≤s.size:=by
 have hL:s.data.toList.length = s.size:=by rw [Array.length_toList]; rfl
 unfold uq1 uqF
 by_cases h0:(s.toList == (ByteArray.mk #[45]).toList) = true
 ·rw [if_pos h0]; exact Nat.zero_le _
 ·rw [if_neg h0]
  have h:=ycg s.data.toList
  rw [hL] at h
  rw [h]
  cases hq:uqL s.data.toList with
  | none=>exact Nat.zero_le _
  | some out =>
   have h1:=yf5 _ _ hq
   have h2:=y61 out
   rw [h1,hL] at h2
   exact h2
theorem y8g (s:ByteArray):∀ j,((z0r s).getD j nul).size≤s.size:=by
 intro j
 have hL:s.data.toList.length = s.size:=by rw [Array.length_toList]; rfl
 have h:∀ x,x ∈ z0r s->x.size≤s.size:=by
  intro x hx
  unfold z0r at hx
  rcases List.mem_append.1 hx with h | h
  ·obtain ⟨y,hy,rfl⟩:=List.mem_map.1 h
   have:=ycf _ y hy
   rw [hL] at this
   exact this
  ·simp at h; subst h; exact Nat.zero_le _
 rw [List.getD_eq_getElem?_getD]
 cases hj:(z0r s)[j]? with
 | none=>exact Nat.zero_le _
 | some x=>exact h x (List.mem_of_getElem? hj)
theorem oLineX (o:Opr) (h:o.key.size≤9000000000):AFn Tryz.prog 41 [o.a] (.str (z2i o)):=by
 unfold z2i
 cases hr:o.right with
 | true=>exact oLine_ok o hr
 | false=>exact oLine_no o h hr
set_option maxHeartbeats 4000000 in
theorem oParse_ok (s : ByteArray) (hs : s.size ≤ 300000) : AFn Tryz.prog 35 [.str s] (.tup [(y64 s).1.a, .bool (y64 s).2]) := by
  refine fn_oParse rfl ?_
  have hL : s.data.toList.length = s.size := by rw [Array.length_toList]; rfl
  have hwl := wl_len s.data.toList
  have hsp : (z3d s ⟨#[32]⟩).length ≤ maxLen := by
    have := congrArg List.length (z9t s)
    rw [List.length_map] at this
    rw [this]; unfold ws; rw [List.length_map]
    exact Nat.le_trans (by omega : _ ≤ 300001) (by decide)
  have hW := zxj s (by omega) hsp
  rw [z9t s] at hW
  have hwne : 1 ≤ (wl s.data.toList).length := List.length_pos_iff.2 (wl_ne _)
  have hwsl : (ws (wl s.data.toList)).length = (wl s.data.toList).length := by unfold ws; rw [List.length_map]
  have hA : ws (wl s.data.toList) ++ [AV.str ⟨#[]⟩, .str ⟨#[]⟩, .str ⟨#[]⟩] = (z0r s).map AV.str := by
    unfold z0r ws
    rw [List.map_append, List.map_map]; rfl
  have hZ : (ws (wl s.data.toList)).length + 3 = (z0r s).length := by
    have := congrArg List.length hA
    rw [List.length_append, List.length_map] at this
    exact this
  have hsz := y8g s
  simp (maxSteps := 4000000) only [go_sem, ↓reduceIte, reduceCtorEq, Nat.reduceEqDiff, Nat.reduceBEq, Nat.reduceAdd, Nat.reduceSub, Nat.reduceMul, Nat.reduceLT, Nat.reduceLeDiff, Nat.reduceBNe, Int.reduceBEq, Int.reduceBNe, Int.reduceLT, Int.reduceLE, Opr.a, nul]
  (first | refine z01 hW ?_ | refine z00 hW ?_)
  simp (maxSteps := 4000000) only [go_sem, ↓reduceIte, reduceCtorEq, Nat.reduceEqDiff, Nat.reduceBEq, Nat.reduceAdd, Nat.reduceSub, Nat.reduceMul, Nat.reduceLT, Nat.reduceLeDiff, Nat.reduceBNe, Int.reduceBEq, Int.reduceBNe, Int.reduceLT, Int.reduceLE, Opr.a, nul]
  refine ⟨⟨⟨by omega, by omega⟩, fun d hd => by rcases hd with rfl | rfl | rfl | h <;> first | exact ⟨rfl, rfl⟩ | exact h.elim⟩, ?_⟩
  simp only [List.take_length, hA, hZ]
  have hq4 : 4 ≤ (z0r s).length := by omega
  have hF : y64 s = if (z1m (z0r s)).right && ((z2i (z1m (z0r s))).toList == s.toList) then (z1m (z0r s), true) else (Opr.zero, false) := rfl
  rw [hF]
  have hO : ∀ a0 a1 a2 a3, (z0r s).getD 0 nul = a0 → (z0r s).getD 1 nul = a1 → (z0r s).getD 2 nul = a2 → (z0r s).getD 3 nul = a3 → z1m (z0r s) = z1m [a0, a1, a2, a3] := by
    rintro _ _ _ _ rfl rfl rfl rfl; rfl
  have hget : ∀ j, j < (z0r s).length → ((z0r s).map AV.str).getD j .und = .str ((z0r s).getD j nul) := by
    intro j hj
    rw [List.getD_eq_getElem?_getD, List.getElem?_map, List.getD_eq_getElem?_getD, List.getElem?_eq_getElem hj]; rfl
  have g0 := hget 0 (by omega)
  have g1 := hget 1 (by omega)
  have g2 := hget 2 (by omega)
  have g3 := hget 3 (by omega)
  have s0 := hsz 0
  have s1 := hsz 1
  have s2 := hsz 2
  have s3 := hsz 3
  obtain ⟨a0, ea0⟩ : ∃ a, (z0r s).getD 0 nul = a := ⟨_, rfl⟩
  obtain ⟨a1, ea1⟩ : ∃ a, (z0r s).getD 1 nul = a := ⟨_, rfl⟩
  obtain ⟨a2, ea2⟩ : ∃ a, (z0r s).getD 2 nul = a := ⟨_, rfl⟩
  obtain ⟨a3, ea3⟩ : ∃ a, (z0r s).getD 3 nul = a := ⟨_, rfl⟩
  rw [hO a0 a1 a2 a3 ea0 ea1 ea2 ea3]
  rw [ea0] at g0 s0
  rw [ea1] at g1 s1
  rw [ea2] at g2 s2
  rw [ea3] at g3 s3
  have n0 : (0 : Int) < ((z0r s).length : Int) := by omega
  have n1 : (1 : Int) < ((z0r s).length : Int) := by omega
  have n2 : (2 : Int) < ((z0r s).length : Int) := by omega
  have n3 : (3 : Int) < ((z0r s).length : Int) := by omega
  have m0 : 0 < (z0r s).length := by omega
  have m1 : 1 < (z0r s).length := by omega
  have m2 : 2 < (z0r s).length := by omega
  have m3 : 3 < (z0r s).length := by omega
  clear hO hget hF ea0 ea1 ea2 ea3 hsz hq4 hZ hA hwsl hwne hW hsp hwl
  generalize z0r s = W at *
  have z0 : Int.toNat 0 = 0 := rfl
  have z1 : Int.toNat 1 = 1 := rfl
  have z2 : Int.toNat 2 = 2 := rfl
  have z3 : Int.toNat 3 = 3 := rfl
  (first | refine z01 z0p ?_ | refine z00 z0p ?_)
  simp (maxSteps := 4000000) only [go_sem, ↓reduceIte, reduceCtorEq, Nat.reduceEqDiff, Nat.reduceBEq, Nat.reduceAdd, Nat.reduceSub, Nat.reduceMul, Nat.reduceLT, Nat.reduceLeDiff, Nat.reduceBNe, Int.reduceBEq, Int.reduceBNe, Int.reduceLT, Int.reduceLE, Opr.a, nul, z0, g0, n0, m0, List.length_map]
  (first | refine z01 (yg7 z1u a0 (by decide)) ?_ | refine z00 (yg7 z1u a0 (by decide)) ?_)
  have ep : z1m [a0, a1, a2, a3] = (if idxS a0 z1u 0 == 1 || idxS a0 z1u 0 == 2 then ⟨idxS a0 z1u 0, uq1 a1, nul, false, uq1 a2, if idxS a0 z1u 0 == 6 then ud1 a3 else 0⟩ else if idxS a0 z1u 0 == 4 || idxS a0 z1u 0 == 6 then (if a2.toList == (ByteArray.mk #[42]).toList then ⟨idxS a0 z1u 0, uq1 a1, nul, true, nul, if idxS a0 z1u 0 == 6 then ud1 a3 else 0⟩ else ⟨idxS a0 z1u 0, uq1 a1, uq1 a2, false, nul, if idxS a0 z1u 0 == 6 then ud1 a3 else 0⟩) else ⟨idxS a0 z1u 0, uq1 a1, nul, false, nul, if idxS a0 z1u 0 == 6 then ud1 a3 else 0⟩ : Opr) := rfl
  rw [ep]
  clear ep
  generalize idxS a0 z1u 0 = k
  have hU1 := unq_ok a1 (by omega)
  rw [zzw] at hU1
  have hU2 := unq_ok a2 (by omega)
  rw [zzw] at hU2
  have hD3 := zgs a3 (by omega)
  rw [udF_shape] at hD3
  have q1 := uq1_size a1
  have hV : ∀ hi op val lim, AFn Tryz.prog 66 [.agg [.int .i64 k, .str (uq1 a1), .str hi, .bool op, .str val, .int .i64 lim]] (.bool (k == 1 || k == 2)) := fun hi op val lim => z19 ⟨k, uq1 a1, hi, op, val, lim⟩
  have hG : ∀ hi op val lim, AFn Tryz.prog 67 [.agg [.int .i64 k, .str (uq1 a1), .str hi, .bool op, .str val, .int .i64 lim]] (.bool (k == 4 || k == 6)) := fun hi op val lim => z0t ⟨k, uq1 a1, hi, op, val, lim⟩
  have hR : ∀ hi op val lim, AFn Tryz.prog 68 [.agg [.int .i64 k, .str (uq1 a1), .str hi, .bool op, .str val, .int .i64 lim]] (.int .i64 (if Opr.right ⟨k, uq1 a1, hi, op, val, lim⟩ then 0 else 3)) := fun hi op val lim => z2w ⟨k, uq1 a1, hi, op, val, lim⟩ (by show (uq1 a1).size ≤ _; omega)
  have hX : ∀ hi op val lim, AFn Tryz.prog 41 [.agg [.int .i64 k, .str (uq1 a1), .str hi, .bool op, .str val, .int .i64 lim]] (.str (z2i ⟨k, uq1 a1, hi, op, val, lim⟩)) := fun hi op val lim => oLineX ⟨k, uq1 a1, hi, op, val, lim⟩ (by show (uq1 a1).size ≤ _; omega)
  cases hv : (k == 1 || k == 2) with
  | true =>
    have h6 : (k == 6) = false := by rw [beq_eq_false_iff_ne]; have : k = 1 ∨ k = 2 := by simpa using hv
                                     omega
    have hR1 := hR (⟨#[]⟩ : ByteArray) false (uq1 a2) 0
    have hX1 := hX (⟨#[]⟩ : ByteArray) false (uq1 a2) 0
    cases hr : Opr.right (⟨k, uq1 a1, ⟨#[]⟩, false, (uq1 a2), 0⟩ : Opr) with
    | false =>
      rw [hr] at hR1
      (repeat (first | simp (maxSteps := 4000000) only [go_sem, ↓reduceIte, reduceCtorEq, Nat.reduceEqDiff, Nat.reduceBEq, Nat.reduceAdd, Nat.reduceSub, Nat.reduceMul, Nat.reduceLT, Nat.reduceLeDiff, Nat.reduceBNe, Int.reduceBEq, Int.reduceBNe, Int.reduceLT, Int.reduceLE, Opr.a, nul, z0, z1, z2, z3, g0, g1, g2, g3, n0, n1, n2, n3, m0, m1, m2, m3, List.length_map, hr, Opr.zero, Bool.false_and, Bool.true_and, hv, h6] | refine z01 (hU1) ?_ | refine z00 (hU1) ?_ | refine z01 (hU2) ?_ | refine z00 (hU2) ?_ | refine z01 (hD3) ?_ | refine z00 (hD3) ?_ | refine z01 (hV _ _ _ _) ?_ | refine z00 (hV _ _ _ _) ?_ | refine z01 (hG _ _ _ _) ?_ | refine z00 (hG _ _ _ _) ?_ | refine z01 (hR1) ?_ | refine z00 (hR1) ?_ | refine And.intro (by omega) ?_ | refine And.intro (fun d hd => by (repeat (rcases hd with rfl | hd; · exact ⟨rfl, rfl⟩)); cases hd) ?_))
    | true =>
      rw [hr] at hR1
      cases he : ((z2i (⟨k, uq1 a1, ⟨#[]⟩, false, (uq1 a2), 0⟩ : Opr)).toList == s.toList) with
      | false =>
        have he' : ((z2i (⟨k, uq1 a1, ⟨#[]⟩, false, (uq1 a2), 0⟩ : Opr)).toList != s.toList) = true := by simp [bne, he]
        (repeat (first | simp (maxSteps := 4000000) only [go_sem, ↓reduceIte, reduceCtorEq, Nat.reduceEqDiff, Nat.reduceBEq, Nat.reduceAdd, Nat.reduceSub, Nat.reduceMul, Nat.reduceLT, Nat.reduceLeDiff, Nat.reduceBNe, Int.reduceBEq, Int.reduceBNe, Int.reduceLT, Int.reduceLE, Opr.a, nul, z0, z1, z2, z3, g0, g1, g2, g3, n0, n1, n2, n3, m0, m1, m2, m3, List.length_map, hr, he, he', Opr.zero, Bool.false_and, Bool.true_and, hv, h6] | refine z01 (hU1) ?_ | refine z00 (hU1) ?_ | refine z01 (hU2) ?_ | refine z00 (hU2) ?_ | refine z01 (hD3) ?_ | refine z00 (hD3) ?_ | refine z01 (hV _ _ _ _) ?_ | refine z00 (hV _ _ _ _) ?_ | refine z01 (hG _ _ _ _) ?_ | refine z00 (hG _ _ _ _) ?_ | refine z01 (hR1) ?_ | refine z00 (hR1) ?_ | refine z01 (hX1) ?_ | refine z00 (hX1) ?_ | refine And.intro (by omega) ?_ | refine And.intro (fun d hd => by (repeat (rcases hd with rfl | hd; · exact ⟨rfl, rfl⟩)); cases hd) ?_))
      | true =>
        have he' : ((z2i (⟨k, uq1 a1, ⟨#[]⟩, false, (uq1 a2), 0⟩ : Opr)).toList != s.toList) = false := by simp [bne, he]
        (repeat (first | simp (maxSteps := 4000000) only [go_sem, ↓reduceIte, reduceCtorEq, Nat.reduceEqDiff, Nat.reduceBEq, Nat.reduceAdd, Nat.reduceSub, Nat.reduceMul, Nat.reduceLT, Nat.reduceLeDiff, Nat.reduceBNe, Int.reduceBEq, Int.reduceBNe, Int.reduceLT, Int.reduceLE, Opr.a, nul, z0, z1, z2, z3, g0, g1, g2, g3, n0, n1, n2, n3, m0, m1, m2, m3, List.length_map, hr, he, he', Opr.zero, Bool.false_and, Bool.true_and, hv, h6] | refine z01 (hU1) ?_ | refine z00 (hU1) ?_ | refine z01 (hU2) ?_ | refine z00 (hU2) ?_ | refine z01 (hD3) ?_ | refine z00 (hD3) ?_ | refine z01 (hV _ _ _ _) ?_ | refine z00 (hV _ _ _ _) ?_ | refine z01 (hG _ _ _ _) ?_ | refine z00 (hG _ _ _ _) ?_ | refine z01 (hR1) ?_ | refine z00 (hR1) ?_ | refine z01 (hX1) ?_ | refine z00 (hX1) ?_ | refine And.intro (by omega) ?_ | refine And.intro (fun d hd => by (repeat (rcases hd with rfl | hd; · exact ⟨rfl, rfl⟩)); cases hd) ?_))
  | false =>
    cases hg : (k == 4 || k == 6) with
    | false =>
      have h6 : (k == 6) = false := by cases h : (k == 6) <;> simp_all
      have h4 : (k == 4) = false := by cases h : (k == 4) <;> simp_all
      have hR1 := hR (⟨#[]⟩ : ByteArray) false (⟨#[]⟩ : ByteArray) 0
      have hX1 := hX (⟨#[]⟩ : ByteArray) false (⟨#[]⟩ : ByteArray) 0
      cases hr : Opr.right (⟨k, uq1 a1, ⟨#[]⟩, false, ⟨#[]⟩, 0⟩ : Opr) with
      | false =>
        rw [hr] at hR1
        (repeat (first | simp (maxSteps := 4000000) only [go_sem, ↓reduceIte, reduceCtorEq, Nat.reduceEqDiff, Nat.reduceBEq, Nat.reduceAdd, Nat.reduceSub, Nat.reduceMul, Nat.reduceLT, Nat.reduceLeDiff, Nat.reduceBNe, Int.reduceBEq, Int.reduceBNe, Int.reduceLT, Int.reduceLE, Opr.a, nul, z0, z1, z2, z3, g0, g1, g2, g3, n0, n1, n2, n3, m0, m1, m2, m3, List.length_map, hr, Opr.zero, Bool.false_and, Bool.true_and, hv, hg, h6, h4] | refine z01 (hU1) ?_ | refine z00 (hU1) ?_ | refine z01 (hU2) ?_ | refine z00 (hU2) ?_ | refine z01 (hD3) ?_ | refine z00 (hD3) ?_ | refine z01 (hV _ _ _ _) ?_ | refine z00 (hV _ _ _ _) ?_ | refine z01 (hG _ _ _ _) ?_ | refine z00 (hG _ _ _ _) ?_ | refine z01 (hR1) ?_ | refine z00 (hR1) ?_ | refine And.intro (by omega) ?_ | refine And.intro (fun d hd => by (repeat (rcases hd with rfl | hd; · exact ⟨rfl, rfl⟩)); cases hd) ?_))
      | true =>
        rw [hr] at hR1
        cases he : ((z2i (⟨k, uq1 a1, ⟨#[]⟩, false, ⟨#[]⟩, 0⟩ : Opr)).toList == s.toList) with
        | false =>
          have he' : ((z2i (⟨k, uq1 a1, ⟨#[]⟩, false, ⟨#[]⟩, 0⟩ : Opr)).toList != s.toList) = true := by simp [bne, he]
          (repeat (first | simp (maxSteps := 4000000) only [go_sem, ↓reduceIte, reduceCtorEq, Nat.reduceEqDiff, Nat.reduceBEq, Nat.reduceAdd, Nat.reduceSub, Nat.reduceMul, Nat.reduceLT, Nat.reduceLeDiff, Nat.reduceBNe, Int.reduceBEq, Int.reduceBNe, Int.reduceLT, Int.reduceLE, Opr.a, nul, z0, z1, z2, z3, g0, g1, g2, g3, n0, n1, n2, n3, m0, m1, m2, m3, List.length_map, hr, he, he', Opr.zero, Bool.false_and, Bool.true_and, hv, hg, h6, h4] | refine z01 (hU1) ?_ | refine z00 (hU1) ?_ | refine z01 (hU2) ?_ | refine z00 (hU2) ?_ | refine z01 (hD3) ?_ | refine z00 (hD3) ?_ | refine z01 (hV _ _ _ _) ?_ | refine z00 (hV _ _ _ _) ?_ | refine z01 (hG _ _ _ _) ?_ | refine z00 (hG _ _ _ _) ?_ | refine z01 (hR1) ?_ | refine z00 (hR1) ?_ | refine z01 (hX1) ?_ | refine z00 (hX1) ?_ | refine And.intro (by omega) ?_ | refine And.intro (fun d hd => by (repeat (rcases hd with rfl | hd; · exact ⟨rfl, rfl⟩)); cases hd) ?_))
        | true =>
          have he' : ((z2i (⟨k, uq1 a1, ⟨#[]⟩, false, ⟨#[]⟩, 0⟩ : Opr)).toList != s.toList) = false := by simp [bne, he]
          (repeat (first | simp (maxSteps := 4000000) only [go_sem, ↓reduceIte, reduceCtorEq, Nat.reduceEqDiff, Nat.reduceBEq, Nat.reduceAdd, Nat.reduceSub, Nat.reduceMul, Nat.reduceLT, Nat.reduceLeDiff, Nat.reduceBNe, Int.reduceBEq, Int.reduceBNe, Int.reduceLT, Int.reduceLE, Opr.a, nul, z0, z1, z2, z3, g0, g1, g2, g3, n0, n1, n2, n3, m0, m1, m2, m3, List.length_map, hr, he, he', Opr.zero, Bool.false_and, Bool.true_and, hv, hg, h6, h4] | refine z01 (hU1) ?_ | refine z00 (hU1) ?_ | refine z01 (hU2) ?_ | refine z00 (hU2) ?_ | refine z01 (hD3) ?_ | refine z00 (hD3) ?_ | refine z01 (hV _ _ _ _) ?_ | refine z00 (hV _ _ _ _) ?_ | refine z01 (hG _ _ _ _) ?_ | refine z00 (hG _ _ _ _) ?_ | refine z01 (hR1) ?_ | refine z00 (hR1) ?_ | refine z01 (hX1) ?_ | refine z00 (hX1) ?_ | refine And.intro (by omega) ?_ | refine And.intro (fun d hd => by (repeat (rcases hd with rfl | hd; · exact ⟨rfl, rfl⟩)); cases hd) ?_))
    | true =>
      cases hs2 : (a2.toList == (ByteArray.mk #[42]).toList) with
      | true =>
        cases h6 : (k == 6) with
        | false =>
          have h4 : (k == 4) = true := by cases h : (k == 4) <;> simp_all
          have hR1 := hR (⟨#[]⟩ : ByteArray) true (⟨#[]⟩ : ByteArray) 0
          have hX1 := hX (⟨#[]⟩ : ByteArray) true (⟨#[]⟩ : ByteArray) 0
          cases hr : Opr.right (⟨k, uq1 a1, ⟨#[]⟩, true, ⟨#[]⟩, 0⟩ : Opr) with
          | false =>
            rw [hr] at hR1
            (repeat (first | simp (maxSteps := 4000000) only [go_sem, ↓reduceIte, reduceCtorEq, Nat.reduceEqDiff, Nat.reduceBEq, Nat.reduceAdd, Nat.reduceSub, Nat.reduceMul, Nat.reduceLT, Nat.reduceLeDiff, Nat.reduceBNe, Int.reduceBEq, Int.reduceBNe, Int.reduceLT, Int.reduceLE, Opr.a, nul, z0, z1, z2, z3, g0, g1, g2, g3, n0, n1, n2, n3, m0, m1, m2, m3, List.length_map, hr, Opr.zero, Bool.false_and, Bool.true_and, hv, hg, h6, h4, hs2] | refine z01 (hU1) ?_ | refine z00 (hU1) ?_ | refine z01 (hU2) ?_ | refine z00 (hU2) ?_ | refine z01 (hD3) ?_ | refine z00 (hD3) ?_ | refine z01 (hV _ _ _ _) ?_ | refine z00 (hV _ _ _ _) ?_ | refine z01 (hG _ _ _ _) ?_ | refine z00 (hG _ _ _ _) ?_ | refine z01 (hR1) ?_ | refine z00 (hR1) ?_ | refine And.intro (by omega) ?_ | refine And.intro (fun d hd => by (repeat (rcases hd with rfl | hd; · exact ⟨rfl, rfl⟩)); cases hd) ?_))
          | true =>
            rw [hr] at hR1
            cases he : ((z2i (⟨k, uq1 a1, ⟨#[]⟩, true, ⟨#[]⟩, 0⟩ : Opr)).toList == s.toList) with
            | false =>
              have he' : ((z2i (⟨k, uq1 a1, ⟨#[]⟩, true, ⟨#[]⟩, 0⟩ : Opr)).toList != s.toList) = true := by simp [bne, he]
              (repeat (first | simp (maxSteps := 4000000) only [go_sem, ↓reduceIte, reduceCtorEq, Nat.reduceEqDiff, Nat.reduceBEq, Nat.reduceAdd, Nat.reduceSub, Nat.reduceMul, Nat.reduceLT, Nat.reduceLeDiff, Nat.reduceBNe, Int.reduceBEq, Int.reduceBNe, Int.reduceLT, Int.reduceLE, Opr.a, nul, z0, z1, z2, z3, g0, g1, g2, g3, n0, n1, n2, n3, m0, m1, m2, m3, List.length_map, hr, he, he', Opr.zero, Bool.false_and, Bool.true_and, hv, hg, h6, h4, hs2] | refine z01 (hU1) ?_ | refine z00 (hU1) ?_ | refine z01 (hU2) ?_ | refine z00 (hU2) ?_ | refine z01 (hD3) ?_ | refine z00 (hD3) ?_ | refine z01 (hV _ _ _ _) ?_ | refine z00 (hV _ _ _ _) ?_ | refine z01 (hG _ _ _ _) ?_ | refine z00 (hG _ _ _ _) ?_ | refine z01 (hR1) ?_ | refine z00 (hR1) ?_ | refine z01 (hX1) ?_ | refine z00 (hX1) ?_ | refine And.intro (by omega) ?_ | refine And.intro (fun d hd => by (repeat (rcases hd with rfl | hd; · exact ⟨rfl, rfl⟩)); cases hd) ?_))
            | true =>
              have he' : ((z2i (⟨k, uq1 a1, ⟨#[]⟩, true, ⟨#[]⟩, 0⟩ : Opr)).toList != s.toList) = false := by simp [bne, he]
              (repeat (first | simp (maxSteps := 4000000) only [go_sem, ↓reduceIte, reduceCtorEq, Nat.reduceEqDiff, Nat.reduceBEq, Nat.reduceAdd, Nat.reduceSub, Nat.reduceMul, Nat.reduceLT, Nat.reduceLeDiff, Nat.reduceBNe, Int.reduceBEq, Int.reduceBNe, Int.reduceLT, Int.reduceLE, Opr.a, nul, z0, z1, z2, z3, g0, g1, g2, g3, n0, n1, n2, n3, m0, m1, m2, m3, List.length_map, hr, he, he', Opr.zero, Bool.false_and, Bool.true_and, hv, hg, h6, h4, hs2] | refine z01 (hU1) ?_ | refine z00 (hU1) ?_ | refine z01 (hU2) ?_ | refine z00 (hU2) ?_ | refine z01 (hD3) ?_ | refine z00 (hD3) ?_ | refine z01 (hV _ _ _ _) ?_ | refine z00 (hV _ _ _ _) ?_ | refine z01 (hG _ _ _ _) ?_ | refine z00 (hG _ _ _ _) ?_ | refine z01 (hR1) ?_ | refine z00 (hR1) ?_ | refine z01 (hX1) ?_ | refine z00 (hX1) ?_ | refine And.intro (by omega) ?_ | refine And.intro (fun d hd => by (repeat (rcases hd with rfl | hd; · exact ⟨rfl, rfl⟩)); cases hd) ?_))
        | true =>
          have h4 : (k == 4) = false := by rw [beq_eq_false_iff_ne]; have : k = 6 := by simpa using h6
                                           omega
          have hR1 := hR (⟨#[]⟩ : ByteArray) true (⟨#[]⟩ : ByteArray) (ud1 a3)
          have hX1 := hX (⟨#[]⟩ : ByteArray) true (⟨#[]⟩ : ByteArray) (ud1 a3)
          cases hr : Opr.right (⟨k, uq1 a1, ⟨#[]⟩, true, ⟨#[]⟩, (ud1 a3)⟩ : Opr) with
          | false =>
            rw [hr] at hR1
            (repeat (first | simp (maxSteps := 4000000) only [go_sem, ↓reduceIte, reduceCtorEq, Nat.reduceEqDiff, Nat.reduceBEq, Nat.reduceAdd, Nat.reduceSub, Nat.reduceMul, Nat.reduceLT, Nat.reduceLeDiff, Nat.reduceBNe, Int.reduceBEq, Int.reduceBNe, Int.reduceLT, Int.reduceLE, Opr.a, nul, z0, z1, z2, z3, g0, g1, g2, g3, n0, n1, n2, n3, m0, m1, m2, m3, List.length_map, hr, Opr.zero, Bool.false_and, Bool.true_and, hv, hg, h6, h4, hs2] | refine z01 (hU1) ?_ | refine z00 (hU1) ?_ | refine z01 (hU2) ?_ | refine z00 (hU2) ?_ | refine z01 (hD3) ?_ | refine z00 (hD3) ?_ | refine z01 (hV _ _ _ _) ?_ | refine z00 (hV _ _ _ _) ?_ | refine z01 (hG _ _ _ _) ?_ | refine z00 (hG _ _ _ _) ?_ | refine z01 (hR1) ?_ | refine z00 (hR1) ?_ | refine And.intro (by omega) ?_ | refine And.intro (fun d hd => by (repeat (rcases hd with rfl | hd; · exact ⟨rfl, rfl⟩)); cases hd) ?_))
          | true =>
            rw [hr] at hR1
            cases he : ((z2i (⟨k, uq1 a1, ⟨#[]⟩, true, ⟨#[]⟩, (ud1 a3)⟩ : Opr)).toList == s.toList) with
            | false =>
              have he' : ((z2i (⟨k, uq1 a1, ⟨#[]⟩, true, ⟨#[]⟩, (ud1 a3)⟩ : Opr)).toList != s.toList) = true := by simp [bne, he]
              (repeat (first | simp (maxSteps := 4000000) only [go_sem, ↓reduceIte, reduceCtorEq, Nat.reduceEqDiff, Nat.reduceBEq, Nat.reduceAdd, Nat.reduceSub, Nat.reduceMul, Nat.reduceLT, Nat.reduceLeDiff, Nat.reduceBNe, Int.reduceBEq, Int.reduceBNe, Int.reduceLT, Int.reduceLE, Opr.a, nul, z0, z1, z2, z3, g0, g1, g2, g3, n0, n1, n2, n3, m0, m1, m2, m3, List.length_map, hr, he, he', Opr.zero, Bool.false_and, Bool.true_and, hv, hg, h6, h4, hs2] | refine z01 (hU1) ?_ | refine z00 (hU1) ?_ | refine z01 (hU2) ?_ | refine z00 (hU2) ?_ | refine z01 (hD3) ?_ | refine z00 (hD3) ?_ | refine z01 (hV _ _ _ _) ?_ | refine z00 (hV _ _ _ _) ?_ | refine z01 (hG _ _ _ _) ?_ | refine z00 (hG _ _ _ _) ?_ | refine z01 (hR1) ?_ | refine z00 (hR1) ?_ | refine z01 (hX1) ?_ | refine z00 (hX1) ?_ | refine And.intro (by omega) ?_ | refine And.intro (fun d hd => by (repeat (rcases hd with rfl | hd; · exact ⟨rfl, rfl⟩)); cases hd) ?_))
            | true =>
              have he' : ((z2i (⟨k, uq1 a1, ⟨#[]⟩, true, ⟨#[]⟩, (ud1 a3)⟩ : Opr)).toList != s.toList) = false := by simp [bne, he]
              (repeat (first | simp (maxSteps := 4000000) only [go_sem, ↓reduceIte, reduceCtorEq, Nat.reduceEqDiff, Nat.reduceBEq, Nat.reduceAdd, Nat.reduceSub, Nat.reduceMul, Nat.reduceLT, Nat.reduceLeDiff, Nat.reduceBNe, Int.reduceBEq, Int.reduceBNe, Int.reduceLT, Int.reduceLE, Opr.a, nul, z0, z1, z2, z3, g0, g1, g2, g3, n0, n1, n2, n3, m0, m1, m2, m3, List.length_map, hr, he, he', Opr.zero, Bool.false_and, Bool.true_and, hv, hg, h6, h4, hs2] | refine z01 (hU1) ?_ | refine z00 (hU1) ?_ | refine z01 (hU2) ?_ | refine z00 (hU2) ?_ | refine z01 (hD3) ?_ | refine z00 (hD3) ?_ | refine z01 (hV _ _ _ _) ?_ | refine z00 (hV _ _ _ _) ?_ | refine z01 (hG _ _ _ _) ?_ | refine z00 (hG _ _ _ _) ?_ | refine z01 (hR1) ?_ | refine z00 (hR1) ?_ | refine z01 (hX1) ?_ | refine z00 (hX1) ?_ | refine And.intro (by omega) ?_ | refine And.intro (fun d hd => by (repeat (rcases hd with rfl | hd; · exact ⟨rfl, rfl⟩)); cases hd) ?_))
      | false =>
        cases h6 : (k == 6) with
        | false =>
          have h4 : (k == 4) = true := by cases h : (k == 4) <;> simp_all
          have hR1 := hR (uq1 a2) false (⟨#[]⟩ : ByteArray) 0
          have hX1 := hX (uq1 a2) false (⟨#[]⟩ : ByteArray) 0
          cases hr : Opr.right (⟨k, uq1 a1, (uq1 a2), false, ⟨#[]⟩, 0⟩ : Opr) with
          | false =>
            rw [hr] at hR1
            (repeat (first | simp (maxSteps := 4000000) only [go_sem, ↓reduceIte, reduceCtorEq, Nat.reduceEqDiff, Nat.reduceBEq, Nat.reduceAdd, Nat.reduceSub, Nat.reduceMul, Nat.reduceLT, Nat.reduceLeDiff, Nat.reduceBNe, Int.reduceBEq, Int.reduceBNe, Int.reduceLT, Int.reduceLE, Opr.a, nul, z0, z1, z2, z3, g0, g1, g2, g3, n0, n1, n2, n3, m0, m1, m2, m3, List.length_map, hr, Opr.zero, Bool.false_and, Bool.true_and, hv, hg, h6, h4, hs2] | refine z01 (hU1) ?_ | refine z00 (hU1) ?_ | refine z01 (hU2) ?_ | refine z00 (hU2) ?_ | refine z01 (hD3) ?_ | refine z00 (hD3) ?_ | refine z01 (hV _ _ _ _) ?_ | refine z00 (hV _ _ _ _) ?_ | refine z01 (hG _ _ _ _) ?_ | refine z00 (hG _ _ _ _) ?_ | refine z01 (hR1) ?_ | refine z00 (hR1) ?_ | refine And.intro (by omega) ?_ | refine And.intro (fun d hd => by (repeat (rcases hd with rfl | hd; · exact ⟨rfl, rfl⟩)); cases hd) ?_))
          | true =>
            rw [hr] at hR1
            cases he : ((z2i (⟨k, uq1 a1, (uq1 a2), false, ⟨#[]⟩, 0⟩ : Opr)).toList == s.toList) with
            | false =>
              have he' : ((z2i (⟨k, uq1 a1, (uq1 a2), false, ⟨#[]⟩, 0⟩ : Opr)).toList != s.toList) = true := by simp [bne, he]
              (repeat (first | simp (maxSteps := 4000000) only [go_sem, ↓reduceIte, reduceCtorEq, Nat.reduceEqDiff, Nat.reduceBEq, Nat.reduceAdd, Nat.reduceSub, Nat.reduceMul, Nat.reduceLT, Nat.reduceLeDiff, Nat.reduceBNe, Int.reduceBEq, Int.reduceBNe, Int.reduceLT, Int.reduceLE, Opr.a, nul, z0, z1, z2, z3, g0, g1, g2, g3, n0, n1, n2, n3, m0, m1, m2, m3, List.length_map, hr, he, he', Opr.zero, Bool.false_and, Bool.true_and, hv, hg, h6, h4, hs2] | refine z01 (hU1) ?_ | refine z00 (hU1) ?_ | refine z01 (hU2) ?_ | refine z00 (hU2) ?_ | refine z01 (hD3) ?_ | refine z00 (hD3) ?_ | refine z01 (hV _ _ _ _) ?_ | refine z00 (hV _ _ _ _) ?_ | refine z01 (hG _ _ _ _) ?_ | refine z00 (hG _ _ _ _) ?_ | refine z01 (hR1) ?_ | refine z00 (hR1) ?_ | refine z01 (hX1) ?_ | refine z00 (hX1) ?_ | refine And.intro (by omega) ?_ | refine And.intro (fun d hd => by (repeat (rcases hd with rfl | hd; · exact ⟨rfl, rfl⟩)); cases hd) ?_))
            | true =>
              have he' : ((z2i (⟨k, uq1 a1, (uq1 a2), false, ⟨#[]⟩, 0⟩ : Opr)).toList != s.toList) = false := by simp [bne, he]
              (repeat (first | simp (maxSteps := 4000000) only [go_sem, ↓reduceIte, reduceCtorEq, Nat.reduceEqDiff, Nat.reduceBEq, Nat.reduceAdd, Nat.reduceSub, Nat.reduceMul, Nat.reduceLT, Nat.reduceLeDiff, Nat.reduceBNe, Int.reduceBEq, Int.reduceBNe, Int.reduceLT, Int.reduceLE, Opr.a, nul, z0, z1, z2, z3, g0, g1, g2, g3, n0, n1, n2, n3, m0, m1, m2, m3, List.length_map, hr, he, he', Opr.zero, Bool.false_and, Bool.true_and, hv, hg, h6, h4, hs2] | refine z01 (hU1) ?_ | refine z00 (hU1) ?_ | refine z01 (hU2) ?_ | refine z00 (hU2) ?_ | refine z01 (hD3) ?_ | refine z00 (hD3) ?_ | refine z01 (hV _ _ _ _) ?_ | refine z00 (hV _ _ _ _) ?_ | refine z01 (hG _ _ _ _) ?_ | refine z00 (hG _ _ _ _) ?_ | refine z01 (hR1) ?_ | refine z00 (hR1) ?_ | refine z01 (hX1) ?_ | refine z00 (hX1) ?_ | refine And.intro (by omega) ?_ | refine And.intro (fun d hd => by (repeat (rcases hd with rfl | hd; · exact ⟨rfl, rfl⟩)); cases hd) ?_))
        | true =>
          have h4 : (k == 4) = false := by rw [beq_eq_false_iff_ne]; have : k = 6 := by simpa using h6
                                           omega
          have hR1 := hR (uq1 a2) false (⟨#[]⟩ : ByteArray) (ud1 a3)
          have hX1 := hX (uq1 a2) false (⟨#[]⟩ : ByteArray) (ud1 a3)
          cases hr : Opr.right (⟨k, uq1 a1, (uq1 a2), false, ⟨#[]⟩, (ud1 a3)⟩ : Opr) with
          | false =>
            rw [hr] at hR1
            (repeat (first | simp (maxSteps := 4000000) only [go_sem, ↓reduceIte, reduceCtorEq, Nat.reduceEqDiff, Nat.reduceBEq, Nat.reduceAdd, Nat.reduceSub, Nat.reduceMul, Nat.reduceLT, Nat.reduceLeDiff, Nat.reduceBNe, Int.reduceBEq, Int.reduceBNe, Int.reduceLT, Int.reduceLE, Opr.a, nul, z0, z1, z2, z3, g0, g1, g2, g3, n0, n1, n2, n3, m0, m1, m2, m3, List.length_map, hr, Opr.zero, Bool.false_and, Bool.true_and, hv, hg, h6, h4, hs2] | refine z01 (hU1) ?_ | refine z00 (hU1) ?_ | refine z01 (hU2) ?_ | refine z00 (hU2) ?_ | refine z01 (hD3) ?_ | refine z00 (hD3) ?_ | refine z01 (hV _ _ _ _) ?_ | refine z00 (hV _ _ _ _) ?_ | refine z01 (hG _ _ _ _) ?_ | refine z00 (hG _ _ _ _) ?_ | refine z01 (hR1) ?_ | refine z00 (hR1) ?_ | refine And.intro (by omega) ?_ | refine And.intro (fun d hd => by (repeat (rcases hd with rfl | hd; · exact ⟨rfl, rfl⟩)); cases hd) ?_))
          | true =>
            rw [hr] at hR1
            cases he : ((z2i (⟨k, uq1 a1, (uq1 a2), false, ⟨#[]⟩, (ud1 a3)⟩ : Opr)).toList == s.toList) with
            | false =>
              have he' : ((z2i (⟨k, uq1 a1, (uq1 a2), false, ⟨#[]⟩, (ud1 a3)⟩ : Opr)).toList != s.toList) = true := by simp [bne, he]
              (repeat (first | simp (maxSteps := 4000000) only [go_sem, ↓reduceIte, reduceCtorEq, Nat.reduceEqDiff, Nat.reduceBEq, Nat.reduceAdd, Nat.reduceSub, Nat.reduceMul, Nat.reduceLT, Nat.reduceLeDiff, Nat.reduceBNe, Int.reduceBEq, Int.reduceBNe, Int.reduceLT, Int.reduceLE, Opr.a, nul, z0, z1, z2, z3, g0, g1, g2, g3, n0, n1, n2, n3, m0, m1, m2, m3, List.length_map, hr, he, he', Opr.zero, Bool.false_and, Bool.true_and, hv, hg, h6, h4, hs2] | refine z01 (hU1) ?_ | refine z00 (hU1) ?_ | refine z01 (hU2) ?_ | refine z00 (hU2) ?_ | refine z01 (hD3) ?_ | refine z00 (hD3) ?_ | refine z01 (hV _ _ _ _) ?_ | refine z00 (hV _ _ _ _) ?_ | refine z01 (hG _ _ _ _) ?_ | refine z00 (hG _ _ _ _) ?_ | refine z01 (hR1) ?_ | refine z00 (hR1) ?_ | refine z01 (hX1) ?_ | refine z00 (hX1) ?_ | refine And.intro (by omega) ?_ | refine And.intro (fun d hd => by (repeat (rcases hd with rfl | hd; · exact ⟨rfl, rfl⟩)); cases hd) ?_))
            | true =>
              have he' : ((z2i (⟨k, uq1 a1, (uq1 a2), false, ⟨#[]⟩, (ud1 a3)⟩ : Opr)).toList != s.toList) = false := by simp [bne, he]
              (repeat (first | simp (maxSteps := 4000000) only [go_sem, ↓reduceIte, reduceCtorEq, Nat.reduceEqDiff, Nat.reduceBEq, Nat.reduceAdd, Nat.reduceSub, Nat.reduceMul, Nat.reduceLT, Nat.reduceLeDiff, Nat.reduceBNe, Int.reduceBEq, Int.reduceBNe, Int.reduceLT, Int.reduceLE, Opr.a, nul, z0, z1, z2, z3, g0, g1, g2, g3, n0, n1, n2, n3, m0, m1, m2, m3, List.length_map, hr, he, he', Opr.zero, Bool.false_and, Bool.true_and, hv, hg, h6, h4, hs2] | refine z01 (hU1) ?_ | refine z00 (hU1) ?_ | refine z01 (hU2) ?_ | refine z00 (hU2) ?_ | refine z01 (hD3) ?_ | refine z00 (hD3) ?_ | refine z01 (hV _ _ _ _) ?_ | refine z00 (hV _ _ _ _) ?_ | refine z01 (hG _ _ _ _) ?_ | refine z00 (hG _ _ _ _) ?_ | refine z01 (hR1) ?_ | refine z00 (hR1) ?_ | refine z01 (hX1) ?_ | refine z00 (hX1) ?_ | refine And.intro (by omega) ?_ | refine And.intro (fun d hd => by (repeat (rcases hd with rfl | hd; · exact ⟨rfl, rfl⟩)); cases hd) ?_))
end
section
/-
 The chapter's examples of traces.
-/
open Go.RowKit
set_option linter.unusedVariables false
set_option linter.unusedSimpArgs false
set_option maxRecDepth 100000
attribute [local go_sem ↓] z11 z0l
theorem dec1 (d:Nat) (h:d < 10):decS (d:Int) = ⟨#[UInt8.ofNat (48 + d)]⟩:=by
 unfold decS
 rw [zef (by omega),Int.toNat_natCast,z3w d h]
theorem spl_eq {l r:List ByteArray} (h:l.map (·.data.toList) = r.map (·.data.toList)):l = r:=by
 induction l generalizing r with
 | nil=>cases r with
  | nil=>rfl
  | cons y r=>cases h
 | cons x l ih=>cases r with
  | nil=>cases h
  | cons y r =>
   simp only [List.map_cons,List.cons.injEq] at h
   rw [z2p h.1,ih h.2]
def ansZ:AV:=.agg [.int .i64 0,.bool false,.str ⟨#[]⟩,.sl []]
def evtA:AV:=.agg [.int .i64 0,.int .i64 1,.str ⟨#[97]⟩,.str ⟨#[]⟩,.bool false,.str ⟨#[49]⟩,.int .i64 0,.int .i64 0,.bool false,.str ⟨#[]⟩,.sl [],.int .i64 1,.int .i64 3,.int .i64 3,.bool true]
def opA:Opr:=⟨1,⟨#[97]⟩,⟨#[]⟩,false,⟨#[49]⟩,0⟩
/-! ### percolate/trace.yes -/
def r_yes_0:Reg:=⟨[],[⟨.mv (.c (.str ⟨#[]⟩)),some 2,none,[],[]⟩],[],[],false⟩
def r_yes_1:Reg:=⟨[],[⟨.mv (.t 0),some 3,none,[],[]⟩],[],[],false⟩
def r_yes_2:Reg:=⟨[],[⟨.mv (.c (.str ⟨#[121,101,115]⟩)),some 2,none,[],[]⟩],[],[],false⟩
def r_yes_3:Reg:=⟨[],[⟨.mv (.c (.str ⟨#[110,111]⟩)),some 2,none,[],[]⟩],[],[],false⟩
def ir_yes:IR:=(.seq (.reg r_yes_0)
 (.seq (.seq (.reg r_yes_1)
 (.cond (.t 3) (.seq (.reg r_yes_2)
 .ret)
 .skip))
 (.seq (.reg r_yes_3)
 .ret)))
def res_yes:List RDesc:=[(.tmp 2)]
theorem e_yes_0:EqR r_yes_0 [⟨.mv (.c (.str ⟨#[]⟩)),some 2,none,[],[]⟩] []:=fun _ _ _=>rfl
theorem e_yes_1:EqR r_yes_1 [⟨.mv (.t 0),some 3,none,[],[]⟩] []:=fun _ _ _=>rfl
theorem e_yes_2:EqR r_yes_2 [⟨.mv (.c (.str ⟨#[121,101,115]⟩)),some 2,none,[],[]⟩] []:=fun _ _ _=>rfl
theorem e_yes_3:EqR r_yes_3 [⟨.mv (.c (.str ⟨#[110,111]⟩)),some 2,none,[],[]⟩] []:=fun _ _ _=>rfl
theorem fn_yes {args:List AV} {r:AV} (ha:args.length.ble Tryz.f40.ntmps = true) (h:run (AFn Tryz.prog) ir_yes (endQ res_yes r) (z0b args)):AFn Tryz.prog 40 args r :=
 AFn.of_code (pv:=false) (hint:=fun _=>[]) (c:=Tryz.f40.body.getD .skip) (by kernel_rfl) (by kernel_rfl) Tryz.func40 (by kernel_rfl) (by kernel_rfl) (by kernel_rfl) (of_decide_eq_true (by kernel_rfl)) (Nat.le_of_ble_eq_true ha) (Nat.le_of_ble_eq_true (by kernel_rfl)) (z0c h)
/-! ### percolate/answer.Line -/
def zjp:List ROp:=[⟨.box 6 39 (.t 0),some 2,none,[3],[]⟩,⟨.box 4 42 (.t 1),some 3,none,[],[]⟩,⟨.mv (.c (.str ⟨#[]⟩)),some 4,none,[],[]⟩]
def y60:Reg:=⟨[],zjp,[2,3],[],false⟩
def zjo:List ROp:=[⟨.faddr 0 (.t 3),some 9,none,[],[]⟩,⟨.load 1 false (.t 9),some 10,none,[],[]⟩,⟨.bin .neq (.t 10) (.c (.int .i64 0)),some 11,none,[],[]⟩,⟨.mv (.t 11),some 8,none,[],[]⟩]
def y5z:Reg:=⟨[],zjo,[],[],false⟩
def zjn:List ROp:=[⟨.faddr 0 (.t 3),some 12,none,[14],[]⟩,⟨.load 1 false (.t 12),some 13,none,[14],[]⟩,⟨.callv (.c (.clo 17 [] [])) [(.t 13)],some 14,none,[],[]⟩,⟨.bin .add (.c (.str ⟨#[101,114,114,111,114,32]⟩)) (.t 14),some 15,none,[],[]⟩,⟨.mv (.t 15),some 4,none,[],[]⟩]
def y5y:Reg:=⟨[],zjn,[14],[],false⟩
def zjm:List ROp:=[⟨.faddr 0 (.t 2),some 17,none,[],[]⟩,⟨.load 1 false (.t 17),some 18,none,[],[]⟩,⟨.bin .eql (.t 18) (.c (.int .i64 5)),some 19,none,[],[]⟩,⟨.mv (.t 19),some 20,none,[],[]⟩,⟨.faddr 1 (.t 3),some 21,(some (20,true)),[],[]⟩,⟨.load 1 false (.t 21),some 22,(some (20,true)),[],[]⟩,⟨.pick (.t 20) (.t 22) (.c (.bool false)),some 23,none,[],[]⟩,⟨.mv (.t 23),some 16,none,[],[]⟩]
def y5x:Reg:=⟨[],zjm,[],[],false⟩
def zjl:List ROp:=[⟨.faddr 2 (.t 3),some 24,none,[26],[]⟩,⟨.load 1 false (.t 24),some 25,none,[26],[]⟩,⟨.callv (.c (.clo 15 [] [])) [(.t 25)],some 26,none,[],[]⟩,⟨.bin .add (.c (.str ⟨#[104,97,115,32]⟩)) (.t 26),some 27,none,[],[]⟩,⟨.mv (.t 27),some 4,none,[],[]⟩]
def y5w:Reg:=⟨[],zjl,[26],[],false⟩
def zjk:List ROp:=[⟨.faddr 0 (.t 2),some 29,none,[],[]⟩,⟨.load 1 false (.t 29),some 30,none,[],[]⟩,⟨.bin .eql (.t 30) (.c (.int .i64 5)),some 31,none,[],[]⟩,⟨.mv (.t 31),some 28,none,[],[]⟩]
def y5v:Reg:=⟨[],zjk,[],[],false⟩
def y5u:Reg:=⟨[],[⟨.mv (.c (.str ⟨#[110,111,110,101]⟩)),some 4,none,[],[]⟩],[],[],false⟩
def zjj:List ROp:=[⟨.faddr 0 (.t 2),some 33,none,[],[]⟩,⟨.load 1 false (.t 33),some 34,none,[],[]⟩,⟨.bin .eql (.t 34) (.c (.int .i64 6)),some 35,none,[],[]⟩,⟨.mv (.t 35),some 32,none,[],[]⟩]
def y5t:Reg:=⟨[],zjj,[],[],false⟩
def zji:List ROp:=[⟨.faddr 3 (.t 3),some 36,none,[39],[]⟩,⟨.load 1 false (.t 36),some 37,none,[39],[]⟩,⟨.len false (.t 37),some 38,none,[39],[]⟩,⟨.callv (.c (.clo 17 [] [])) [(.t 38)],some 39,none,[],[]⟩,⟨.bin .add (.c (.str ⟨#[112,97,105,114,115,32]⟩)) (.t 39),some 40,none,[],[]⟩,⟨.mv (.t 40),some 5,none,[],[]⟩]
def y5s:Reg:=⟨[],zji,[39],[],false⟩
def zjh:List ROp:=[⟨.faddr 3 (.t 3),some 41,none,[],[]⟩,⟨.load 1 false (.t 41),some 42,none,[],[]⟩,⟨.len false (.t 42),some 43,none,[],[]⟩,⟨.mv (.c (.int .i64 0)),some 44,none,[],[]⟩]
def y5r:Reg:=⟨[],zjh,[],[],false⟩
def zwr:Reg:=⟨[],[⟨.bin .lss (.t 44) (.t 43),some 45,none,[],[]⟩],[],[],false⟩
def zdt:List ROp:=[⟨.iaddr 2 (.t 42) (.t 44),some 46,none,[7],[]⟩,⟨.load 2 true (.t 46),some 47,none,[7],[]⟩,⟨.alloc 2 50 (.agg [(.str ⟨#[]⟩),(.str ⟨#[]⟩)]),some 7,none,[],[]⟩,⟨.store 2 (.t 7) (.t 47),none,none,[],[]⟩]
def zwq:Reg:=⟨[],zdt,[7],[],false⟩
def zf0:List ROp:=[⟨.mv (.t 5),some 48,none,[51,56],[]⟩,⟨.faddr 0 (.t 7),some 49,none,[51,56],[]⟩,⟨.load 1 false (.t 49),some 50,none,[51,56],[]⟩,⟨.callv (.c (.clo 15 [] [])) [(.t 50)],some 51,none,[56],[]⟩,⟨.bin .add (.c (.str ⟨#[32]⟩)) (.t 51),some 52,none,[56],[]⟩,⟨.bin .add (.t 52) (.c (.str ⟨#[61]⟩)),some 53,none,[56],[]⟩,⟨.faddr 1 (.t 7),some 54,none,[51,56],[]⟩,⟨.load 1 false (.t 54),some 55,none,[51,56],[]⟩,⟨.callv (.c (.clo 15 [] [])) [(.t 55)],some 56,none,[],[]⟩,⟨.bin .add (.t 53) (.t 56),some 57,none,[],[]⟩]
def zwp:Reg:=⟨zf0,[⟨.bin .add (.t 48) (.t 57),some 58,none,[],[]⟩,⟨.mv (.t 58),some 5,none,[],[]⟩],[51,56],[],true⟩
def zwo:Reg:=⟨[],[⟨.bin .add (.t 44) (.c (.int .i64 1)),some 59,none,[],[]⟩,⟨.mv (.t 59),some 44,none,[],[]⟩],[],[],false⟩
def y91:IR:=(.seq (.reg zwr)
 (.seq (.cond (.t 45) .skip
 (.exit 1))
 (.seq (.block 2 (.seq (.reg zwq)
 (.reg zwp)))
 (.reg zwo))))
def zwn:Reg:=⟨[],[⟨.mv (.t 5),some 60,none,[],[]⟩,⟨.mv (.t 60),some 4,none,[],[]⟩],[],[],false⟩
def zwm:Reg:=⟨[],[⟨.mv (.c (.str ⟨#[111,107]⟩)),some 4,none,[],[]⟩],[],[],false⟩
def yg4:IR:=(.seq (.reg y60)
 (.seq (.block 0 (.seq (.reg y5z)
 (.cond (.t 8) (.seq (.reg y5y)
 .ret)
 (.seq (.reg y5x)
 (.cond (.t 16) (.seq (.reg y5w)
 .ret)
 (.seq (.reg y5v)
 (.cond (.t 28) (.seq (.reg y5u)
 .ret)
 (.seq (.reg y5t)
 (.cond (.t 32) (.seq (.reg y5s)
 (.seq (.seq (.reg y5r)
 (.block 1 (.loop y91)))
 (.seq (.reg zwn)
 .ret)))
 .skip)))))))))
 (.seq (.reg zwm)
 .ret)))
def y0v:List RDesc:=[(.tmp 4)]
theorem e_aLine_0:EqR y60 zjp [2,3]:=fun _ _ _=>rfl
theorem e_aLine_1:EqR y5z zjo []:=fun _ _ _=>rfl
theorem e_aLine_2:EqR y5y zjn [14]:=fun _ _ _=>rfl
theorem e_aLine_3:EqR y5x zjm []:=fun _ _ _=>rfl
theorem e_aLine_4:EqR y5w zjl [26]:=fun _ _ _=>rfl
theorem e_aLine_5:EqR y5v zjk []:=fun _ _ _=>rfl
theorem e_aLine_6:EqR y5u [⟨.mv (.c (.str ⟨#[110,111,110,101]⟩)),some 4,none,[],[]⟩] []:=fun _ _ _=>rfl
theorem e_aLine_7:EqR y5t zjj []:=fun _ _ _=>rfl
theorem e_aLine_8:EqR y5s zji [39]:=fun _ _ _=>rfl
theorem e_aLine_9:EqR y5r zjh []:=fun _ _ _=>rfl
theorem e_aLine_10:EqR zwr [⟨.bin .lss (.t 44) (.t 43),some 45,none,[],[]⟩] []:=fun _ _ _=>rfl
theorem e_aLine_11:EqR zwq zdt [7]:=fun _ _ _=>rfl
theorem e_aLine_12 (C:FuncId->List AV->AV->Prop) (σ:St) (K:St->Prop):z0k C zwp σ K = z08 C [] [⟨.bin .add (.t 48) (.t 57),some 58,none,[],[]⟩,⟨.mv (.t 58),some 5,none,[],[]⟩] zf0 (σ.kills [51,56]) K:=rfl
theorem e_aLine_13:EqR zwo [⟨.bin .add (.t 44) (.c (.int .i64 1)),some 59,none,[],[]⟩,⟨.mv (.t 59),some 44,none,[],[]⟩] []:=fun _ _ _=>rfl
theorem e_aLine_15:EqR zwn [⟨.mv (.t 5),some 60,none,[],[]⟩,⟨.mv (.t 60),some 4,none,[],[]⟩] []:=fun _ _ _=>rfl
theorem e_aLine_16:EqR zwm [⟨.mv (.c (.str ⟨#[111,107]⟩)),some 4,none,[],[]⟩] []:=fun _ _ _=>rfl
theorem fn_aLine {args:List AV} {r:AV} (ha:args.length.ble Tryz.f39.ntmps = true) (h:run (AFn Tryz.prog) yg4 (endQ y0v r) (z0b args)):AFn Tryz.prog 39 args r :=
 AFn.of_code (pv:=false) (hint:=fun _=>[]) (c:=Tryz.f39.body.getD .skip) (by kernel_rfl) (by kernel_rfl) Tryz.func39 (by kernel_rfl) (by kernel_rfl) (by kernel_rfl) (of_decide_eq_true (by kernel_rfl)) (Nat.le_of_ble_eq_true ha) (Nat.le_of_ble_eq_true (by kernel_rfl)) (z0c h)
/-! ### percolate/trace.Event -/
def zrk:Reg:=⟨[],[⟨.box 15 44 (.t 0),some 1,none,[],[]⟩,⟨.mv (.c (.str ⟨#[]⟩)),some 2,none,[],[]⟩],[1],[],false⟩
def zrj:Reg:=⟨[],[⟨.mv (.c (.str ⟨#[45]⟩)),some 3,none,[],[]⟩],[],[],false⟩
def zri:Reg:=⟨[],[⟨.faddr 14 (.t 1),some 4,none,[],[]⟩,⟨.load 1 false (.t 4),some 5,none,[],[]⟩],[],[],false⟩
def zb3:List ROp:=[⟨.faddr 1 (.t 1),some 6,none,[10],[]⟩,⟨.load 6 true (.t 6),some 7,none,[10],[]⟩,⟨.faddr 7 (.t 1),some 8,none,[10],[]⟩,⟨.load 4 true (.t 8),some 9,none,[10],[]⟩,⟨.callv (.c (.clo 39 [] [])) [(.t 7),(.t 9)],some 10,none,[],[]⟩,⟨.mv (.t 10),some 3,none,[],[]⟩]
def zrh:Reg:=⟨[],zb3,[10],[],false⟩
def zb2:List ROp:=[⟨.bsl 1 9 [(.t 13),(.t 16),(.t 19),(.t 22),(.t 25),(.c (.str ⟨#[58]⟩)),(.t 28),(.c (.str ⟨#[58]⟩)),(.t 29)],some 30,none,[31],[]⟩,⟨.callv (.c (.clo 16 [] [])) [(.t 30)],some 31,none,[],[]⟩,⟨.mv (.t 31),some 2,none,[],[]⟩]
def zek:List ROp:=[⟨.faddr 0 (.t 1),some 11,none,[13,16,19,22,25,28,30,31],[]⟩,⟨.load 1 false (.t 11),some 12,none,[13,16,19,22,25,28,30,31],[]⟩,⟨.callv (.c (.clo 17 [] [])) [(.t 12)],some 13,none,[16,19,22,25,28,30,31],[]⟩,⟨.faddr 11 (.t 1),some 14,none,[13,16,19,22,25,28,30,31],[]⟩,⟨.load 1 false (.t 14),some 15,none,[13,16,19,22,25,28,30,31],[]⟩,⟨.callv (.c (.clo 17 [] [])) [(.t 15)],some 16,none,[19,22,25,28,30,31],[]⟩,⟨.faddr 12 (.t 1),some 17,none,[13,16,19,22,25,28,30,31],[]⟩,⟨.load 1 false (.t 17),some 18,none,[13,16,19,22,25,28,30,31],[]⟩,⟨.callv (.c (.clo 17 [] [])) [(.t 18)],some 19,none,[22,25,28,30,31],[]⟩,⟨.faddr 13 (.t 1),some 20,none,[13,16,19,22,25,28,30,31],[]⟩,⟨.load 1 false (.t 20),some 21,none,[13,16,19,22,25,28,30,31],[]⟩,⟨.callv (.c (.clo 17 [] [])) [(.t 21)],some 22,none,[25,28,30,31],[]⟩,⟨.faddr 14 (.t 1),some 23,none,[13,16,19,22,25,28,30,31],[]⟩,⟨.load 1 false (.t 23),some 24,none,[13,16,19,22,25,28,30,31],[]⟩,⟨.callv (.c (.clo 40 [] [])) [(.t 24)],some 25,none,[28,30,31],[]⟩,⟨.faddr 1 (.t 1),some 26,none,[13,16,19,22,25,28,30,31],[]⟩,⟨.load 6 true (.t 26),some 27,none,[13,16,19,22,25,28,30,31],[]⟩,⟨.callv (.c (.clo 41 [] [])) [(.t 27)],some 28,none,[30,31],[]⟩,⟨.mv (.t 3),some 29,none,[13,16,19,22,25,28,30,31],[]⟩]
def zrg:Reg:=⟨zek,zb2,[13,16,19,22,25,28,30,31],[],true⟩
def y6n:IR:=(.seq (.reg zrk)
 (.seq (.reg zrj)
 (.seq (.seq (.reg zri)
 (.cond (.t 5) (.reg zrh)
 .skip))
 (.seq (.reg zrg)
 .ret))))
def zq0:List RDesc:=[(.tmp 2)]
theorem e_tEvent_0:EqR zrk [⟨.box 15 44 (.t 0),some 1,none,[],[]⟩,⟨.mv (.c (.str ⟨#[]⟩)),some 2,none,[],[]⟩] [1]:=fun _ _ _=>rfl
theorem e_tEvent_1:EqR zrj [⟨.mv (.c (.str ⟨#[45]⟩)),some 3,none,[],[]⟩] []:=fun _ _ _=>rfl
theorem e_tEvent_2:EqR zri [⟨.faddr 14 (.t 1),some 4,none,[],[]⟩,⟨.load 1 false (.t 4),some 5,none,[],[]⟩] []:=fun _ _ _=>rfl
theorem e_tEvent_3:EqR zrh zb3 [10]:=fun _ _ _=>rfl
theorem e_tEvent_4 (C:FuncId->List AV->AV->Prop) (σ:St) (K:St->Prop):z0k C zrg σ K = z08 C [] zb2 zek (σ.kills [13,16,19,22,25,28,30,31]) K:=rfl
theorem fn_tEvent {args:List AV} {r:AV} (ha:args.length.ble Tryz.f13.ntmps = true) (h:run (AFn Tryz.prog) y6n (endQ zq0 r) (z0b args)):AFn Tryz.prog 13 args r :=
 AFn.of_code (pv:=false) (hint:=fun _=>[]) (c:=Tryz.f13.body.getD .skip) (by kernel_rfl) (by kernel_rfl) Tryz.func13 (by kernel_rfl) (by kernel_rfl) (by kernel_rfl) (of_decide_eq_true (by kernel_rfl)) (Nat.le_of_ble_eq_true ha) (Nat.le_of_ble_eq_true (by kernel_rfl)) (z0c h)
/-! ### percolate/trace.told -/
def ydm:Reg:=⟨[],[⟨.alloc 4 42 (.agg [(.int .i64 0),(.bool false),(.str ⟨#[]⟩),(.sl [])]),some 2,none,[],[]⟩],[2],[],false⟩
def zy4:List ROp:=[⟨.mv (.t 0),some 8,none,[9],[]⟩,⟨.callv (.c (.clo 33 [] [])) [(.t 8)],some 9,none,[],[]⟩,⟨.mv (.t 9),some 3,none,[],[]⟩]
def ydl:Reg:=⟨[],zy4,[9],[],false⟩
def zy3:List ROp:=[⟨.mv (.t 3),some 11,none,[],[]⟩,⟨.iaddr 1 (.t 11) (.c (.int .i64 0)),some 12,none,[],[]⟩,⟨.load 1 false (.t 12),some 13,none,[],[]⟩,⟨.bin .eql (.t 13) (.c (.str ⟨#[101,114,114,111,114]⟩)),some 14,none,[],[]⟩,⟨.mv (.t 14),some 15,none,[],[]⟩,⟨.mv (.t 3),some 16,(some (15,true)),[],[]⟩,⟨.len false (.t 16),some 17,(some (15,true)),[],[]⟩,⟨.bin .eql (.t 17) (.c (.int .i64 2)),some 18,(some (15,true)),[],[]⟩,⟨.pick (.t 15) (.t 18) (.c (.bool false)),some 19,none,[],[]⟩,⟨.mv (.t 19),some 10,none,[],[]⟩]
def ydk:Reg:=⟨[],zy3,[],[],false⟩
def zy2:List ROp:=[⟨.mv (.t 3),some 21,none,[24],[]⟩,⟨.iaddr 1 (.t 21) (.c (.int .i64 1)),some 22,none,[24],[]⟩,⟨.load 1 false (.t 22),some 23,none,[24],[]⟩,⟨.callv (.c (.clo 34 [] [])) [(.t 23)],some 24,none,[],[]⟩,⟨.mv (.t 24),some 20,none,[],[]⟩,⟨.ext 0 (.t 20),some 25,none,[],[]⟩,⟨.ext 1 (.t 20),some 26,none,[],[]⟩,⟨.mv (.t 25),some 4,none,[],[]⟩,⟨.mv (.t 26),some 5,none,[],[]⟩]
def ydj:Reg:=⟨[],zy2,[24],[],false⟩
def zy1:List ROp:=[⟨.mv (.t 4),some 27,none,[],[]⟩,⟨.faddr 0 (.t 2),some 28,none,[],[]⟩,⟨.store 1 (.t 28) (.t 27),none,none,[],[]⟩]
def ydi:Reg:=⟨[],zy1,[],[],false⟩
def zy0:List ROp:=[⟨.mv (.t 3),some 30,none,[],[]⟩,⟨.iaddr 1 (.t 30) (.c (.int .i64 0)),some 31,none,[],[]⟩,⟨.load 1 false (.t 31),some 32,none,[],[]⟩,⟨.bin .eql (.t 32) (.c (.str ⟨#[104,97,115]⟩)),some 33,none,[],[]⟩,⟨.mv (.t 33),some 34,none,[],[]⟩,⟨.mv (.t 3),some 35,(some (34,true)),[],[]⟩,⟨.len false (.t 35),some 36,(some (34,true)),[],[]⟩,⟨.bin .eql (.t 36) (.c (.int .i64 2)),some 37,(some (34,true)),[],[]⟩,⟨.pick (.t 34) (.t 37) (.c (.bool false)),some 38,none,[],[]⟩,⟨.mv (.t 38),some 29,none,[],[]⟩]
def ydh:Reg:=⟨[],zy0,[],[],false⟩
def ydg:Reg:=⟨[],[⟨.faddr 1 (.t 2),some 39,none,[],[]⟩,⟨.store 1 (.t 39) (.c (.bool true)),none,none,[],[]⟩],[],[],false⟩
def zxz:List ROp:=[⟨.mv (.t 3),some 41,none,[44],[]⟩,⟨.iaddr 1 (.t 41) (.c (.int .i64 1)),some 42,none,[44],[]⟩,⟨.load 1 false (.t 42),some 43,none,[44],[]⟩,⟨.callv (.c (.clo 65 [] [])) [(.t 43)],some 44,none,[],[]⟩,⟨.mv (.t 44),some 40,none,[],[]⟩,⟨.ext 0 (.t 40),some 45,none,[],[]⟩,⟨.ext 1 (.t 40),some 46,none,[],[]⟩,⟨.faddr 2 (.t 2),some 47,none,[],[]⟩,⟨.store 1 (.t 47) (.t 45),none,none,[],[]⟩]
def ydf:Reg:=⟨[],zxz,[44],[],false⟩
def zxy:List ROp:=[⟨.mv (.t 3),some 49,none,[],[]⟩,⟨.iaddr 1 (.t 49) (.c (.int .i64 0)),some 50,none,[],[]⟩,⟨.load 1 false (.t 50),some 51,none,[],[]⟩,⟨.bin .eql (.t 51) (.c (.str ⟨#[112,97,105,114,115]⟩)),some 52,none,[],[]⟩,⟨.mv (.t 52),some 53,none,[],[]⟩,⟨.mv (.t 3),some 54,(some (53,true)),[],[]⟩,⟨.len false (.t 54),some 55,(some (53,true)),[],[]⟩,⟨.bin .gtr (.t 55) (.c (.int .i64 1)),some 56,(some (53,true)),[],[]⟩,⟨.pick (.t 53) (.t 56) (.c (.bool false)),some 57,none,[],[]⟩,⟨.mv (.t 57),some 48,none,[],[]⟩]
def yde:Reg:=⟨[],zxy,[],[],false⟩
def zxx:List ROp:=[⟨.mv (.t 3),some 58,none,[],[]⟩,⟨.slc false 1 (.t 58) (some (.c (.int .i64 2))) none,some 59,none,[],[]⟩,⟨.len false (.t 59),some 60,none,[],[]⟩,⟨.mv (.c (.int .i64 0)),some 61,none,[],[]⟩]
def ydd:Reg:=⟨[],zxx,[],[],false⟩
def y1g:Reg:=⟨[],[⟨.bin .lss (.t 61) (.t 60),some 62,none,[],[]⟩],[],[],false⟩
def zhb:List ROp:=[⟨.iaddr 1 (.t 59) (.t 61),some 63,none,[],[]⟩,⟨.load 1 false (.t 63),some 64,none,[],[]⟩,⟨.mv (.t 64),some 7,none,[],[]⟩]
def y1f:Reg:=⟨[],zhb,[],[],false⟩
def zha:List ROp:=[⟨.append 2 50 32 (.t 66) (.t 69),some 70,none,[],[]⟩,⟨.faddr 3 (.t 2),some 71,none,[],[]⟩,⟨.store 1 (.t 71) (.t 70),none,none,[],[2]⟩]
def zo0:List ROp:=[⟨.faddr 3 (.t 2),some 65,none,[68,69],[]⟩,⟨.load 1 false (.t 65),some 66,none,[68,69],[]⟩,⟨.mv (.t 7),some 67,none,[68,69],[]⟩,⟨.callv (.c (.clo 69 [] [])) [(.t 67)],some 68,none,[69],[]⟩,⟨.bsl 2 50 [(.t 68)],some 69,none,[],[]⟩]
def y1e:Reg:=⟨zo0,zha,[68,69],[],true⟩
def y1d:Reg:=⟨[],[⟨.bin .add (.t 61) (.c (.int .i64 1)),some 72,none,[],[]⟩,⟨.mv (.t 72),some 61,none,[],[]⟩],[],[],false⟩
def r_told_l14:IR:=(.seq (.reg y1g)
 (.seq (.cond (.t 62) .skip
 (.exit 1))
 (.seq (.block 2 (.seq (.reg y1f)
 (.reg y1e)))
 (.reg y1d))))
def y1c:Reg:=⟨[],[⟨.load 4 true (.t 2),some 73,none,[],[]⟩,⟨.store 4 (.t 2) (.t 73),none,none,[],[]⟩],[],[],false⟩
def ir_told:IR:=(.seq (.reg ydm)
 (.seq (.reg ydl)
 (.seq (.block 0 (.seq (.reg ydk)
 (.cond (.t 10) (.seq (.reg ydj)
 (.reg ydi))
 (.seq (.reg ydh)
 (.cond (.t 29) (.seq (.reg ydg)
 (.reg ydf))
 (.seq (.reg yde)
 (.cond (.t 48) (.seq (.reg ydd)
 (.block 1 (.loop r_told_l14)))
 .skip)))))))
 (.seq (.reg y1c)
 .ret))))
def ycs:List RDesc:=[(.cell 2 4 true)]
theorem e_told_0:EqR ydm [⟨.alloc 4 42 (.agg [(.int .i64 0),(.bool false),(.str ⟨#[]⟩),(.sl [])]),some 2,none,[],[]⟩] [2]:=fun _ _ _=>rfl
theorem e_told_1:EqR ydl zy4 [9]:=fun _ _ _=>rfl
theorem e_told_2:EqR ydk zy3 []:=fun _ _ _=>rfl
theorem e_told_3:EqR ydj zy2 [24]:=fun _ _ _=>rfl
theorem e_told_4:EqR ydi zy1 []:=fun _ _ _=>rfl
theorem e_told_5:EqR ydh zy0 []:=fun _ _ _=>rfl
theorem e_told_6:EqR ydg [⟨.faddr 1 (.t 2),some 39,none,[],[]⟩,⟨.store 1 (.t 39) (.c (.bool true)),none,none,[],[]⟩] []:=fun _ _ _=>rfl
theorem e_told_7:EqR ydf zxz [44]:=fun _ _ _=>rfl
theorem e_told_8:EqR yde zxy []:=fun _ _ _=>rfl
theorem e_told_9:EqR ydd zxx []:=fun _ _ _=>rfl
theorem e_told_10:EqR y1g [⟨.bin .lss (.t 61) (.t 60),some 62,none,[],[]⟩] []:=fun _ _ _=>rfl
theorem e_told_11:EqR y1f zhb []:=fun _ _ _=>rfl
theorem e_told_12 (C:FuncId->List AV->AV->Prop) (σ:St) (K:St->Prop):z0k C y1e σ K = z08 C [] zha zo0 (σ.kills [68,69]) K:=rfl
theorem e_told_13:EqR y1d [⟨.bin .add (.t 61) (.c (.int .i64 1)),some 72,none,[],[]⟩,⟨.mv (.t 72),some 61,none,[],[]⟩] []:=fun _ _ _=>rfl
theorem e_told_15:EqR y1c [⟨.load 4 true (.t 2),some 73,none,[],[]⟩,⟨.store 4 (.t 2) (.t 73),none,none,[],[]⟩] []:=fun _ _ _=>rfl
theorem fn_told {args:List AV} {r:AV} (ha:args.length.ble Tryz.f36.ntmps = true) (h:run (AFn Tryz.prog) ir_told (endQ ycs r) (z0b args)):AFn Tryz.prog 36 args r :=
 AFn.of_code (pv:=false) (hint:=fun _=>[]) (c:=Tryz.f36.body.getD .skip) (by kernel_rfl) (by kernel_rfl) Tryz.func36 (by kernel_rfl) (by kernel_rfl) (by kernel_rfl) (of_decide_eq_true (by kernel_rfl)) (Nat.le_of_ble_eq_true ha) (Nat.le_of_ble_eq_true (by kernel_rfl)) (z0c h)
/-! ### percolate/percolateref09.Same -/
def y2n:Reg:=⟨[],[⟨.mv (.c (.bool false)),some 4,none,[],[]⟩],[],[],false⟩
def zhs:List ROp:=[⟨.mv (.t 0),some 6,none,[],[]⟩,⟨.len false (.t 6),some 7,none,[],[]⟩,⟨.mv (.t 1),some 8,none,[],[]⟩,⟨.len false (.t 8),some 9,none,[],[]⟩,⟨.bin .neq (.t 7) (.t 9),some 10,none,[],[]⟩]
def y2m:Reg:=⟨[],zhs,[],[],false⟩
def y2l:Reg:=⟨[],[⟨.mv (.c (.bool false)),some 4,none,[],[]⟩],[],[],false⟩
def y2k:Reg:=⟨[],[⟨.mv (.c (.int .i64 0)),some 5,none,[],[]⟩],[],[],false⟩
def zhr:List ROp:=[⟨.mv (.t 5),some 11,none,[],[]⟩,⟨.mv (.t 0),some 12,none,[],[]⟩,⟨.len false (.t 12),some 13,none,[],[]⟩,⟨.bin .lss (.t 11) (.t 13),some 14,none,[],[]⟩]
def y2j:Reg:=⟨[],zhr,[],[],false⟩
def zo1:List ROp:=[⟨.mv (.t 0),some 17,none,[],[]⟩,⟨.mv (.t 5),some 18,none,[],[]⟩,⟨.iaddr 2 (.t 17) (.t 18),some 19,none,[],[]⟩,⟨.load 2 true (.t 19),some 20,none,[],[]⟩,⟨.mv (.t 1),some 21,none,[],[]⟩,⟨.mv (.t 5),some 22,none,[],[]⟩,⟨.iaddr 2 (.t 21) (.t 22),some 23,none,[],[]⟩,⟨.load 2 true (.t 23),some 24,none,[],[]⟩]
def y2i:Reg:=⟨zo1,[⟨.feq true [(0,1),(1,1)] (.t 20) (.t 24),some 25,none,[],[]⟩],[],[],true⟩
def y2h:Reg:=⟨[],[⟨.mv (.c (.bool false)),some 4,none,[],[]⟩],[],[],false⟩
def zhq:List ROp:=[⟨.mv (.t 5),some 15,none,[],[]⟩,⟨.bin .add (.t 15) (.c (.int .i64 1)),some 16,none,[],[]⟩,⟨.mv (.t 16),some 5,none,[],[]⟩]
def y2g:Reg:=⟨[],zhq,[],[],false⟩
def zsf:IR:=(.seq (.seq (.reg y2j)
 (.cond (.t 14) .skip
 (.exit 0)))
 (.seq (.block 1 (.seq (.reg y2i)
 (.cond (.t 25) (.seq (.reg y2h)
 .ret)
 .skip)))
 (.reg y2g)))
def y2f:Reg:=⟨[],[⟨.mv (.c (.bool true)),some 4,none,[],[]⟩],[],[],false⟩
def yfm:IR:=(.seq (.reg y2n)
 (.seq (.seq (.reg y2m)
 (.cond (.t 10) (.seq (.reg y2l)
 .ret)
 .skip))
 (.seq (.seq (.reg y2k)
 (.block 0 (.loop zsf)))
 (.seq (.reg y2f)
 .ret))))
def y0d:List RDesc:=[(.tmp 4)]
theorem e_same9_0:EqR y2n [⟨.mv (.c (.bool false)),some 4,none,[],[]⟩] []:=fun _ _ _=>rfl
theorem e_same9_1:EqR y2m zhs []:=fun _ _ _=>rfl
theorem e_same9_2:EqR y2l [⟨.mv (.c (.bool false)),some 4,none,[],[]⟩] []:=fun _ _ _=>rfl
theorem e_same9_3:EqR y2k [⟨.mv (.c (.int .i64 0)),some 5,none,[],[]⟩] []:=fun _ _ _=>rfl
theorem e_same9_4:EqR y2j zhr []:=fun _ _ _=>rfl
theorem e_same9_5 (C:FuncId->List AV->AV->Prop) (σ:St) (K:St->Prop):z0k C y2i σ K = z08 C [] [⟨.feq true [(0,1),(1,1)] (.t 20) (.t 24),some 25,none,[],[]⟩] zo1 (σ.kills []) K:=rfl
theorem e_same9_6:EqR y2h [⟨.mv (.c (.bool false)),some 4,none,[],[]⟩] []:=fun _ _ _=>rfl
theorem e_same9_7:EqR y2g zhq []:=fun _ _ _=>rfl
theorem e_same9_9:EqR y2f [⟨.mv (.c (.bool true)),some 4,none,[],[]⟩] []:=fun _ _ _=>rfl
theorem fn_same9 {args:List AV} {r:AV} (ha:args.length.ble Tryz.f71.ntmps = true) (h:run (AFn Tryz.prog) yfm (endQ y0d r) (z0b args)):AFn Tryz.prog 71 args r :=
 AFn.of_code (pv:=false) (hint:=fun _=>[]) (c:=Tryz.f71.body.getD .skip) (by kernel_rfl) (by kernel_rfl) Tryz.func71 (by kernel_rfl) (by kernel_rfl) (by kernel_rfl) (of_decide_eq_true (by kernel_rfl)) (Nat.le_of_ble_eq_true ha) (Nat.le_of_ble_eq_true (by kernel_rfl)) (z0c h)
/-! ### percolate/percolateref10.Same -/
def zbt:List ROp:=[⟨.box 4 42 (.t 0),some 2,none,[3],[]⟩,⟨.box 4 42 (.t 1),some 3,none,[],[]⟩,⟨.mv (.c (.bool false)),some 4,none,[],[]⟩]
def zsj:Reg:=⟨[],zbt,[2,3],[],false⟩
def zbs:List ROp:=[⟨.faddr 0 (.t 2),some 5,none,[29],[]⟩,⟨.load 1 false (.t 5),some 6,none,[29],[]⟩,⟨.faddr 0 (.t 3),some 7,none,[29],[]⟩,⟨.load 1 false (.t 7),some 8,none,[29],[]⟩,⟨.bin .eql (.t 6) (.t 8),some 9,none,[29],[]⟩,⟨.mv (.t 9),some 10,none,[29],[]⟩,⟨.faddr 1 (.t 2),some 11,(some (10,true)),[29],[]⟩,⟨.load 1 false (.t 11),some 12,(some (10,true)),[29],[]⟩,⟨.faddr 1 (.t 3),some 13,(some (10,true)),[29],[]⟩,⟨.load 1 false (.t 13),some 14,(some (10,true)),[29],[]⟩,⟨.beq false (.t 12) (.t 14),some 15,(some (10,true)),[29],[]⟩,⟨.pick (.t 10) (.t 15) (.c (.bool false)),some 16,none,[29],[]⟩,⟨.mv (.t 16),some 17,none,[29],[]⟩,⟨.faddr 2 (.t 2),some 18,(some (17,true)),[29],[]⟩,⟨.load 1 false (.t 18),some 19,(some (17,true)),[29],[]⟩,⟨.faddr 2 (.t 3),some 20,(some (17,true)),[29],[]⟩,⟨.load 1 false (.t 20),some 21,(some (17,true)),[29],[]⟩,⟨.bin .eql (.t 19) (.t 21),some 22,(some (17,true)),[29],[]⟩,⟨.pick (.t 17) (.t 22) (.c (.bool false)),some 23,none,[29],[]⟩,⟨.mv (.t 23),some 24,none,[29],[]⟩,⟨.faddr 3 (.t 2),some 25,(some (24,true)),[29],[]⟩,⟨.load 1 false (.t 25),some 26,(some (24,true)),[29],[]⟩,⟨.faddr 3 (.t 3),some 27,(some (24,true)),[29],[]⟩,⟨.load 1 false (.t 27),some 28,(some (24,true)),[29],[]⟩,⟨.callv (.c (.clo 71 [] [])) [(.t 26),(.t 28)],some 29,(some (24,true)),[],[]⟩,⟨.pick (.t 24) (.t 29) (.c (.bool false)),some 30,none,[],[]⟩,⟨.mv (.t 30),some 4,none,[],[]⟩]
def zsi:Reg:=⟨[],zbs,[29],[],false⟩
def y6q:IR:=(.seq (.reg zsj)
 (.seq (.reg zsi)
 .ret))
def zq3:List RDesc:=[(.tmp 4)]
theorem e_same10_0:EqR zsj zbt [2,3]:=fun _ _ _=>rfl
theorem e_same10_1:EqR zsi zbs [29]:=fun _ _ _=>rfl
theorem fn_same10 {args:List AV} {r:AV} (ha:args.length.ble Tryz.f42.ntmps = true) (h:run (AFn Tryz.prog) y6q (endQ zq3 r) (z0b args)):AFn Tryz.prog 42 args r :=
 AFn.of_code (pv:=false) (hint:=fun _=>[]) (c:=Tryz.f42.body.getD .skip) (by kernel_rfl) (by kernel_rfl) Tryz.func42 (by kernel_rfl) (by kernel_rfl) (by kernel_rfl) (of_decide_eq_true (by kernel_rfl)) (Nat.le_of_ble_eq_true ha) (Nat.le_of_ble_eq_true (by kernel_rfl)) (z0c h)
/-! ### percolate/percolateref38.Same -/
def zbr:List ROp:=[⟨.box 15 44 (.t 0),some 2,none,[3],[]⟩,⟨.box 15 44 (.t 1),some 3,none,[],[]⟩,⟨.mv (.c (.bool false)),some 4,none,[],[]⟩]
def zsh:Reg:=⟨[],zbr,[2,3],[],false⟩
def zbq:List ROp:=[⟨.faddr 0 (.t 2),some 5,none,[22],[]⟩,⟨.load 1 false (.t 5),some 6,none,[22],[]⟩,⟨.faddr 0 (.t 3),some 7,none,[22],[]⟩,⟨.load 1 false (.t 7),some 8,none,[22],[]⟩,⟨.bin .eql (.t 6) (.t 8),some 9,none,[22],[]⟩,⟨.mv (.t 9),some 10,none,[22],[]⟩,⟨.faddr 1 (.t 2),some 11,(some (10,true)),[22],[]⟩,⟨.load 6 true (.t 11),some 12,(some (10,true)),[22],[]⟩,⟨.faddr 1 (.t 3),some 13,(some (10,true)),[22],[]⟩,⟨.load 6 true (.t 13),some 14,(some (10,true)),[22],[]⟩,⟨.feq false [(0,0),(1,1),(2,1),(3,2),(4,1),(5,0)] (.t 12) (.t 14),some 15,(some (10,true)),[22],[]⟩,⟨.pick (.t 10) (.t 15) (.c (.bool false)),some 16,none,[22],[]⟩,⟨.mv (.t 16),some 17,none,[22],[]⟩,⟨.faddr 7 (.t 2),some 18,(some (17,true)),[22],[]⟩,⟨.load 4 true (.t 18),some 19,(some (17,true)),[22],[]⟩,⟨.faddr 7 (.t 3),some 20,(some (17,true)),[22],[]⟩,⟨.load 4 true (.t 20),some 21,(some (17,true)),[22],[]⟩,⟨.callv (.c (.clo 42 [] [])) [(.t 19),(.t 21)],some 22,(some (17,true)),[],[]⟩,⟨.pick (.t 17) (.t 22) (.c (.bool false)),some 23,none,[],[]⟩,⟨.mv (.t 23),some 24,none,[],[]⟩,⟨.faddr 11 (.t 2),some 25,(some (24,true)),[],[]⟩,⟨.load 1 false (.t 25),some 26,(some (24,true)),[],[]⟩,⟨.faddr 11 (.t 3),some 27,(some (24,true)),[],[]⟩,⟨.load 1 false (.t 27),some 28,(some (24,true)),[],[]⟩,⟨.bin .eql (.t 26) (.t 28),some 29,(some (24,true)),[],[]⟩,⟨.pick (.t 24) (.t 29) (.c (.bool false)),some 30,none,[],[]⟩,⟨.mv (.t 30),some 31,none,[],[]⟩,⟨.faddr 12 (.t 2),some 32,(some (31,true)),[],[]⟩,⟨.load 1 false (.t 32),some 33,(some (31,true)),[],[]⟩,⟨.faddr 12 (.t 3),some 34,(some (31,true)),[],[]⟩,⟨.load 1 false (.t 34),some 35,(some (31,true)),[],[]⟩,⟨.bin .eql (.t 33) (.t 35),some 36,(some (31,true)),[],[]⟩,⟨.pick (.t 31) (.t 36) (.c (.bool false)),some 37,none,[],[]⟩,⟨.mv (.t 37),some 38,none,[],[]⟩,⟨.faddr 13 (.t 2),some 39,(some (38,true)),[],[]⟩,⟨.load 1 false (.t 39),some 40,(some (38,true)),[],[]⟩,⟨.faddr 13 (.t 3),some 41,(some (38,true)),[],[]⟩,⟨.load 1 false (.t 41),some 42,(some (38,true)),[],[]⟩,⟨.bin .eql (.t 40) (.t 42),some 43,(some (38,true)),[],[]⟩,⟨.pick (.t 38) (.t 43) (.c (.bool false)),some 44,none,[],[]⟩,⟨.mv (.t 44),some 45,none,[],[]⟩,⟨.faddr 14 (.t 2),some 46,(some (45,true)),[],[]⟩,⟨.load 1 false (.t 46),some 47,(some (45,true)),[],[]⟩,⟨.faddr 14 (.t 3),some 48,(some (45,true)),[],[]⟩,⟨.load 1 false (.t 48),some 49,(some (45,true)),[],[]⟩,⟨.beq false (.t 47) (.t 49),some 50,(some (45,true)),[],[]⟩,⟨.pick (.t 45) (.t 50) (.c (.bool false)),some 51,none,[],[]⟩,⟨.mv (.t 51),some 4,none,[],[]⟩]
def zsg:Reg:=⟨[],zbq,[22],[],false⟩
def y6p:IR:=(.seq (.reg zsh)
 (.seq (.reg zsg)
 .ret))
def zq2:List RDesc:=[(.tmp 4)]
theorem e_same38_0:EqR zsh zbr [2,3]:=fun _ _ _=>rfl
theorem e_same38_1:EqR zsg zbq [22]:=fun _ _ _=>rfl
theorem fn_same38 {args:List AV} {r:AV} (ha:args.length.ble Tryz.f14.ntmps = true) (h:run (AFn Tryz.prog) y6p (endQ zq2 r) (z0b args)):AFn Tryz.prog 14 args r :=
 AFn.of_code (pv:=false) (hint:=fun _=>[]) (c:=Tryz.f14.body.getD .skip) (by kernel_rfl) (by kernel_rfl) Tryz.func14 (by kernel_rfl) (by kernel_rfl) (by kernel_rfl) (of_decide_eq_true (by kernel_rfl)) (Nat.le_of_ble_eq_true ha) (Nat.le_of_ble_eq_true (by kernel_rfl)) (z0c h)
/-! ### percolate/model.Right -/
def zve:Reg:=⟨[],[⟨.mv (.c (.bool false)),some 2,none,[],[]⟩],[],[],false⟩
def zd9:List ROp:=[⟨.mv (.t 0),some 5,none,[],[]⟩,⟨.len false (.t 5),some 6,none,[],[]⟩,⟨.mv (.c (.int .i64 0)),some 7,none,[],[]⟩]
def zvd:Reg:=⟨[],zd9,[],[],false⟩
def zvc:Reg:=⟨[],[⟨.bin .lss (.t 7) (.t 6),some 8,none,[],[]⟩],[],[],false⟩
def zd8:List ROp:=[⟨.mv (.t 7),some 9,none,[4],[]⟩,⟨.iaddr 2 (.t 5) (.t 7),some 10,none,[4],[]⟩,⟨.load 2 true (.t 10),some 11,none,[4],[]⟩,⟨.alloc 2 50 (.agg [(.str ⟨#[]⟩),(.str ⟨#[]⟩)]),some 4,none,[],[]⟩,⟨.mv (.t 9),some 3,none,[],[]⟩,⟨.store 2 (.t 4) (.t 11),none,none,[],[]⟩]
def zvb:Reg:=⟨[],zd8,[4],[],false⟩
def zd7:List ROp:=[⟨.bin .geq (.t 31) (.t 33),some 34,(some (25,true)),[],[]⟩,⟨.pick (.t 25) (.t 34) (.c (.bool false)),some 35,(some (22,false)),[],[]⟩,⟨.pick (.t 22) (.c (.bool true)) (.t 35),some 36,none,[],[]⟩]
def zev:List ROp:=[⟨.faddr 0 (.t 4),some 12,none,[14,19],[]⟩,⟨.load 1 false (.t 12),some 13,none,[14,19],[]⟩,⟨.callv (.c (.clo 70 [] [])) [(.t 13)],some 14,none,[19],[]⟩,⟨.un .not (.t 14),some 15,none,[19],[]⟩,⟨.mv (.t 15),some 16,none,[19],[]⟩,⟨.faddr 1 (.t 4),some 17,(some (16,false)),[19],[]⟩,⟨.load 1 false (.t 17),some 18,(some (16,false)),[19],[]⟩,⟨.callv (.c (.clo 38 [] [])) [(.t 18)],some 19,(some (16,false)),[],[]⟩,⟨.un .not (.t 19),some 20,(some (16,false)),[],[]⟩,⟨.pick (.t 16) (.c (.bool true)) (.t 20),some 21,none,[],[]⟩,⟨.mv (.t 21),some 22,none,[],[]⟩,⟨.mv (.t 3),some 23,(some (22,false)),[],[]⟩,⟨.bin .gtr (.t 23) (.c (.int .i64 0)),some 24,(some (22,false)),[],[]⟩,⟨.mv (.t 24),some 25,(some (22,false)),[],[]⟩,⟨.mv (.t 0),some 26,(some (25,true)),[],[]⟩,⟨.mv (.t 3),some 27,(some (25,true)),[],[]⟩,⟨.bin .sub (.t 27) (.c (.int .i64 1)),some 28,(some (25,true)),[],[]⟩,⟨.iaddr 2 (.t 26) (.t 28),some 29,(some (25,true)),[],[]⟩,⟨.faddr 0 (.t 29),some 30,(some (25,true)),[],[]⟩,⟨.load 1 false (.t 30),some 31,(some (25,true)),[],[]⟩,⟨.faddr 0 (.t 4),some 32,(some (25,true)),[],[]⟩,⟨.load 1 false (.t 32),some 33,(some (25,true)),[],[]⟩]
def zva:Reg:=⟨zev,zd7,[14,19],[],true⟩
def zv9:Reg:=⟨[],[⟨.mv (.c (.bool false)),some 2,none,[],[]⟩],[],[],false⟩
def zv8:Reg:=⟨[],[⟨.bin .add (.t 7) (.c (.int .i64 1)),some 37,none,[],[]⟩,⟨.mv (.t 37),some 7,none,[],[]⟩],[],[],false⟩
def zmt:IR:=(.seq (.reg zvc)
 (.seq (.cond (.t 8) .skip
 (.exit 0))
 (.seq (.block 1 (.seq (.reg zvb)
 (.seq (.reg zva)
 (.cond (.t 36) (.seq (.reg zv9)
 .ret)
 .skip))))
 (.reg zv8))))
def zv7:Reg:=⟨[],[⟨.mv (.c (.bool true)),some 2,none,[],[]⟩],[],[],false⟩
def y73:IR:=(.seq (.reg zve)
 (.seq (.seq (.reg zvd)
 (.block 0 (.loop zmt)))
 (.seq (.reg zv7)
 .ret)))
def zqg:List RDesc:=[(.tmp 2)]
theorem e_mRight_0:EqR zve [⟨.mv (.c (.bool false)),some 2,none,[],[]⟩] []:=fun _ _ _=>rfl
theorem e_mRight_1:EqR zvd zd9 []:=fun _ _ _=>rfl
theorem e_mRight_2:EqR zvc [⟨.bin .lss (.t 7) (.t 6),some 8,none,[],[]⟩] []:=fun _ _ _=>rfl
theorem e_mRight_3:EqR zvb zd8 [4]:=fun _ _ _=>rfl
theorem e_mRight_4 (C:FuncId->List AV->AV->Prop) (σ:St) (K:St->Prop):z0k C zva σ K = z08 C [] zd7 zev (σ.kills [14,19]) K:=rfl
theorem e_mRight_5:EqR zv9 [⟨.mv (.c (.bool false)),some 2,none,[],[]⟩] []:=fun _ _ _=>rfl
theorem e_mRight_6:EqR zv8 [⟨.bin .add (.t 7) (.c (.int .i64 1)),some 37,none,[],[]⟩,⟨.mv (.t 37),some 7,none,[],[]⟩] []:=fun _ _ _=>rfl
theorem e_mRight_8:EqR zv7 [⟨.mv (.c (.bool true)),some 2,none,[],[]⟩] []:=fun _ _ _=>rfl
theorem fn_mRight {args:List AV} {r:AV} (ha:args.length.ble Tryz.f37.ntmps = true) (h:run (AFn Tryz.prog) y73 (endQ zqg r) (z0b args)):AFn Tryz.prog 37 args r :=
 AFn.of_code (pv:=false) (hint:=fun _=>[]) (c:=Tryz.f37.body.getD .skip) (by kernel_rfl) (by kernel_rfl) Tryz.func37 (by kernel_rfl) (by kernel_rfl) (by kernel_rfl) (of_decide_eq_true (by kernel_rfl)) (Nat.le_of_ble_eq_true ha) (Nat.le_of_ble_eq_true (by kernel_rfl)) (z0c h)
attribute [local go_sem ↓] ir_yes
attribute [local go_sem] res_yes e_yes_0 e_yes_1 e_yes_2 e_yes_3
attribute [local go_sem ↓] yg4
attribute [local go_sem] y0v e_aLine_0 zjp e_aLine_1 zjo e_aLine_2 zjn e_aLine_3 zjm e_aLine_4 zjl e_aLine_5 zjk e_aLine_6 e_aLine_7 zjj e_aLine_8 zji e_aLine_9 zjh e_aLine_10 e_aLine_11 zdt e_aLine_12 zf0 e_aLine_13 e_aLine_15 e_aLine_16
attribute [local go_sem ↓] y6n
attribute [local go_sem] zq0 e_tEvent_0 e_tEvent_1 e_tEvent_2 e_tEvent_3 zb3 e_tEvent_4 zb2 zek
attribute [local go_sem ↓] ir_told
attribute [local go_sem] ycs e_told_0 e_told_1 zy4 e_told_2 zy3 e_told_3 zy2 e_told_4 zy1 e_told_5 zy0 e_told_6 e_told_7 zxz e_told_8 zxy e_told_9 zxx e_told_10 e_told_11 zhb e_told_12 zha zo0 e_told_13 e_told_15
attribute [local go_sem ↓] yfm
attribute [local go_sem] y0d e_same9_0 e_same9_1 zhs e_same9_2 e_same9_3 e_same9_4 zhr e_same9_5 zo1 e_same9_6 e_same9_7 zhq e_same9_9
attribute [local go_sem ↓] y6q
attribute [local go_sem] zq3 e_same10_0 zbt e_same10_1 zbs
attribute [local go_sem ↓] y6p
attribute [local go_sem] zq2 e_same38_0 zbr e_same38_1 zbq
attribute [local go_sem ↓] y73
attribute [local go_sem] zqg e_mRight_0 e_mRight_1 zd9 e_mRight_2 e_mRight_3 zd8 e_mRight_4 zd7 zev e_mRight_5 e_mRight_6 e_mRight_8
theorem yes_ok:AFn Tryz.prog 40 [.bool true] (.str (⟨#[121,101,115]⟩:ByteArray)):=by
 refine fn_yes rfl ?_
 simp (maxSteps:=9^7) only [go_sem,↓reduceIte,reduceCtorEq,Nat.reduceEqDiff,Nat.reduceBEq,Nat.reduceAdd,Nat.reduceSub,Nat.reduceMul,Nat.reduceLT,Nat.reduceLeDiff,Nat.reduceBNe,Int.reduceBEq,Int.reduceBNe,Int.reduceLT,Int.reduceLE,Msg.a,Par.a,Nd.a,Opr.a,nul]
theorem aLine_put:AFn Tryz.prog 39 [opA.a,ansZ] (.str (⟨#[111,107]⟩:ByteArray)):=by
 refine fn_aLine rfl ?_
 simp (maxSteps:=9^7) only [go_sem,↓reduceIte,reduceCtorEq,Nat.reduceEqDiff,Nat.reduceBEq,Nat.reduceAdd,Nat.reduceSub,Nat.reduceMul,Nat.reduceLT,Nat.reduceLeDiff,Nat.reduceBNe,Int.reduceBEq,Int.reduceBNe,Int.reduceLT,Int.reduceLE,Msg.a,Par.a,Nd.a,Opr.a,nul,opA,ansZ]
theorem y66:opA.right = true:=by decide +kernel
theorem zza:z2i opA = (⟨#[112,117,116,32,97,32,49]⟩:ByteArray):=by
 unfold z2i za1
 rw [if_pos y66]
 decide +kernel
theorem d0:decS 0 = (⟨#[48]⟩:ByteArray):=dec1 0 (by omega)
theorem d1:decS 1 = (⟨#[49]⟩:ByteArray):=dec1 1 (by omega)
theorem d2:decS 2 = (⟨#[50]⟩:ByteArray):=dec1 2 (by omega)
theorem d3:decS 3 = (⟨#[51]⟩:ByteArray):=dec1 3 (by omega)
theorem ycj:AFn Tryz.prog 13 [evtA] (.str (⟨#[48,32,49,32,51,32,51,32,121,101,115,32,58,32,112,117,116,32,97,32,49,32,58,32,111,107]⟩:ByteArray)):=by
 refine fn_tEvent rfl ?_
 have c0:=z3h 0 ⟨by omega,by omega⟩
 have c1:=z3h 1 ⟨by omega,by omega⟩
 have c3:=z3h 3 ⟨by omega,by omega⟩
 rw [d0] at c0
 rw [d1] at c1
 rw [d3] at c3
 have cl:=oLineX opA (by decide)
 rw [zza] at cl
 have ca:=aLine_put
 have cj:=z1d [(⟨#[48]⟩:ByteArray),(⟨#[49]⟩:ByteArray),(⟨#[51]⟩:ByteArray),(⟨#[51]⟩:ByteArray),(⟨#[121,101,115]⟩:ByteArray),(⟨#[58]⟩:ByteArray),(⟨#[112,117,116,32,97,32,49]⟩:ByteArray),(⟨#[58]⟩:ByteArray),(⟨#[111,107]⟩:ByteArray)] 100 (by decide) (by decide) (by
  intro x hx
  simp only [List.mem_cons,List.not_mem_nil,or_false] at hx
  rcases hx with rfl | rfl | rfl | rfl | rfl | rfl | rfl | rfl | rfl <;> decide)
 rw [show z15 [(⟨#[48]⟩:ByteArray),(⟨#[49]⟩:ByteArray),(⟨#[51]⟩:ByteArray),(⟨#[51]⟩:ByteArray),(⟨#[121,101,115]⟩:ByteArray),(⟨#[58]⟩:ByteArray),(⟨#[112,117,116,32,97,32,49]⟩:ByteArray),(⟨#[58]⟩:ByteArray),(⟨#[111,107]⟩:ByteArray)] (⟨#[32]⟩:ByteArray) = (⟨#[48,32,49,32,51,32,51,32,121,101,115,32,58,32,112,117,116,32,97,32,49,32,58,32,111,107]⟩:ByteArray) by decide +kernel] at cj
 simp only [opA,Opr.a,ansZ] at cl ca
 (repeat (first | simp (maxSteps:=9^7) only [go_sem,↓reduceIte,reduceCtorEq,Nat.reduceEqDiff,Nat.reduceBEq,Nat.reduceAdd,Nat.reduceSub,Nat.reduceMul,Nat.reduceLT,Nat.reduceLeDiff,Nat.reduceBNe,Int.reduceBEq,Int.reduceBNe,Int.reduceLT,Int.reduceLE,Msg.a,Par.a,Nd.a,Opr.a,nul,evtA] | refine z01 (ca) ?_ | refine z00 (ca) ?_ | refine z01 (c0) ?_ | refine z00 (c0) ?_ | refine z01 (c1) ?_ | refine z00 (c1) ?_ | refine z01 (c3) ?_ | refine z00 (c3) ?_ | refine z01 (yes_ok) ?_ | refine z00 (yes_ok) ?_ | refine z01 (cl) ?_ | refine z00 (cl) ?_ | refine z01 (cj) ?_ | refine z00 (cj) ?_ | refine And.intro (by omega) ?_ | refine And.intro (fun d hd=>by (repeat (rcases hd with rfl | hd; · exact ⟨rfl,rfl⟩)); cases hd) ?_))
theorem told_a:AFn Tryz.prog 36 [.str (⟨#[111,107]⟩:ByteArray)] ansZ:=by
 refine fn_told rfl ?_
 have hw:(z3d (⟨#[111,107]⟩:ByteArray) ⟨#[32]⟩).map AV.str = [AV.str (⟨#[111,107]⟩:ByteArray)]:=by rw [z9t]; rfl
 have hl:(z3d (⟨#[111,107]⟩:ByteArray) ⟨#[32]⟩).length = 1:=by
  have:=congrArg List.length hw
  simpa using this
 have c0:=zxj (⟨#[111,107]⟩:ByteArray) (by decide) (by rw [hl]; decide)
 rw [hw] at c0
 have tn:Int.toNat 0 = 0:=rfl
 have l1:((1:Nat):Int) = 1:=rfl
 have b1:((⟨#[111,107]⟩:ByteArray).toList == (⟨#[101,114,114,111,114]⟩:ByteArray).toList) = false:=by decide +kernel
 have b2:((⟨#[111,107]⟩:ByteArray).toList == (⟨#[104,97,115]⟩:ByteArray).toList) = false:=by decide +kernel
 have b3:((⟨#[111,107]⟩:ByteArray).toList == (⟨#[112,97,105,114,115]⟩:ByteArray).toList) = false:=by decide +kernel
 (repeat (first | simp (maxSteps:=9^7) only [go_sem,↓reduceIte,reduceCtorEq,Nat.reduceEqDiff,Nat.reduceBEq,Nat.reduceAdd,Nat.reduceSub,Nat.reduceMul,Nat.reduceLT,Nat.reduceLeDiff,Nat.reduceBNe,Int.reduceBEq,Int.reduceBNe,Int.reduceLT,Int.reduceLE,Msg.a,Par.a,Nd.a,Opr.a,nul,ansZ,tn,l1,b1,b2,b3,List.take_succ_cons,List.take_zero,List.take_nil] | refine z01 (c0) ?_ | refine z00 (c0) ?_ | refine And.intro (by omega) ?_ | refine And.intro (fun d hd=>by (repeat (rcases hd with rfl | hd; · exact ⟨rfl,rfl⟩)); cases hd) ?_))
theorem same9_a:AFn Tryz.prog 71 [.sl [],.sl []] (.bool true):=by
 refine fn_same9 rfl ?_
 simp (maxSteps:=9^7) only [go_sem,↓reduceIte,reduceCtorEq,Nat.reduceEqDiff,Nat.reduceBEq,Nat.reduceAdd,Nat.reduceSub,Nat.reduceMul,Nat.reduceLT,Nat.reduceLeDiff,Nat.reduceBNe,Int.reduceBEq,Int.reduceBNe,Int.reduceLT,Int.reduceLE,Msg.a,Par.a,Nd.a,Opr.a,nul,bne_self_eq_false]
 refine z0d (fun k σ=>σ.T 0 = .sl []∧σ.T 5 = .int .i64 0) (k:=0) ⟨?_,?_⟩ ?_
 iterate 2 focus ((simp (maxSteps:=9^7) only [go_sem,↓reduceIte,reduceCtorEq,Nat.reduceEqDiff,Nat.reduceBEq,Nat.reduceAdd,Nat.reduceSub,Nat.reduceMul,Nat.reduceLT,Nat.reduceLeDiff,Nat.reduceBNe,Int.reduceBEq,Int.reduceBNe,Int.reduceLT,Int.reduceLE,Msg.a,Par.a,Nd.a,Opr.a,nul]) <;> rfl)
 rintro k σ ⟨t0,t5⟩
 simp only [zsf]
 have l0:((0:Nat):Int) = 0:=rfl
 simp (maxSteps:=9^7) only [go_sem,↓reduceIte,reduceCtorEq,Nat.reduceEqDiff,Nat.reduceBEq,Nat.reduceAdd,Nat.reduceSub,Nat.reduceMul,Nat.reduceLT,Nat.reduceLeDiff,Nat.reduceBNe,Int.reduceBEq,Int.reduceBNe,Int.reduceLT,Int.reduceLE,Msg.a,Par.a,Nd.a,Opr.a,nul,t0,t5,List.length_nil,l0]
theorem mRight_a:AFn Tryz.prog 37 [.sl []] (.bool true):=by
 refine fn_mRight rfl ?_
 simp (maxSteps:=9^7) only [go_sem,↓reduceIte,reduceCtorEq,Nat.reduceEqDiff,Nat.reduceBEq,Nat.reduceAdd,Nat.reduceSub,Nat.reduceMul,Nat.reduceLT,Nat.reduceLeDiff,Nat.reduceBNe,Int.reduceBEq,Int.reduceBNe,Int.reduceLT,Int.reduceLE,Msg.a,Par.a,Nd.a,Opr.a,nul]
 refine z0d (fun k σ=>σ.T 6 = .int .i64 0∧σ.T 7 = .int .i64 0) (k:=0) ⟨?_,?_⟩ ?_
 ·simp (maxSteps:=9^7) only [go_sem,↓reduceIte,reduceCtorEq,Nat.reduceEqDiff,Nat.reduceBEq,Nat.reduceAdd,Nat.reduceSub,Nat.reduceMul,Nat.reduceLT,Nat.reduceLeDiff,Nat.reduceBNe,Int.reduceBEq,Int.reduceBNe,Int.reduceLT,Int.reduceLE,Msg.a,Par.a,Nd.a,Opr.a,nul]
  rfl
 ·simp (maxSteps:=9^7) only [go_sem,↓reduceIte,reduceCtorEq,Nat.reduceEqDiff,Nat.reduceBEq,Nat.reduceAdd,Nat.reduceSub,Nat.reduceMul,Nat.reduceLT,Nat.reduceLeDiff,Nat.reduceBNe,Int.reduceBEq,Int.reduceBNe,Int.reduceLT,Int.reduceLE,Msg.a,Par.a,Nd.a,Opr.a,nul]
 rintro k σ ⟨t6,t7⟩
 simp only [zmt]
 simp (maxSteps:=9^7) only [go_sem,↓reduceIte,reduceCtorEq,Nat.reduceEqDiff,Nat.reduceBEq,Nat.reduceAdd,Nat.reduceSub,Nat.reduceMul,Nat.reduceLT,Nat.reduceLeDiff,Nat.reduceBNe,Int.reduceBEq,Int.reduceBNe,Int.reduceLT,Int.reduceLE,Msg.a,Par.a,Nd.a,Opr.a,nul,t6,t7]
theorem same10_a:AFn Tryz.prog 42 [ansZ,ansZ] (.bool true):=by
 refine fn_same10 rfl ?_
 have c:=same9_a
 (repeat (first | simp (maxSteps:=9^7) only [go_sem,↓reduceIte,reduceCtorEq,Nat.reduceEqDiff,Nat.reduceBEq,Nat.reduceAdd,Nat.reduceSub,Nat.reduceMul,Nat.reduceLT,Nat.reduceLeDiff,Nat.reduceBNe,Int.reduceBEq,Int.reduceBNe,Int.reduceLT,Int.reduceLE,Msg.a,Par.a,Nd.a,Opr.a,nul,ansZ,beq_self_eq_true] | refine z01 (c) ?_ | refine z00 (c) ?_ | refine And.intro (by omega) ?_ | refine And.intro (fun d hd=>by (repeat (rcases hd with rfl | hd; · exact ⟨rfl,rfl⟩)); cases hd) ?_))
theorem same38_a:AFn Tryz.prog 14 [evtA,evtA] (.bool true):=by
 refine fn_same38 rfl ?_
 have c:=same10_a
 have he:valF (Opr.a opA).av (Opr.a opA).av [(0,0),(1,1),(2,1),(3,2),(4,1),(5,0)] = true:=by
  simp [Opr.a,AV.av,valF,z5l]
 simp only [opA,Opr.a,AV.av] at he
 simp only [ansZ] at c
 (repeat (first | simp (maxSteps:=9^7) only [go_sem,↓reduceIte,reduceCtorEq,Nat.reduceEqDiff,Nat.reduceBEq,Nat.reduceAdd,Nat.reduceSub,Nat.reduceMul,Nat.reduceLT,Nat.reduceLeDiff,Nat.reduceBNe,Int.reduceBEq,Int.reduceBNe,Int.reduceLT,Int.reduceLE,Msg.a,Par.a,Nd.a,Opr.a,nul,evtA,beq_self_eq_true,he] | refine z01 (c) ?_ | refine z00 (c) ?_ | refine And.intro (by omega) ?_ | refine And.intro (fun d hd=>by (repeat (rcases hd with rfl | hd; · exact ⟨rfl,rfl⟩)); cases hd) ?_))
end
end Go.Proofs.YthpbokjnfloeoaaGreatDoor
