/-
  Part 10 of a proof: StE, StF, StG, HsB.
-/
import Derived.Test.YtolocaankfcjiaaRR9
set_option linter.unusedVariables false
set_option linter.unusedSimpArgs false
set_option maxRecDepth 100000
namespace Go.Proofs.Ytolocaankfcjiaa
section
/-
 Insertion sort of a slice that was handed on: the library's code,walked.
-/
open Go.RowKit
attribute [local go_sem ↓] z0s z0g
/-! ### slices.insertionSortCmpFunc[percolate/api.Event] -/
def zvu:List XOp:=[(.op [] ⟨.mv (.t 1),some 10,none,[],[]⟩),(.op [] ⟨.bin .add (.t 10) (.c (.int .i64 1)),some 11,none,[],[]⟩),(.op [] ⟨.mv (.t 11),some 8,none,[],[]⟩)]
def zvt:List XOp:=[(.op [] ⟨.mv (.t 8),some 12,none,[],[]⟩),(.op [] ⟨.mv (.t 2),some 13,none,[],[]⟩),(.op [] ⟨.bin .lss (.t 12) (.t 13),some 14,none,[],[]⟩)]
def zvs:List XOp:=[(.op [] ⟨.mv (.t 8),some 17,none,[],[]⟩),(.op [] ⟨.mv (.t 17),some 9,none,[],[]⟩)]
def zgt:List ROp:=[⟨.callv (.t 22) [(.t 26),(.t 31)],some 32,(some (21,true)),[],[]⟩,⟨.bin .lss (.t 32) (.c (.int .i64 0)),some 33,(some (21,true)),[],[]⟩,⟨.pick (.t 21) (.t 33) (.c (.bool false)),some 34,none,[],[]⟩]
def zhs:List ROp:=[⟨.mv (.t 9),some 18,none,[32],[]⟩,⟨.mv (.t 1),some 19,none,[32],[]⟩,⟨.bin .gtr (.t 18) (.t 19),some 20,none,[32],[]⟩,⟨.mv (.t 20),some 21,none,[32],[]⟩,⟨.mv (.t 3),some 22,(some (21,true)),[32],[]⟩,⟨.mv (.t 0),some 23,(some (21,true)),[32],[]⟩,⟨.mv (.t 9),some 24,(some (21,true)),[32],[]⟩,⟨.iaddr 15 (.t 23) (.t 24),some 25,(some (21,true)),[32],[]⟩,⟨.load 15 true (.t 25),some 26,(some (21,true)),[32],[]⟩,⟨.mv (.t 0),some 27,(some (21,true)),[32],[]⟩,⟨.mv (.t 9),some 28,(some (21,true)),[32],[]⟩,⟨.bin .sub (.t 28) (.c (.int .i64 1)),some 29,(some (21,true)),[32],[]⟩,⟨.iaddr 15 (.t 27) (.t 29),some 30,(some (21,true)),[32],[]⟩,⟨.load 15 true (.t 30),some 31,(some (21,true)),[32],[]⟩]
def zvr:Reg:=⟨zhs,zgt,[32],[],true⟩
def zvq:Reg:=⟨[⟨.mv (.t 0),some 37,none,[],[]⟩,⟨.mv (.t 9),some 38,none,[],[]⟩,⟨.mv (.t 0),some 39,none,[],[]⟩,⟨.mv (.t 9),some 40,none,[],[]⟩,⟨.bin .sub (.t 40) (.c (.int .i64 1)),some 41,none,[],[]⟩,⟨.mv (.t 0),some 42,none,[],[]⟩,⟨.mv (.t 9),some 43,none,[],[]⟩,⟨.bin .sub (.t 43) (.c (.int .i64 1)),some 44,none,[],[]⟩,⟨.iaddr 15 (.t 42) (.t 44),some 45,none,[],[]⟩,⟨.load 15 true (.t 45),some 46,none,[],[]⟩,⟨.mv (.t 0),some 47,none,[],[]⟩,⟨.mv (.t 9),some 48,none,[],[]⟩,⟨.iaddr 15 (.t 47) (.t 48),some 49,none,[],[]⟩,⟨.load 15 true (.t 49),some 50,none,[],[]⟩,⟨.iaddr 15 (.t 37) (.t 38),some 51,none,[],[]⟩,⟨.store 15 (.t 51) (.t 46),none,none,[],[0]⟩],[⟨.iaddr 15 (.t 39) (.t 41),some 52,none,[],[]⟩,⟨.store 15 (.t 52) (.t 50),none,none,[],[0]⟩],[],[],true⟩
def zvp:List XOp:=[(.op [] ⟨.mv (.t 9),some 35,none,[],[]⟩),(.op [] ⟨.bin .sub (.t 35) (.c (.int .i64 1)),some 36,none,[],[]⟩),(.op [] ⟨.mv (.t 36),some 9,none,[],[]⟩)]
def zbz (P:Program):IR:=(.seq (.seq (.reg zvr)
 (.cond (.t 34) .skip
 (.exit 2)))
 (.seq (.block 3 (.regw zvq 0))
 (.regx P zvp)))
def zvo:List XOp:=[(.op [] ⟨.mv (.t 8),some 15,none,[],[]⟩),(.op [] ⟨.bin .add (.t 15) (.c (.int .i64 1)),some 16,none,[],[]⟩),(.op [] ⟨.mv (.t 16),some 8,none,[],[]⟩)]
def zl3 (P:Program):IR:=(.seq (.seq (.regx P zvt)
 (.cond (.t 14) .skip
 (.exit 0)))
 (.seq (.block 1 (.seq (.regx P zvs)
 (.block 2 (.loop (zbz P)))))
 (.regx P zvo)))
def ir_insS (P:Program):IR:=(.seq (.regx P zvu)
 (.block 0 (.loop (zl3 P))))
def zsl:List RDesc:=[]
theorem e_insS_3 (C:FuncId->List AV->AV->Prop) (σ:St) (K:St->Prop):z0l C zvr σ K = z0a C [] zgt zhs (σ.kills [32]) K:=rfl
theorem e_insS_4 (C:FuncId->List AV->AV->Prop) (σ:St) (K:St->Prop) (q:Nat):z0l C (Reg.ren 0 q zvq) σ K = z0a C [] [⟨.iaddr 15 (.t 39) (.t 41),some 52,none,[],[]⟩,⟨.store 15 (.t 52) (.t 50),none,none,[],[q]⟩] [⟨.mv (.t 0),some 37,none,[],[]⟩,⟨.mv (.t 9),some 38,none,[],[]⟩,⟨.mv (.t 0),some 39,none,[],[]⟩,⟨.mv (.t 9),some 40,none,[],[]⟩,⟨.bin .sub (.t 40) (.c (.int .i64 1)),some 41,none,[],[]⟩,⟨.mv (.t 0),some 42,none,[],[]⟩,⟨.mv (.t 9),some 43,none,[],[]⟩,⟨.bin .sub (.t 43) (.c (.int .i64 1)),some 44,none,[],[]⟩,⟨.iaddr 15 (.t 42) (.t 44),some 45,none,[],[]⟩,⟨.load 15 true (.t 45),some 46,none,[],[]⟩,⟨.mv (.t 0),some 47,none,[],[]⟩,⟨.mv (.t 9),some 48,none,[],[]⟩,⟨.iaddr 15 (.t 47) (.t 48),some 49,none,[],[]⟩,⟨.load 15 true (.t 49),some 50,none,[],[]⟩,⟨.iaddr 15 (.t 37) (.t 38),some 51,none,[],[]⟩,⟨.store 15 (.t 51) (.t 46),none,none,[],[q]⟩] (σ.kills []) K:=rfl
theorem fnm_insS {args:List AV} {r:AV} {H H':Nat->Option Arr} (ha:args.length.ble Try.f53.ntmps = true) (h:run (AFn Try.prog) (ir_insS Try.prog) (endM zsl r H') (z77 args H)):MFn Try.prog 53 args H r H' :=
 MFn.of_code (pv:=false) (hint:=fun _=>[1]) (c:=Try.f53.body.getD .skip) (by kernel_rfl) (by kernel_rfl) Try.func53 (by kernel_rfl) (by kernel_rfl) (by kernel_rfl) (of_decide_eq_true (by kernel_rfl)) (Nat.le_of_ble_eq_true ha) (Nat.le_of_ble_eq_true (by kernel_rfl)) (z09 h)
attribute [local go_sem ↓] ir_insS
attribute [local go_sem] zsl e_insS_3 zgt zhs e_insS_4 zvu zvt zvs zvp zvo
/-- a comparison -/
def z82 {α:Type} (K:Kind15 α) (key:α->Int) (f:FuncId) (c:α->α->Int):Prop:=∀ x y,AFn Try.prog f [.agg (K.c x),.agg (K.c y)] (.int .i64 (c x y))∧(c x y < 0 ↔ key x < key y)
theorem atU {α:Type} (K:Kind15 α) {l:List α} {j:Nat} {x:α} (h:l[j]? = some x):(List.map (fun x=>AV.agg (K.c x)) l).getD j .und = .agg (K.c x):=atS (f:=K.f) h
theorem midAt {α:Type} (A:List α) (x:α) (B:List α):(A ++ [x] ++ B)[A.length]? = some x:=by simp
theorem zxd {α:Type}:∀ (l:List α),l ≠ []->∃ s z,l = s ++ [z]
 | [],h=>absurd rfl h
 | x :: l,_=>⟨(x :: l).dropLast,(x :: l).getLast (by simp),(List.dropLast_concat_getLast (by simp)).symm⟩
section
variable {α:Type} (K:Kind15 α) (key:α->Int)
def insI (H:Nat->Option Arr) (r f:Nat) (P S R:List α) (x:α) (b i:Int) (N k:Nat) (σ:St):Prop :=
 ∃ S1 S2:List α,S1 ++ S2 = S∧(∀ y,y ∈ S2->key x < key y)∧k = S1.length∧σ.T 0 = .rs (r + 1000) 0 N∧σ.T 1 = .int .i64 P.length∧σ.T 2 = .int .i64 b∧σ.T 3 = .clo f [] []∧σ.T 8 = .int .i64 i∧σ.T 9 = .int .i64 ((P.length + S1.length:Nat):Int) ∧
  only K H σ.H r (P ++ S1 ++ [x] ++ S2 ++ R)
def insE (H:Nat->Option Arr) (r f:Nat) (P S R:List α) (x:α) (b i:Int) (N:Nat) (σ:St):Prop :=
 σ.T 0 = .rs (r + 1000) 0 N∧σ.T 1 = .int .i64 P.length∧σ.T 2 = .int .i64 b∧σ.T 3 = .clo f [] []∧σ.T 8 = .int .i64 i∧only K H σ.H r (P ++ srt key (S ++ [x]) ++ R)
set_option maxHeartbeats 8000000 in
theorem ins_loop {f:FuncId} {c:α->α->Int} (hc:z82 K key f c) (H:Nat->Option Arr) (r:Nat) (P S R:List α) (x:α) (b i:Int) (N:Nat) (hS:Rise key S) (hN:P.length + S.length + 1 + R.length = N) (hb:N≤1000000) (Q:XK->St->Prop)
  (hEnd:∀ σ,insE K key H r f P S R x b i N σ->Q (.exit 2) σ) (k:Nat) (σ:St) (hI:insI K key H r f P S R x b i N k σ) :
  run (AFn Try.prog) (zbz Try.prog) (z2d (fun σ'=>∃ m,m < k∧insI K key H r f P S R x b i N m σ') Q) σ:=by
 obtain ⟨S1,S2,hS12,h2,rfl,t0,t1,t2,t3,t8,t9,hH⟩:=hI
 simp only [zbz]
 have fin:∀ σ':St,S1 ++ [x] ++ S2 = srt key (S ++ [x])->σ'.T 0 = .rs (r + 1000) 0 N->σ'.T 1 = .int .i64 P.length->σ'.T 2 = .int .i64 b->σ'.T 3 = .clo f [] []->σ'.T 8 = .int .i64 i->(∀ q,q ≠ r->σ'.H (q + 1000) = σ.H (q + 1000))->σ'.H (r + 1000) = σ.H (r + 1000)->insE K key H r f P S R x b i N σ':=fun σ' e a0 a1 a2 a3 a8 b1 b2 =>
  ⟨a0,a1,a2,a3,a8,fun q hq=>by rw [b1 q hq]; exact hH.1 q hq,by rw [b2,hH.2,← e]; simp⟩
 by_cases hnil:S1 = []
 case pos =>
  subst hnil
  have hgt:¬ ((P.length:Int) < (P.length:Int)):=by omega
  have e:[] ++ [x] ++ S2 = srt key (S ++ [x]):=by
   rw [← hS12]
   exact z48 key (A1:=[]) (by rw [hS12]; exact hS) (by simp) h2
  simp (maxSteps:=9^7) only [go_sem,↓reduceIte,reduceCtorEq,Nat.reduceEqDiff,Nat.reduceBEq,Nat.reduceAdd,Nat.reduceSub,Nat.reduceMul,Nat.reduceLT,Nat.reduceLeDiff,Nat.reduceBNe,Int.reduceBEq,Int.reduceBNe,Int.reduceLT,Int.reduceLE,evW,retM,t0,t1,t2,t3,t8,t9,hgt]
  (repeat refine And.intro (by omega) ?_)
  refine hEnd _ (fin _ e ?_ ?_ ?_ ?_ ?_ ?_ ?_)
  iterate 5 focus ((simp (maxSteps:=9^7) only [go_sem,↓reduceIte,reduceCtorEq,Nat.reduceEqDiff,Nat.reduceBEq,Nat.reduceAdd,Nat.reduceSub,Nat.reduceMul,Nat.reduceLT,Nat.reduceLeDiff,Nat.reduceBNe,Int.reduceBEq,Int.reduceBNe,Int.reduceLT,Int.reduceLE,evW,retM,t0,t1,t2,t3,t8]) <;> rfl)
  ·intro q hq
   simp (maxSteps:=9^7) only [go_sem,↓reduceIte,reduceCtorEq,Nat.reduceEqDiff,Nat.reduceBEq,Nat.reduceAdd,Nat.reduceSub,Nat.reduceMul,Nat.reduceLT,Nat.reduceLeDiff,Nat.reduceBNe,Int.reduceBEq,Int.reduceBNe,Int.reduceLT,Int.reduceLE,evW,retM]
  ·simp (maxSteps:=9^7) only [go_sem,↓reduceIte,reduceCtorEq,Nat.reduceEqDiff,Nat.reduceBEq,Nat.reduceAdd,Nat.reduceSub,Nat.reduceMul,Nat.reduceLT,Nat.reduceLeDiff,Nat.reduceBNe,Int.reduceBEq,Int.reduceBNe,Int.reduceLT,Int.reduceLE,evW,retM]
 obtain ⟨S0,z,rfl⟩:=zxd S1 hnil
 have hl1:(S0 ++ [z]).length = S0.length + 1:=by simp
 have hsl:=congrArg List.length hS12
 rw [List.length_append,hl1] at hsl
 have hgt:((P.length:Int) < ((P.length + (S0 ++ [z]).length:Nat):Int)):=by omega
 have hX:=hH.2
 generalize hY:P ++ (S0 ++ [z]) ++ [x] ++ S2 ++ R = Y at hX
 have hYl:Y.length = N:=by rw [← hY]; simp only [List.length_append,List.length_cons,List.length_nil]; omega
 have ga:Y[P.length + (S0 ++ [z]).length]? = some x:=by
  rw [← hY,List.append_assoc _ S2 R]
  have:=midAt (P ++ (S0 ++ [z])) x (S2 ++ R)
  rw [List.length_append] at this
  exact this
 have gb:Y[P.length + S0.length]? = some z:=by
  have:=midAt (P ++ S0) z ([x] ++ S2 ++ R)
  rw [List.length_append] at this
  rw [← hY]
  simp
 have hX2':=hX
 unfold ObjE Kind15.f at hX2'
 have wd:IntKind.i64.wrap (((P.length + (S0 ++ [z]).length:Nat):Int) - 1) = ((P.length + S0.length:Nat):Int):=by rw [z0t (by omega)]; omega
 have ha:=atU K ga
 have hb':=atU K gb
 have z0:∀ x:Nat,(0:Int)≤(x:Int):=fun x=>Int.natCast_nonneg x
 generalize hja:P.length + (S0 ++ [z]).length = ja at *
 generalize hjb:P.length + S0.length = jb at *
 have la:(ja:Int) < (N:Int):=by omega
 have lb:(jb:Int) < (N:Int):=by omega
 have la':ja < Y.length:=by omega
 have lb':jb < Y.length:=by omega
 have hk1:=K.take
 have hk2:=K.drop
 have hk3:=K.len
 have hk4:=K.one
 obtain ⟨c1,c2⟩:=hc x z
 have hr32:(r + 1000 == 32) = false:=by simp
 have hr32':¬ r + 1000 = 32:=by omega
 simp (maxSteps:=9^7) only [go_sem,↓reduceIte,reduceCtorEq,Nat.reduceEqDiff,Nat.reduceBEq,Nat.reduceAdd,Nat.reduceSub,Nat.reduceMul,Nat.reduceLT,Nat.reduceLeDiff,Nat.reduceBNe,Int.reduceBEq,Int.reduceBNe,Int.reduceLT,Int.reduceLE,evW,retM,t0,t1,t2,t3,t8,t9,hgt,hr32,hX2',wd,la,lb,ha,hb',la',lb',hk1,hk2,hk3,hk4,z0,Int.toNat_natCast,List.length_map]
 refine z01 c1 ?_
 by_cases hlt:c x z < 0
 case neg =>
  have e:S0 ++ [z] ++ [x] ++ S2 = srt key (S ++ [x]):=by
   rw [← hS12]
   refine z48 key (by rw [hS12]; exact hS) (fun a hm=>?_) h2
   have hzx:key z≤key x:=by
    have:=fun h=>hlt (c2.2 h)
    omega
   rcases List.mem_append.1 hm with h | h
   ·have:=Rise.cross (X:=S0) (Y:=[z]) (Rise.left (X:=S0 ++ [z]) (Y:=S2) (by rw [hS12]; exact hS)) a h z (by simp)
    omega
   ·rw [List.mem_singleton.1 h]; exact hzx
  simp (maxSteps:=9^7) only [go_sem,↓reduceIte,reduceCtorEq,Nat.reduceEqDiff,Nat.reduceBEq,Nat.reduceAdd,Nat.reduceSub,Nat.reduceMul,Nat.reduceLT,Nat.reduceLeDiff,Nat.reduceBNe,Int.reduceBEq,Int.reduceBNe,Int.reduceLT,Int.reduceLE,evW,retM,hlt]
  refine hEnd _ (fin _ e ?_ ?_ ?_ ?_ ?_ ?_ ?_)
  iterate 5 focus ((simp (maxSteps:=9^7) only [go_sem,↓reduceIte,reduceCtorEq,Nat.reduceEqDiff,Nat.reduceBEq,Nat.reduceAdd,Nat.reduceSub,Nat.reduceMul,Nat.reduceLT,Nat.reduceLeDiff,Nat.reduceBNe,Int.reduceBEq,Int.reduceBNe,Int.reduceLT,Int.reduceLE,evW,retM,t0,t1,t2,t3,t8]) <;> rfl)
  ·intro q hq
   have hq2:¬ q + 1000 = 32:=by omega
   simp (maxSteps:=9^7) only [go_sem,↓reduceIte,reduceCtorEq,Nat.reduceEqDiff,Nat.reduceBEq,Nat.reduceAdd,Nat.reduceSub,Nat.reduceMul,Nat.reduceLT,Nat.reduceLeDiff,Nat.reduceBNe,Int.reduceBEq,Int.reduceBNe,Int.reduceLT,Int.reduceLE,evW,retM,hq2]
  ·have hq2:¬ r + 1000 = 32:=by omega
   simp (maxSteps:=9^7) only [go_sem,↓reduceIte,reduceCtorEq,Nat.reduceEqDiff,Nat.reduceBEq,Nat.reduceAdd,Nat.reduceSub,Nat.reduceMul,Nat.reduceLT,Nat.reduceLeDiff,Nat.reduceBNe,Int.reduceBEq,Int.reduceBNe,Int.reduceLT,Int.reduceLE,evW,retM,hq2]
 obtain ⟨_,_,s1,hc',s2,_,_,lc'⟩:=Swp.of K ga gb (by omega)
 have hY2:(Y.set ja z).set jb x = P ++ S0 ++ [x] ++ (z :: S2) ++ R:=by
  rw [← hY,← hja,← hjb]
  have q1:P ++ (S0 ++ [z]) ++ [x] ++ S2 ++ R = (P ++ (S0 ++ [z])) ++ x :: (S2 ++ R):=by simp
  have q2:P.length + (S0 ++ [z]).length = (P ++ (S0 ++ [z])).length:=by simp
  rw [q1,q2,List.set_append_right _ _ (Nat.le_refl _),Nat.sub_self,List.set_cons_zero]
  have q3:P ++ (S0 ++ [z]) ++ z :: (S2 ++ R) = (P ++ S0) ++ z :: (z :: (S2 ++ R)):=by simp
  have q4:P.length + S0.length = (P ++ S0).length:=by simp
  rw [q3,q4,List.set_append_right _ _ (Nat.le_refl _),Nat.sub_self,List.set_cons_zero]
  simp
 simp (maxSteps:=9^7) only [go_sem,↓reduceIte,reduceCtorEq,Nat.reduceEqDiff,Nat.reduceBEq,Nat.reduceAdd,Nat.reduceSub,Nat.reduceMul,Nat.reduceLT,Nat.reduceLeDiff,Nat.reduceBNe,Int.reduceBEq,Int.reduceBNe,Int.reduceLT,Int.reduceLE,evW,retM,hlt,t0,t1,t2,t3,t8,t9,hr32,hr32',hX2',wd,la,lb,ha,hb',s1,hc',s2,la',lb',lc',hk1,hk2,hk3,hk4,z0,Int.toNat_natCast,List.length_map]
 refine ⟨S0.length,by rw [hl1]; omega,S0,z :: S2,by rw [← hS12]; simp,fun y hy=>?_,rfl,?_,?_,?_,?_,?_,?_,?_⟩
 ·rcases List.mem_cons.1 hy with h | h
  ·rw [h]; exact c2.1 hlt
  ·exact h2 y h
 iterate 6 focus ((simp (maxSteps:=9^7) only [go_sem,↓reduceIte,reduceCtorEq,Nat.reduceEqDiff,Nat.reduceBEq,Nat.reduceAdd,Nat.reduceSub,Nat.reduceMul,Nat.reduceLT,Nat.reduceLeDiff,Nat.reduceBNe,Int.reduceBEq,Int.reduceBNe,Int.reduceLT,Int.reduceLE,evW,retM,t0,t1,t2,t3,t8,hjb]) <;> rfl)
 ·refine ⟨fun q hq=>?_,?_⟩
  ·have hq':q + 1000 ≠ r + 1000:=by omega
   have hq2:¬ q + 1000 = 32:=by omega
   have:=hH.1 q hq
   simp (maxSteps:=9^7) only [go_sem,↓reduceIte,reduceCtorEq,Nat.reduceEqDiff,Nat.reduceBEq,Nat.reduceAdd,Nat.reduceSub,Nat.reduceMul,Nat.reduceLT,Nat.reduceLeDiff,Nat.reduceBNe,Int.reduceBEq,Int.reduceBNe,Int.reduceLT,Int.reduceLE,evW,retM,hq',hq2,this]
  ·rw [← hY2]
   unfold ObjE Kind15.f
   simp (maxSteps:=9^7) only [go_sem,↓reduceIte,reduceCtorEq,Nat.reduceEqDiff,Nat.reduceBEq,Nat.reduceAdd,Nat.reduceSub,Nat.reduceMul,Nat.reduceLT,Nat.reduceLeDiff,Nat.reduceBNe,Int.reduceBEq,Int.reduceBNe,Int.reduceLT,Int.reduceLE,evW,retM]
theorem zs3 (x:α):Rise key [x]:=by simp [Rise]
theorem srt_add (X:List α) (x:α):srt key (srt key X ++ [x]) = srt key (X ++ [x]):=by
 have:=zh9 key X [x]
 rw [z6c key (X:=[x]) (zs3 key x)] at this
 exact this
def insO (H:Nat->Option Arr) (r f:Nat) (P B R:List α) (N k:Nat) (σ:St):Prop :=
 ∃ n:Nat,1≤n∧(n≤B.length∨B = [])∧k = B.length - n∧σ.T 0 = .rs (r + 1000) 0 N∧σ.T 1 = .int .i64 P.length∧σ.T 2 = .int .i64 ((P.length + B.length:Nat):Int)∧σ.T 3 = .clo f [] []∧σ.T 8 = .int .i64 ((P.length + n:Nat):Int) ∧
  only K H σ.H r (P ++ srt key (B.take n) ++ B.drop n ++ R)
set_option maxHeartbeats 8000000 in
theorem insS_ok {f:FuncId} {c:α->α->Int} (hc:z82 K key f c) (H:Nat->Option Arr) (r:Nat) (P B R:List α) (hb:(P ++ B ++ R).length≤1000000) (hr:H r = ObjE K (P ++ B ++ R)) :
  MFn Try.prog 53 [.rs r 0 (P ++ B ++ R).length,.int .i64 P.length,.int .i64 ((P.length + B.length:Nat):Int),.clo f [] []] H (.tup []) (upd H r (ObjE K (P ++ srt key B ++ R))):=by
 refine fnm_insS rfl ?_
 have hn:(P ++ B ++ R).length = P.length + B.length + R.length:=by simp only [List.length_append]
 have w1:IntKind.i64.wrap ((P.length:Int) + 1) = ((P.length + 1:Nat):Int):=by rw [z0t (by omega)]; omega
 have e1:P ++ srt key (B.take 1) ++ B.drop 1 ++ R = P ++ B ++ R:=by
  cases B with
  | nil=>simp [srt,zpf]
  | cons x B=>rw [List.take_succ_cons,List.take_zero,z6c key (X:=[x]) (zs3 key x)]; simp
 simp (maxSteps:=9^7) only [go_sem,↓reduceIte,reduceCtorEq,Nat.reduceEqDiff,Nat.reduceBEq,Nat.reduceAdd,Nat.reduceSub,Nat.reduceMul,Nat.reduceLT,Nat.reduceLeDiff,Nat.reduceBNe,Int.reduceBEq,Int.reduceBNe,Int.reduceLT,Int.reduceLE,evW,retM,sh,w1]
 refine z0f (insO K key H r f P B R (P ++ B ++ R).length) (k:=B.length - 1) ⟨1,Nat.le_refl _,?_,rfl,?_,?_,?_,?_,?_,?_⟩ ?_
 ·cases B with
  | nil=>exact .inr rfl
  | cons x B=>exact .inl (by simp)
 iterate 5 focus ((simp (maxSteps:=9^7) only [go_sem,↓reduceIte,reduceCtorEq,Nat.reduceEqDiff,Nat.reduceBEq,Nat.reduceAdd,Nat.reduceSub,Nat.reduceMul,Nat.reduceLT,Nat.reduceLeDiff,Nat.reduceBNe,Int.reduceBEq,Int.reduceBNe,Int.reduceLT,Int.reduceLE,evW,retM,sh]) <;> rfl)
 ·refine ⟨fun q hq=>?_,?_⟩
  ·simp (maxSteps:=9^7) only [go_sem,↓reduceIte,reduceCtorEq,Nat.reduceEqDiff,Nat.reduceBEq,Nat.reduceAdd,Nat.reduceSub,Nat.reduceMul,Nat.reduceLT,Nat.reduceLeDiff,Nat.reduceBNe,Int.reduceBEq,Int.reduceBNe,Int.reduceLT,Int.reduceLE,evW,retM]
  ·rw [e1]
   simp (maxSteps:=9^7) only [go_sem,↓reduceIte,reduceCtorEq,Nat.reduceEqDiff,Nat.reduceBEq,Nat.reduceAdd,Nat.reduceSub,Nat.reduceMul,Nat.reduceLT,Nat.reduceLeDiff,Nat.reduceBNe,Int.reduceBEq,Int.reduceBNe,Int.reduceLT,Int.reduceLE,evW,retM,hr]
 generalize hN:(P ++ B ++ R).length = N at *
 rintro k σ ⟨n,hn1,hn2,rfl,t0,t1,t2,t3,t8,hH⟩
 simp only [zl3]
 by_cases hlt:n < B.length
 case neg =>
  have hlt':¬ ((P.length + n:Nat):Int) < ((P.length + B.length:Nat):Int):=by omega
  have e:P ++ srt key (B.take n) ++ B.drop n ++ R = P ++ srt key B ++ R:=by
   rw [List.take_of_length_le (by omega),List.drop_eq_nil_of_le (by omega),List.append_nil]
  rw [e] at hH
  have hf:=z5j K hH
  simp (maxSteps:=9^7) only [go_sem,↓reduceIte,reduceCtorEq,Nat.reduceEqDiff,Nat.reduceBEq,Nat.reduceAdd,Nat.reduceSub,Nat.reduceMul,Nat.reduceLT,Nat.reduceLeDiff,Nat.reduceBNe,Int.reduceBEq,Int.reduceBNe,Int.reduceLT,Int.reduceLE,evW,retM,t2,t8,hlt']
  exact hf
 have hlt':((P.length + n:Nat):Int) < ((P.length + B.length:Nat):Int):=by omega
 have hx:B.drop n = B[n] :: B.drop (n + 1):=List.drop_eq_getElem_cons hlt
 have htk:B.take (n + 1) = B.take n ++ [B[n]]:=by rw [List.take_add_one,List.getElem?_eq_getElem hlt]; rfl
 generalize B[n] = x at hx htk
 have hsl:(srt key (B.take n)).length = n:=by rw [z0d,List.length_take]; omega
 have hdl:(B.drop (n + 1)).length = B.length - (n + 1):=List.length_drop
 have w2:IntKind.i64.wrap (((P.length + n:Nat):Int) + 1) = ((P.length + (n + 1):Nat):Int):=by rw [z0t (by omega)]; omega
 simp (maxSteps:=9^7) only [go_sem,↓reduceIte,reduceCtorEq,Nat.reduceEqDiff,Nat.reduceBEq,Nat.reduceAdd,Nat.reduceSub,Nat.reduceMul,Nat.reduceLT,Nat.reduceLeDiff,Nat.reduceBNe,Int.reduceBEq,Int.reduceBNe,Int.reduceLT,Int.reduceLE,evW,retM,t0,t1,t2,t3,t8,hlt']
 refine z0f (insI K key H r f P (srt key (B.take n)) (B.drop (n + 1) ++ R) x ((P.length + B.length:Nat):Int) ((P.length + n:Nat):Int) N) (k:=(srt key (B.take n)).length) ⟨srt key (B.take n),[],by simp,fun y hy=>by (cases hy),rfl,?_,?_,?_,?_,?_,?_,?_⟩ (ins_loop K key hc H r P (srt key (B.take n)) (B.drop (n + 1) ++ R) x _ _ N (z2k key _) (by rw [List.length_append]; omega) (by omega) _ ?_)
 iterate 6 focus ((simp (maxSteps:=9^7) only [go_sem,↓reduceIte,reduceCtorEq,Nat.reduceEqDiff,Nat.reduceBEq,Nat.reduceAdd,Nat.reduceSub,Nat.reduceMul,Nat.reduceLT,Nat.reduceLeDiff,Nat.reduceBNe,Int.reduceBEq,Int.reduceBNe,Int.reduceLT,Int.reduceLE,evW,retM,t0,t1,t2,t3,t8,hsl]) <;> rfl)
 ·have e:P ++ srt key (B.take n) ++ [x] ++ [] ++ (B.drop (n + 1) ++ R) = P ++ srt key (B.take n) ++ B.drop n ++ R:=by rw [hx]; simp
  rw [e]
  exact hH
 rintro σ2 ⟨s0,s1,s2,s3,s8,sH⟩
 simp (maxSteps:=9^7) only [go_sem,↓reduceIte,reduceCtorEq,Nat.reduceEqDiff,Nat.reduceBEq,Nat.reduceAdd,Nat.reduceSub,Nat.reduceMul,Nat.reduceLT,Nat.reduceLeDiff,Nat.reduceBNe,Int.reduceBEq,Int.reduceBNe,Int.reduceLT,Int.reduceLE,evW,retM,s0,s1,s2,s3,s8,w2]
 refine ⟨B.length - (n + 1),by omega,n + 1,by omega,.inl (by omega),rfl,?_,?_,?_,?_,?_,?_⟩
 iterate 5 focus ((simp (maxSteps:=9^7) only [go_sem,↓reduceIte,reduceCtorEq,Nat.reduceEqDiff,Nat.reduceBEq,Nat.reduceAdd,Nat.reduceSub,Nat.reduceMul,Nat.reduceLT,Nat.reduceLeDiff,Nat.reduceBNe,Int.reduceBEq,Int.reduceBNe,Int.reduceLT,Int.reduceLE,evW,retM,s0,s1,s2,s3]) <;> rfl)
 ·rw [htk,← srt_add,List.append_assoc _ (B.drop (n + 1)) R]
  exact sH
end
end
section
/-
 Merging two halves in place: what the searches find: plain.
-/
open Go.RowKit
section
variable {α:Type} (key:α->Int)
/-- the number of the element that stands at a place -/
def kAt (X:List α) (h:Nat):Int:=((X[h]?).map key).getD 0
theorem zcj {X:List α} {h:Nat} {x:α} (hx:X[h]? = some x):kAt key X h = key x:=by unfold kAt; rw [hx]; rfl
theorem zs4 {key:α->Int}:∀ {B:List α},Rise key B->∀ {i j:Nat} {x y:α},i≤j->B[i]? = some x->B[j]? = some y->key x≤key y
 | [],_,i,j,x,y,_,h,_=>by simp at h
 | b :: B,h,0,0,x,y,_,hx,hy=>by rw [hx] at hy; cases hy; exact Int.le_refl _
 | b :: B,h,0,j + 1,x,y,_,hx,hy=>by
  simp at hx; subst hx
  exact h.1 y (List.mem_of_getElem? (by simpa using hy))
 | b :: B,h,i + 1,0,x,y,hij,hx,hy=>by omega
 | b :: B,h,i + 1,j + 1,x,y,hij,hx,hy=>zs4 h.2 (Nat.le_of_succ_le_succ hij) (by simpa using hx) (by simpa using hy)
theorem at_mid {L B R:List α} {u:Nat} (h1:L.length≤u) (h2:u < L.length + B.length):∃ x,(L ++ B ++ R)[u]? = some x∧B[u - L.length]? = some x:=by
 have hlt:u - L.length < B.length:=by omega
 refine ⟨B[u - L.length],?_,List.getElem?_eq_getElem hlt⟩
 rw [List.append_assoc,List.getElem?_append_right h1,List.getElem?_append_left hlt,List.getElem?_eq_getElem hlt]
theorem z6h {L B R X:List α} (hX:X = L ++ B ++ R) (hB:Rise key B) {u v:Nat} (h1:L.length≤u) (h2:u≤v) (h3:v < L.length + B.length):kAt key X u≤kAt key X v:=by
 subst hX
 obtain ⟨x,a1,a2⟩:=at_mid (R:=R) h1 (by omega:u < L.length + B.length)
 obtain ⟨y,b1,b2⟩:=at_mid (R:=R) (by omega:L.length≤v) h3
 rw [zcj key a1,zcj key b1]
 exact zs4 hB (by omega) a2 b2
/-- all of a block's numbers,by its places -/
theorem z9o {L B R X:List α} (hX:X = L ++ B ++ R) {x:α} (hx:x ∈ B):∃ u,L.length≤u∧u < L.length + B.length∧kAt key X u = key x:=by
 obtain ⟨i,hi⟩:=List.mem_iff_getElem?.1 hx
 have hlt:=(List.getElem?_eq_some_iff.1 hi).1
 refine ⟨L.length + i,by omega,by omega,?_⟩
 subst hX
 refine zcj key ?_
 rw [List.append_assoc,List.getElem?_append_right (by omega),List.getElem?_append_left (by omega),show L.length + i - L.length = i by omega]
 exact hi
end
end
section
/-
 Merging two halves in place: the searches: the library's code,walked.
-/
open Go.RowKit
attribute [local go_sem ↓] z0s z0g
/-! ### slices.symMergeCmpFunc[percolate/api.Event] -/
def z5i:List XOp:=[(.op [] ⟨.mv (.t 2),some 25,none,[],[]⟩),(.op [] ⟨.mv (.t 1),some 26,none,[],[]⟩),(.op [] ⟨.bin .sub (.t 25) (.t 26),some 27,none,[],[]⟩),(.op [] ⟨.bin .eql (.t 27) (.c (.int .i64 1)),some 28,none,[],[]⟩)]
def z5h:List XOp:=[(.op [] ⟨.mv (.t 2),some 29,none,[],[]⟩),(.op [] ⟨.mv (.t 29),some 10,none,[],[]⟩)]
def z5g:List XOp:=[(.op [] ⟨.mv (.t 3),some 30,none,[],[]⟩),(.op [] ⟨.mv (.t 30),some 11,none,[],[]⟩)]
def z5f:List XOp:=[(.op [] ⟨.mv (.t 10),some 31,none,[],[]⟩),(.op [] ⟨.mv (.t 11),some 32,none,[],[]⟩),(.op [] ⟨.bin .lss (.t 31) (.t 32),some 33,none,[],[]⟩)]
def z5e:List XOp:=[(.op [] ⟨.mv (.t 10),some 34,none,[],[]⟩),(.op [] ⟨.mv (.t 11),some 35,none,[],[]⟩),(.op [] ⟨.bin .add (.t 34) (.t 35),some 36,none,[],[]⟩),(.op [] ⟨.conv .u64 (.t 36),some 37,none,[],[]⟩),(.op [38] ⟨.call 4 [(.t 37),(.c (.int .u64 1))],some 38,none,[],[]⟩),(.op [] ⟨.conv .i64 (.t 38),some 39,none,[],[]⟩),(.op [] ⟨.mv (.t 39),some 12,none,[],[]⟩)]
def z4h:List ROp:=[⟨.callv (.t 40) [(.t 44),(.t 48)],some 49,none,[],[]⟩,⟨.bin .lss (.t 49) (.c (.int .i64 0)),some 50,none,[],[]⟩]
def z4k:List ROp:=[⟨.mv (.t 4),some 40,none,[49],[]⟩,⟨.mv (.t 0),some 41,none,[49],[]⟩,⟨.mv (.t 12),some 42,none,[49],[]⟩,⟨.iaddr 15 (.t 41) (.t 42),some 43,none,[49],[]⟩,⟨.load 15 true (.t 43),some 44,none,[49],[]⟩,⟨.mv (.t 0),some 45,none,[49],[]⟩,⟨.mv (.t 1),some 46,none,[49],[]⟩,⟨.iaddr 15 (.t 45) (.t 46),some 47,none,[49],[]⟩,⟨.load 15 true (.t 47),some 48,none,[49],[]⟩]
def zsy:Reg:=⟨z4k,z4h,[49],[],true⟩
def z5d:List XOp:=[(.op [] ⟨.mv (.t 12),some 51,none,[],[]⟩),(.op [] ⟨.bin .add (.t 51) (.c (.int .i64 1)),some 52,none,[],[]⟩),(.op [] ⟨.mv (.t 52),some 10,none,[],[]⟩)]
def z5c:List XOp:=[(.op [] ⟨.mv (.t 12),some 53,none,[],[]⟩),(.op [] ⟨.mv (.t 53),some 11,none,[],[]⟩)]
def zbd (P:Program):IR:=(.seq (.seq (.regx P z5f)
 (.cond (.t 33) .skip
 (.exit 0)))
 (.block 1 (.seq (.regx P z5e)
 (.seq (.reg zsy)
 (.cond (.t 50) (.regx P z5d)
 (.regx P z5c))))))
def z5b:List XOp:=[(.op [] ⟨.mv (.t 1),some 54,none,[],[]⟩),(.op [] ⟨.mv (.t 54),some 13,none,[],[]⟩)]
def z47:List XOp:=[(.op [] ⟨.mv (.t 13),some 55,none,[],[]⟩),(.op [] ⟨.mv (.t 10),some 56,none,[],[]⟩),(.op [] ⟨.bin .sub (.t 56) (.c (.int .i64 1)),some 57,none,[],[]⟩),(.op [] ⟨.bin .lss (.t 55) (.t 57),some 58,none,[],[]⟩)]
def zjd:Reg:=⟨[⟨.mv (.t 0),some 61,none,[],[]⟩,⟨.mv (.t 13),some 62,none,[],[]⟩,⟨.mv (.t 0),some 63,none,[],[]⟩,⟨.mv (.t 13),some 64,none,[],[]⟩,⟨.bin .add (.t 64) (.c (.int .i64 1)),some 65,none,[],[]⟩,⟨.mv (.t 0),some 66,none,[],[]⟩,⟨.mv (.t 13),some 67,none,[],[]⟩,⟨.bin .add (.t 67) (.c (.int .i64 1)),some 68,none,[],[]⟩,⟨.iaddr 15 (.t 66) (.t 68),some 69,none,[],[]⟩,⟨.load 15 true (.t 69),some 70,none,[],[]⟩,⟨.mv (.t 0),some 71,none,[],[]⟩,⟨.mv (.t 13),some 72,none,[],[]⟩,⟨.iaddr 15 (.t 71) (.t 72),some 73,none,[],[]⟩,⟨.load 15 true (.t 73),some 74,none,[],[]⟩,⟨.iaddr 15 (.t 61) (.t 62),some 75,none,[],[]⟩,⟨.store 15 (.t 75) (.t 70),none,none,[],[0]⟩],[⟨.iaddr 15 (.t 63) (.t 65),some 76,none,[],[]⟩,⟨.store 15 (.t 76) (.t 74),none,none,[],[0]⟩],[],[],true⟩
def z46:List XOp:=[(.op [] ⟨.mv (.t 13),some 59,none,[],[]⟩),(.op [] ⟨.bin .add (.t 59) (.c (.int .i64 1)),some 60,none,[],[]⟩),(.op [] ⟨.mv (.t 60),some 13,none,[],[]⟩)]
def z90 (P:Program):IR:=(.seq (.seq (.regx P z47)
 (.cond (.t 58) .skip
 (.exit 2)))
 (.seq (.block 3 (.regw zjd 0))
 (.regx P z46)))
def z45:List XOp:=[(.op [] ⟨.mv (.t 3),some 77,none,[],[]⟩),(.op [] ⟨.mv (.t 2),some 78,none,[],[]⟩),(.op [] ⟨.bin .sub (.t 77) (.t 78),some 79,none,[],[]⟩),(.op [] ⟨.bin .eql (.t 79) (.c (.int .i64 1)),some 80,none,[],[]⟩)]
def z44:List XOp:=[(.op [] ⟨.mv (.t 1),some 81,none,[],[]⟩),(.op [] ⟨.mv (.t 81),some 14,none,[],[]⟩)]
def z43:List XOp:=[(.op [] ⟨.mv (.t 2),some 82,none,[],[]⟩),(.op [] ⟨.mv (.t 82),some 15,none,[],[]⟩)]
def z42:List XOp:=[(.op [] ⟨.mv (.t 14),some 83,none,[],[]⟩),(.op [] ⟨.mv (.t 15),some 84,none,[],[]⟩),(.op [] ⟨.bin .lss (.t 83) (.t 84),some 85,none,[],[]⟩)]
def z41:List XOp:=[(.op [] ⟨.mv (.t 14),some 86,none,[],[]⟩),(.op [] ⟨.mv (.t 15),some 87,none,[],[]⟩),(.op [] ⟨.bin .add (.t 86) (.t 87),some 88,none,[],[]⟩),(.op [] ⟨.conv .u64 (.t 88),some 89,none,[],[]⟩),(.op [90] ⟨.call 4 [(.t 89),(.c (.int .u64 1))],some 90,none,[],[]⟩),(.op [] ⟨.conv .i64 (.t 90),some 91,none,[],[]⟩),(.op [] ⟨.mv (.t 91),some 16,none,[],[]⟩)]
def z2o:List ROp:=[⟨.callv (.t 92) [(.t 96),(.t 100)],some 101,none,[],[]⟩,⟨.bin .lss (.t 101) (.c (.int .i64 0)),some 102,none,[],[]⟩,⟨.un .not (.t 102),some 103,none,[],[]⟩]
def z2y:List ROp:=[⟨.mv (.t 4),some 92,none,[101],[]⟩,⟨.mv (.t 0),some 93,none,[101],[]⟩,⟨.mv (.t 2),some 94,none,[101],[]⟩,⟨.iaddr 15 (.t 93) (.t 94),some 95,none,[101],[]⟩,⟨.load 15 true (.t 95),some 96,none,[101],[]⟩,⟨.mv (.t 0),some 97,none,[101],[]⟩,⟨.mv (.t 16),some 98,none,[101],[]⟩,⟨.iaddr 15 (.t 97) (.t 98),some 99,none,[101],[]⟩,⟨.load 15 true (.t 99),some 100,none,[101],[]⟩]
def zjc:Reg:=⟨z2y,z2o,[101],[],true⟩
def z40:List XOp:=[(.op [] ⟨.mv (.t 16),some 104,none,[],[]⟩),(.op [] ⟨.bin .add (.t 104) (.c (.int .i64 1)),some 105,none,[],[]⟩),(.op [] ⟨.mv (.t 105),some 14,none,[],[]⟩)]
def z3z:List XOp:=[(.op [] ⟨.mv (.t 16),some 106,none,[],[]⟩),(.op [] ⟨.mv (.t 106),some 15,none,[],[]⟩)]
def z8z (P:Program):IR:=(.seq (.seq (.regx P z42)
 (.cond (.t 85) .skip
 (.exit 4)))
 (.block 5 (.seq (.regx P z41)
 (.seq (.reg zjc)
 (.cond (.t 103) (.regx P z40)
 (.regx P z3z))))))
def z3y:List XOp:=[(.op [] ⟨.mv (.t 2),some 107,none,[],[]⟩),(.op [] ⟨.mv (.t 107),some 17,none,[],[]⟩)]
def z3x:List XOp:=[(.op [] ⟨.mv (.t 17),some 108,none,[],[]⟩),(.op [] ⟨.mv (.t 14),some 109,none,[],[]⟩),(.op [] ⟨.bin .gtr (.t 108) (.t 109),some 110,none,[],[]⟩)]
def zjb:Reg:=⟨[⟨.mv (.t 0),some 113,none,[],[]⟩,⟨.mv (.t 17),some 114,none,[],[]⟩,⟨.mv (.t 0),some 115,none,[],[]⟩,⟨.mv (.t 17),some 116,none,[],[]⟩,⟨.bin .sub (.t 116) (.c (.int .i64 1)),some 117,none,[],[]⟩,⟨.mv (.t 0),some 118,none,[],[]⟩,⟨.mv (.t 17),some 119,none,[],[]⟩,⟨.bin .sub (.t 119) (.c (.int .i64 1)),some 120,none,[],[]⟩,⟨.iaddr 15 (.t 118) (.t 120),some 121,none,[],[]⟩,⟨.load 15 true (.t 121),some 122,none,[],[]⟩,⟨.mv (.t 0),some 123,none,[],[]⟩,⟨.mv (.t 17),some 124,none,[],[]⟩,⟨.iaddr 15 (.t 123) (.t 124),some 125,none,[],[]⟩,⟨.load 15 true (.t 125),some 126,none,[],[]⟩,⟨.iaddr 15 (.t 113) (.t 114),some 127,none,[],[]⟩,⟨.store 15 (.t 127) (.t 122),none,none,[],[0]⟩],[⟨.iaddr 15 (.t 115) (.t 117),some 128,none,[],[]⟩,⟨.store 15 (.t 128) (.t 126),none,none,[],[0]⟩],[],[],true⟩
def z3w:List XOp:=[(.op [] ⟨.mv (.t 17),some 111,none,[],[]⟩),(.op [] ⟨.bin .sub (.t 111) (.c (.int .i64 1)),some 112,none,[],[]⟩),(.op [] ⟨.mv (.t 112),some 17,none,[],[]⟩)]
def z8y (P:Program):IR:=(.seq (.seq (.regx P z3x)
 (.cond (.t 110) .skip
 (.exit 6)))
 (.seq (.block 7 (.regw zjb 0))
 (.regx P z3w)))
def z3v:List XOp:=[(.op [] ⟨.mv (.t 1),some 129,none,[],[]⟩),(.op [] ⟨.mv (.t 3),some 130,none,[],[]⟩),(.op [] ⟨.bin .add (.t 129) (.t 130),some 131,none,[],[]⟩),(.op [] ⟨.conv .u64 (.t 131),some 132,none,[],[]⟩),(.op [133] ⟨.call 4 [(.t 132),(.c (.int .u64 1))],some 133,none,[],[]⟩),(.op [] ⟨.conv .i64 (.t 133),some 134,none,[],[]⟩),(.op [] ⟨.mv (.t 134),some 18,none,[],[]⟩)]
def z3u:List XOp:=[(.op [] ⟨.mv (.t 18),some 135,none,[],[]⟩),(.op [] ⟨.mv (.t 2),some 136,none,[],[]⟩),(.op [] ⟨.bin .add (.t 135) (.t 136),some 137,none,[],[]⟩),(.op [] ⟨.mv (.t 137),some 19,none,[],[]⟩)]
def z3t:List XOp:=[(.op [] ⟨.mv (.c (.int .i64 0)),some 20,none,[],[]⟩),(.op [] ⟨.mv (.c (.int .i64 0)),some 21,none,[],[]⟩)]
def z3s:List XOp:=[(.op [] ⟨.mv (.t 2),some 138,none,[],[]⟩),(.op [] ⟨.mv (.t 18),some 139,none,[],[]⟩),(.op [] ⟨.bin .gtr (.t 138) (.t 139),some 140,none,[],[]⟩)]
def z3r:List XOp:=[(.op [] ⟨.mv (.t 19),some 141,none,[],[]⟩),(.op [] ⟨.mv (.t 3),some 142,none,[],[]⟩),(.op [] ⟨.bin .sub (.t 141) (.t 142),some 143,none,[],[]⟩),(.op [] ⟨.mv (.t 143),some 20,none,[],[]⟩)]
def z3q:List XOp:=[(.op [] ⟨.mv (.t 18),some 144,none,[],[]⟩),(.op [] ⟨.mv (.t 144),some 21,none,[],[]⟩)]
def z3p:List XOp:=[(.op [] ⟨.mv (.t 1),some 145,none,[],[]⟩),(.op [] ⟨.mv (.t 145),some 20,none,[],[]⟩)]
def z3o:List XOp:=[(.op [] ⟨.mv (.t 2),some 146,none,[],[]⟩),(.op [] ⟨.mv (.t 146),some 21,none,[],[]⟩)]
def z3n:List XOp:=[(.op [] ⟨.mv (.t 19),some 147,none,[],[]⟩),(.op [] ⟨.bin .sub (.t 147) (.c (.int .i64 1)),some 148,none,[],[]⟩),(.op [] ⟨.mv (.t 148),some 22,none,[],[]⟩)]
def z3m:List XOp:=[(.op [] ⟨.mv (.t 20),some 149,none,[],[]⟩),(.op [] ⟨.mv (.t 21),some 150,none,[],[]⟩),(.op [] ⟨.bin .lss (.t 149) (.t 150),some 151,none,[],[]⟩)]
def z3l:List XOp:=[(.op [] ⟨.mv (.t 20),some 152,none,[],[]⟩),(.op [] ⟨.mv (.t 21),some 153,none,[],[]⟩),(.op [] ⟨.bin .add (.t 152) (.t 153),some 154,none,[],[]⟩),(.op [] ⟨.conv .u64 (.t 154),some 155,none,[],[]⟩),(.op [156] ⟨.call 4 [(.t 155),(.c (.int .u64 1))],some 156,none,[],[]⟩),(.op [] ⟨.conv .i64 (.t 156),some 157,none,[],[]⟩),(.op [] ⟨.mv (.t 157),some 23,none,[],[]⟩)]
def z2n:List ROp:=[⟨.callv (.t 158) [(.t 164),(.t 168)],some 169,none,[],[]⟩,⟨.bin .lss (.t 169) (.c (.int .i64 0)),some 170,none,[],[]⟩,⟨.un .not (.t 170),some 171,none,[],[]⟩]
def z2x:List ROp:=[⟨.mv (.t 4),some 158,none,[169],[]⟩,⟨.mv (.t 0),some 159,none,[169],[]⟩,⟨.mv (.t 22),some 160,none,[169],[]⟩,⟨.mv (.t 23),some 161,none,[169],[]⟩,⟨.bin .sub (.t 160) (.t 161),some 162,none,[169],[]⟩,⟨.iaddr 15 (.t 159) (.t 162),some 163,none,[169],[]⟩,⟨.load 15 true (.t 163),some 164,none,[169],[]⟩,⟨.mv (.t 0),some 165,none,[169],[]⟩,⟨.mv (.t 23),some 166,none,[169],[]⟩,⟨.iaddr 15 (.t 165) (.t 166),some 167,none,[169],[]⟩,⟨.load 15 true (.t 167),some 168,none,[169],[]⟩]
def zja:Reg:=⟨z2x,z2n,[169],[],true⟩
def z3k:List XOp:=[(.op [] ⟨.mv (.t 23),some 172,none,[],[]⟩),(.op [] ⟨.bin .add (.t 172) (.c (.int .i64 1)),some 173,none,[],[]⟩),(.op [] ⟨.mv (.t 173),some 20,none,[],[]⟩)]
def z3j:List XOp:=[(.op [] ⟨.mv (.t 23),some 174,none,[],[]⟩),(.op [] ⟨.mv (.t 174),some 21,none,[],[]⟩)]
def z8x (P:Program):IR:=(.seq (.seq (.regx P z3m)
 (.cond (.t 151) .skip
 (.exit 8)))
 (.block 9 (.seq (.regx P z3l)
 (.seq (.reg zja)
 (.cond (.t 171) (.regx P z3k)
 (.regx P z3j))))))
def z2v:List XOp:=[(.op [] ⟨.mv (.t 19),some 175,none,[],[]⟩),(.op [] ⟨.mv (.t 20),some 176,none,[],[]⟩),(.op [] ⟨.bin .sub (.t 175) (.t 176),some 177,none,[],[]⟩),(.op [] ⟨.mv (.t 177),some 24,none,[],[]⟩)]
def z2u:List XOp:=[(.op [] ⟨.mv (.t 20),some 178,none,[],[]⟩),(.op [] ⟨.mv (.t 2),some 179,none,[],[]⟩),(.op [] ⟨.bin .lss (.t 178) (.t 179),some 180,none,[],[]⟩),(.op [] ⟨.mv (.t 180),some 181,none,[],[]⟩),(.op [] ⟨.mv (.t 2),some 182,(some (181,true)),[],[]⟩),(.op [] ⟨.mv (.t 24),some 183,(some (181,true)),[],[]⟩),(.op [] ⟨.bin .lss (.t 182) (.t 183),some 184,(some (181,true)),[],[]⟩),(.op [] ⟨.pick (.t 181) (.t 184) (.c (.bool false)),some 185,none,[],[]⟩)]
def z2t:List XOp:=[(.op [] ⟨.mv (.t 0),some 186,none,[],[]⟩),(.op [] ⟨.mv (.t 20),some 187,none,[],[]⟩),(.op [] ⟨.mv (.t 2),some 188,none,[],[]⟩),(.op [] ⟨.mv (.t 24),some 189,none,[],[]⟩),(.op [] ⟨.mv (.t 4),some 190,none,[],[]⟩),(.wcall 191 (.c (.clo 72 [] [])) [(.t 186),(.t 187),(.t 188),(.t 189),(.t 190)])]
def z2s:List XOp:=[(.op [] ⟨.mv (.t 1),some 192,none,[],[]⟩),(.op [] ⟨.mv (.t 20),some 193,none,[],[]⟩),(.op [] ⟨.bin .lss (.t 192) (.t 193),some 194,none,[],[]⟩),(.op [] ⟨.mv (.t 194),some 195,none,[],[]⟩),(.op [] ⟨.mv (.t 20),some 196,(some (195,true)),[],[]⟩),(.op [] ⟨.mv (.t 18),some 197,(some (195,true)),[],[]⟩),(.op [] ⟨.bin .lss (.t 196) (.t 197),some 198,(some (195,true)),[],[]⟩),(.op [] ⟨.pick (.t 195) (.t 198) (.c (.bool false)),some 199,none,[],[]⟩)]
def z2r:List XOp:=[(.op [] ⟨.mv (.t 0),some 200,none,[],[]⟩),(.op [] ⟨.mv (.t 1),some 201,none,[],[]⟩),(.op [] ⟨.mv (.t 20),some 202,none,[],[]⟩),(.op [] ⟨.mv (.t 18),some 203,none,[],[]⟩),(.op [] ⟨.mv (.t 4),some 204,none,[],[]⟩),(.wcall 205 (.c (.clo 54 [] [])) [(.t 200),(.t 201),(.t 202),(.t 203),(.t 204)])]
def z2q:List XOp:=[(.op [] ⟨.mv (.t 18),some 206,none,[],[]⟩),(.op [] ⟨.mv (.t 24),some 207,none,[],[]⟩),(.op [] ⟨.bin .lss (.t 206) (.t 207),some 208,none,[],[]⟩),(.op [] ⟨.mv (.t 208),some 209,none,[],[]⟩),(.op [] ⟨.mv (.t 24),some 210,(some (209,true)),[],[]⟩),(.op [] ⟨.mv (.t 3),some 211,(some (209,true)),[],[]⟩),(.op [] ⟨.bin .lss (.t 210) (.t 211),some 212,(some (209,true)),[],[]⟩),(.op [] ⟨.pick (.t 209) (.t 212) (.c (.bool false)),some 213,none,[],[]⟩)]
def z2p:List XOp:=[(.op [] ⟨.mv (.t 0),some 214,none,[],[]⟩),(.op [] ⟨.mv (.t 18),some 215,none,[],[]⟩),(.op [] ⟨.mv (.t 24),some 216,none,[],[]⟩),(.op [] ⟨.mv (.t 3),some 217,none,[],[]⟩),(.op [] ⟨.mv (.t 4),some 218,none,[],[]⟩),(.wcall 219 (.c (.clo 54 [] [])) [(.t 214),(.t 215),(.t 216),(.t 217),(.t 218)])]
def z76 (P:Program):IR:=(.seq (.seq (.regx P z5i)
 (.cond (.t 28) (.seq (.regx P z5h)
 (.seq (.regx P z5g)
 (.seq (.block 0 (.loop (zbd P)))
 (.seq (.seq (.regx P z5b)
 (.block 2 (.loop (z90 P))))
 .ret))))
 .skip))
 (.seq (.seq (.regx P z45)
 (.cond (.t 80) (.seq (.regx P z44)
 (.seq (.regx P z43)
 (.seq (.block 4 (.loop (z8z P)))
 (.seq (.seq (.regx P z3y)
 (.block 6 (.loop (z8y P))))
 .ret))))
 .skip))
 (.seq (.regx P z3v)
 (.seq (.regx P z3u)
 (.seq (.regx P z3t)
 (.seq (.seq (.regx P z3s)
 (.cond (.t 140) (.seq (.regx P z3r)
 (.regx P z3q))
 (.seq (.regx P z3p)
 (.regx P z3o))))
 (.seq (.regx P z3n)
 (.seq (.block 8 (.loop (z8x P)))
 (.seq (.regx P z2v)
 (.seq (.seq (.regx P z2u)
 (.cond (.t 185) (.regx P z2t)
 .skip))
 (.seq (.seq (.regx P z2s)
 (.cond (.t 199) (.regx P z2r)
 .skip))
 (.seq (.regx P z2q)
 (.cond (.t 213) (.regx P z2p)
 .skip)))))))))))))
def z59:List RDesc:=[]
theorem z6k (C:FuncId->List AV->AV->Prop) (σ:St) (K:St->Prop):z0l C zsy σ K = z0a C [] z4h z4k (σ.kills [49]) K:=rfl
theorem z52 (C:FuncId->List AV->AV->Prop) (σ:St) (K:St->Prop) (q:Nat):z0l C (Reg.ren 0 q zjd) σ K = z0a C [] [⟨.iaddr 15 (.t 63) (.t 65),some 76,none,[],[]⟩,⟨.store 15 (.t 76) (.t 74),none,none,[],[q]⟩] [⟨.mv (.t 0),some 61,none,[],[]⟩,⟨.mv (.t 13),some 62,none,[],[]⟩,⟨.mv (.t 0),some 63,none,[],[]⟩,⟨.mv (.t 13),some 64,none,[],[]⟩,⟨.bin .add (.t 64) (.c (.int .i64 1)),some 65,none,[],[]⟩,⟨.mv (.t 0),some 66,none,[],[]⟩,⟨.mv (.t 13),some 67,none,[],[]⟩,⟨.bin .add (.t 67) (.c (.int .i64 1)),some 68,none,[],[]⟩,⟨.iaddr 15 (.t 66) (.t 68),some 69,none,[],[]⟩,⟨.load 15 true (.t 69),some 70,none,[],[]⟩,⟨.mv (.t 0),some 71,none,[],[]⟩,⟨.mv (.t 13),some 72,none,[],[]⟩,⟨.iaddr 15 (.t 71) (.t 72),some 73,none,[],[]⟩,⟨.load 15 true (.t 73),some 74,none,[],[]⟩,⟨.iaddr 15 (.t 61) (.t 62),some 75,none,[],[]⟩,⟨.store 15 (.t 75) (.t 70),none,none,[],[q]⟩] (σ.kills []) K:=rfl
theorem z51 (C:FuncId->List AV->AV->Prop) (σ:St) (K:St->Prop):z0l C zjc σ K = z0a C [] z2o z2y (σ.kills [101]) K:=rfl
theorem z50 (C:FuncId->List AV->AV->Prop) (σ:St) (K:St->Prop) (q:Nat):z0l C (Reg.ren 0 q zjb) σ K = z0a C [] [⟨.iaddr 15 (.t 115) (.t 117),some 128,none,[],[]⟩,⟨.store 15 (.t 128) (.t 126),none,none,[],[q]⟩] [⟨.mv (.t 0),some 113,none,[],[]⟩,⟨.mv (.t 17),some 114,none,[],[]⟩,⟨.mv (.t 0),some 115,none,[],[]⟩,⟨.mv (.t 17),some 116,none,[],[]⟩,⟨.bin .sub (.t 116) (.c (.int .i64 1)),some 117,none,[],[]⟩,⟨.mv (.t 0),some 118,none,[],[]⟩,⟨.mv (.t 17),some 119,none,[],[]⟩,⟨.bin .sub (.t 119) (.c (.int .i64 1)),some 120,none,[],[]⟩,⟨.iaddr 15 (.t 118) (.t 120),some 121,none,[],[]⟩,⟨.load 15 true (.t 121),some 122,none,[],[]⟩,⟨.mv (.t 0),some 123,none,[],[]⟩,⟨.mv (.t 17),some 124,none,[],[]⟩,⟨.iaddr 15 (.t 123) (.t 124),some 125,none,[],[]⟩,⟨.load 15 true (.t 125),some 126,none,[],[]⟩,⟨.iaddr 15 (.t 113) (.t 114),some 127,none,[],[]⟩,⟨.store 15 (.t 127) (.t 122),none,none,[],[q]⟩] (σ.kills []) K:=rfl
theorem z4z (C:FuncId->List AV->AV->Prop) (σ:St) (K:St->Prop):z0l C zja σ K = z0a C [] z2n z2x (σ.kills [169]) K:=rfl
theorem zhv {args:List AV} {r:AV} {H H':Nat->Option Arr} (ha:args.length.ble Try.f54.ntmps = true) (h:run (AFn Try.prog) (z76 Try.prog) (endM z59 r H') (z77 args H)):MFn Try.prog 54 args H r H' :=
 MFn.of_code (pv:=false) (hint:=fun _=>[1]) (c:=Try.f54.body.getD .skip) (by kernel_rfl) (by kernel_rfl) Try.func54 (by kernel_rfl) (by kernel_rfl) (by kernel_rfl) (of_decide_eq_true (by kernel_rfl)) (Nat.le_of_ble_eq_true ha) (Nat.le_of_ble_eq_true (by kernel_rfl)) (z09 h)
attribute [local go_sem ↓] z76
attribute [local go_sem] z59 z6k z4h z4k z52 z51 z2o z2y z50 z4z z2n z2x z5i z5h z5g z5f z5e z5d z5c z5b z47 z46 z45 z44 z43 z42 z41 z40 z3z z3y z3x z3w z3v z3u z3t z3s z3r z3q z3p z3o z3n z3m z3l z3k z3j z2v z2u z2t z2s z2r z2q z2p
section
variable {α:Type} (K:Kind15 α) (key:α->Int)
/-- what the searches leave as it is -/
structure SymF (H:Nat->Option Arr) (r f:Nat) (a m b:Int) (X:List α) (σ:St):Prop where
 t0:σ.T 0 = .rs (r + 1000) 0 X.length
 t1:σ.T 1 = .int .i64 a
 t2:σ.T 2 = .int .i64 m
 t3:σ.T 3 = .int .i64 b
 t4:σ.T 4 = .clo f [] []
 h:only K H σ.H r X
def s1I (H:Nat->Option Arr) (r f a m b:Nat) (X:List α) (x:α) (k:Nat) (σ:St):Prop :=
 ∃ s e:Nat,Cut (fun h=>¬ kAt key X h < key x) m b s e∧k = e - s∧σ.T 10 = .int .i64 s∧σ.T 11 = .int .i64 e∧SymF K H r f a m b X σ
theorem wrapU {j:Int} (h:0≤j∧j≤1000000000000000):IntKind.u64.wrap j = j:=IntWalk.u64_in _ (by omega)
theorem halfI (s e:Nat):((s:Int) + (e:Int)).fdiv (2 ^ min (Int.toNat 1) 64) = (((s + e) / 2:Nat):Int):=by
 show ((s:Int) + (e:Int)).fdiv 2 = _
 rw [Int.fdiv_eq_ediv_of_nonneg _ (by omega)]; omega
set_option maxHeartbeats 8000000 in
theorem s1_loop {f:FuncId} {c:α->α->Int} (hc:z82 K key f c) (H:Nat->Option Arr) (r a m b:Nat) (X:List α) (x:α) (hX:X.length≤1000000) (hb:b≤X.length) (hm:m≤b) (ha:X[a]? = some x)
  (mono:∀ u v,m≤u->u≤v->v < b->¬ kAt key X u < key x->¬ kAt key X v < key x) (Q:XK->St->Prop)
  (hEnd:∀ σ (s:Nat),Cut (fun h=>¬ kAt key X h < key x) m b s s->σ.T 10 = .int .i64 s->SymF K H r f a m b X σ->Q (.exit 0) σ) (k:Nat) (σ:St) (hI:s1I K key H r f a m b X x k σ) :
  run (AFn Try.prog) (zbd Try.prog) (z2d (fun σ'=>∃ m',m' < k∧s1I K key H r f a m b X x m' σ') Q) σ:=by
 obtain ⟨s,e,hC,rfl,t10,t11,⟨t0,t1,t2,t3,t4,hH⟩⟩:=hI
 simp only [zbd]
 have c1:=hC.l0
 have c2:=hC.m0
 have c3:=hC.r0
 by_cases hlt:s < e
 case neg =>
  have hlt':¬ (s:Int) < (e:Int):=by omega
  have he:e = s:=by omega
  subst he
  simp (maxSteps:=9^7) only [go_sem,↓reduceIte,reduceCtorEq,Nat.reduceEqDiff,Nat.reduceBEq,Nat.reduceAdd,Nat.reduceSub,Nat.reduceMul,Nat.reduceLT,Nat.reduceLeDiff,Nat.reduceBNe,Int.reduceBEq,Int.reduceBNe,Int.reduceLT,Int.reduceLE,evW,retM,t10,t11,hlt']
  refine hEnd _ e hC ?_ ⟨?_,?_,?_,?_,?_,?_⟩
  iterate 6 focus ((simp (maxSteps:=9^7) only [go_sem,↓reduceIte,reduceCtorEq,Nat.reduceEqDiff,Nat.reduceBEq,Nat.reduceAdd,Nat.reduceSub,Nat.reduceMul,Nat.reduceLT,Nat.reduceLeDiff,Nat.reduceBNe,Int.reduceBEq,Int.reduceBNe,Int.reduceLT,Int.reduceLE,evW,retM,t10,t0,t1,t2,t3,t4]) <;> rfl)
  ·exact hH
 have hlt':(s:Int) < (e:Int):=by omega
 have w1:IntKind.i64.wrap ((s:Int) + (e:Int)) = (s:Int) + (e:Int):=z0t (by omega)
 have w2:IntKind.u64.wrap ((s:Int) + (e:Int)) = (s:Int) + (e:Int):=wrapU (by omega)
 have fh:=halfI s e
 obtain ⟨h,hh⟩:∃ h,(s + e) / 2 = h:=⟨_,rfl⟩
 rw [hh] at fh
 have h1:s≤h:=by omega
 have h2:h < e:=by omega
 have wh:IntKind.i64.wrap (h:Int) = (h:Int):=z0t (by omega)
 have wi:IntKind.i64.wrap ((h:Int) + 1) = ((h + 1:Nat):Int):=by rw [z0t (by omega)]; rfl
 have lh':h < X.length:=by omega
 have lh:(h:Int) < (X.length:Int):=by omega
 have la':a < X.length:=(List.getElem?_eq_some_iff.1 ha).1
 have la:(a:Int) < (X.length:Int):=by omega
 obtain ⟨y,hy⟩:∃ y,X[h]? = some y:=⟨_,List.getElem?_eq_getElem lh'⟩
 have ga:=atU K ha
 have gy:=atU K hy
 have ky:=zcj key hy
 have hX2:=hH.2
 unfold ObjE Kind15.f at hX2
 have z0:∀ x:Nat,(0:Int)≤(x:Int):=fun x=>Int.natCast_nonneg x
 have hk1:=K.take
 have hk3:=K.len
 have r49:(r + 1000 == 49) = false:=by simp
 have r38:¬ r + 1000 = 38:=by omega
 have r49':¬ r + 1000 = 49:=by omega
 obtain ⟨d1,d2⟩:=hc y x
 simp (maxSteps:=9^7) only [go_sem,↓reduceIte,reduceCtorEq,Nat.reduceEqDiff,Nat.reduceBEq,Nat.reduceAdd,Nat.reduceSub,Nat.reduceMul,Nat.reduceLT,Nat.reduceLeDiff,Nat.reduceBNe,Int.reduceBEq,Int.reduceBNe,Int.reduceLT,Int.reduceLE,evW,retM,t10,t11,hlt',w1,w2,fh,wh,lh,lh',la,la',ga,gy,hX2,z0,hk1,hk3,r49,r38,r49',t0,t1,t2,t3,t4,Int.toNat_natCast,List.length_map]
 refine z01 d1 ?_
 have only':∀ σ':St,(∀ q,1000≤q->σ'.H q = σ.H q)->only K H σ'.H r X:=fun σ' g=>⟨fun q hq=>by rw [g _ (by omega)]; exact hH.1 q hq,by rw [g _ (by omega)]; exact hH.2⟩
 by_cases hl:c y x < 0
 case pos =>
  have hk:key y < key x:=d2.1 hl
  simp (maxSteps:=9^7) only [go_sem,↓reduceIte,reduceCtorEq,Nat.reduceEqDiff,Nat.reduceBEq,Nat.reduceAdd,Nat.reduceSub,Nat.reduceMul,Nat.reduceLT,Nat.reduceLeDiff,Nat.reduceBNe,Int.reduceBEq,Int.reduceBNe,Int.reduceLT,Int.reduceLE,evW,retM,hl,wi]
  refine ⟨e - (h + 1),by omega,h + 1,e,Cut.up hC h1 h2 mono (by rw [ky]; exact not_not_intro hk),rfl,?_,?_,?_,?_,?_,?_,?_,?_⟩
  iterate 7 focus ((simp (maxSteps:=9^7) only [go_sem,↓reduceIte,reduceCtorEq,Nat.reduceEqDiff,Nat.reduceBEq,Nat.reduceAdd,Nat.reduceSub,Nat.reduceMul,Nat.reduceLT,Nat.reduceLeDiff,Nat.reduceBNe,Int.reduceBEq,Int.reduceBNe,Int.reduceLT,Int.reduceLE,evW,retM,t11,t0,t1,t2,t3,t4]) <;> rfl)
  ·refine only' _ fun q hq=>?_
   have q1:¬ q = 38:=by omega
   have q2:¬ q = 49:=by omega
   simp (maxSteps:=9^7) only [go_sem,↓reduceIte,reduceCtorEq,Nat.reduceEqDiff,Nat.reduceBEq,Nat.reduceAdd,Nat.reduceSub,Nat.reduceMul,Nat.reduceLT,Nat.reduceLeDiff,Nat.reduceBNe,Int.reduceBEq,Int.reduceBNe,Int.reduceLT,Int.reduceLE,evW,retM,q1,q2]
 have hk:¬ key y < key x:=fun h=>hl (d2.2 h)
 simp (maxSteps:=9^7) only [go_sem,↓reduceIte,reduceCtorEq,Nat.reduceEqDiff,Nat.reduceBEq,Nat.reduceAdd,Nat.reduceSub,Nat.reduceMul,Nat.reduceLT,Nat.reduceLeDiff,Nat.reduceBNe,Int.reduceBEq,Int.reduceBNe,Int.reduceLT,Int.reduceLE,evW,retM,hl]
 refine ⟨h - s,by omega,s,h,Cut.down hC h1 h2 mono (by rw [ky]; exact hk),rfl,?_,?_,?_,?_,?_,?_,?_,?_⟩
 iterate 7 focus ((simp (maxSteps:=9^7) only [go_sem,↓reduceIte,reduceCtorEq,Nat.reduceEqDiff,Nat.reduceBEq,Nat.reduceAdd,Nat.reduceSub,Nat.reduceMul,Nat.reduceLT,Nat.reduceLeDiff,Nat.reduceBNe,Int.reduceBEq,Int.reduceBNe,Int.reduceLT,Int.reduceLE,evW,retM,t10,t0,t1,t2,t3,t4]) <;> rfl)
 ·refine only' _ fun q hq=>?_
  have q1:¬ q = 38:=by omega
  have q2:¬ q = 49:=by omega
  simp (maxSteps:=9^7) only [go_sem,↓reduceIte,reduceCtorEq,Nat.reduceEqDiff,Nat.reduceBEq,Nat.reduceAdd,Nat.reduceSub,Nat.reduceMul,Nat.reduceLT,Nat.reduceLeDiff,Nat.reduceBNe,Int.reduceBEq,Int.reduceBNe,Int.reduceLT,Int.reduceLE,evW,retM,q1,q2]
def s2I (H:Nat->Option Arr) (r f a m b:Nat) (X:List α) (x:α) (k:Nat) (σ:St):Prop :=
 ∃ s e:Nat,Cut (fun h=>key x < kAt key X h) a m s e∧k = e - s∧σ.T 14 = .int .i64 s∧σ.T 15 = .int .i64 e∧SymF K H r f a m b X σ
set_option maxHeartbeats 8000000 in
theorem s2_loop {f:FuncId} {c:α->α->Int} (hc:z82 K key f c) (H:Nat->Option Arr) (r a m b:Nat) (X:List α) (x:α) (hX:X.length≤1000000) (hm:m≤X.length) (ha:X[m]? = some x)
  (mono:∀ u v,a≤u->u≤v->v < m->key x < kAt key X u->key x < kAt key X v) (Q:XK->St->Prop)
  (hEnd:∀ σ (s:Nat),Cut (fun h=>key x < kAt key X h) a m s s->σ.T 14 = .int .i64 s->SymF K H r f a m b X σ->Q (.exit 4) σ) (k:Nat) (σ:St) (hI:s2I K key H r f a m b X x k σ) :
  run (AFn Try.prog) (z8z Try.prog) (z2d (fun σ'=>∃ m',m' < k∧s2I K key H r f a m b X x m' σ') Q) σ:=by
 obtain ⟨s,e,hC,rfl,t14,t15,⟨t0,t1,t2,t3,t4,hH⟩⟩:=hI
 simp only [z8z]
 have c1:=hC.l0
 have c2:=hC.m0
 have c3:=hC.r0
 by_cases hlt:s < e
 case neg =>
  have hlt':¬ (s:Int) < (e:Int):=by omega
  have he:e = s:=by omega
  subst he
  simp (maxSteps:=9^7) only [go_sem,↓reduceIte,reduceCtorEq,Nat.reduceEqDiff,Nat.reduceBEq,Nat.reduceAdd,Nat.reduceSub,Nat.reduceMul,Nat.reduceLT,Nat.reduceLeDiff,Nat.reduceBNe,Int.reduceBEq,Int.reduceBNe,Int.reduceLT,Int.reduceLE,evW,retM,t14,t15,hlt']
  refine hEnd _ e hC ?_ ⟨?_,?_,?_,?_,?_,?_⟩
  iterate 6 focus ((simp (maxSteps:=9^7) only [go_sem,↓reduceIte,reduceCtorEq,Nat.reduceEqDiff,Nat.reduceBEq,Nat.reduceAdd,Nat.reduceSub,Nat.reduceMul,Nat.reduceLT,Nat.reduceLeDiff,Nat.reduceBNe,Int.reduceBEq,Int.reduceBNe,Int.reduceLT,Int.reduceLE,evW,retM,t14,t0,t1,t2,t3,t4]) <;> rfl)
  ·exact hH
 have hlt':(s:Int) < (e:Int):=by omega
 have w1:IntKind.i64.wrap ((s:Int) + (e:Int)) = (s:Int) + (e:Int):=z0t (by omega)
 have w2:IntKind.u64.wrap ((s:Int) + (e:Int)) = (s:Int) + (e:Int):=wrapU (by omega)
 have fh:=halfI s e
 obtain ⟨h,hh⟩:∃ h,(s + e) / 2 = h:=⟨_,rfl⟩
 rw [hh] at fh
 have h1:s≤h:=by omega
 have h2:h < e:=by omega
 have wh:IntKind.i64.wrap (h:Int) = (h:Int):=z0t (by omega)
 have wi:IntKind.i64.wrap ((h:Int) + 1) = ((h + 1:Nat):Int):=by rw [z0t (by omega)]; rfl
 have lh':h < X.length:=by omega
 have lh:(h:Int) < (X.length:Int):=by omega
 have la':m < X.length:=(List.getElem?_eq_some_iff.1 ha).1
 have la:(m:Int) < (X.length:Int):=by omega
 obtain ⟨y,hy⟩:∃ y,X[h]? = some y:=⟨_,List.getElem?_eq_getElem lh'⟩
 have ga:=atU K ha
 have gy:=atU K hy
 have ky:=zcj key hy
 have hX2:=hH.2
 unfold ObjE Kind15.f at hX2
 have z0:∀ x:Nat,(0:Int)≤(x:Int):=fun x=>Int.natCast_nonneg x
 have hk1:=K.take
 have hk3:=K.len
 have r49:(r + 1000 == 101) = false:=by simp
 have r38:¬ r + 1000 = 90:=by omega
 have r49':¬ r + 1000 = 101:=by omega
 obtain ⟨d1,d2⟩:=hc x y
 simp (maxSteps:=9^7) only [go_sem,↓reduceIte,reduceCtorEq,Nat.reduceEqDiff,Nat.reduceBEq,Nat.reduceAdd,Nat.reduceSub,Nat.reduceMul,Nat.reduceLT,Nat.reduceLeDiff,Nat.reduceBNe,Int.reduceBEq,Int.reduceBNe,Int.reduceLT,Int.reduceLE,evW,retM,t14,t15,hlt',w1,w2,fh,wh,lh,lh',la,la',ga,gy,hX2,z0,hk1,hk3,r49,r38,r49',t0,t1,t2,t3,t4,Int.toNat_natCast,List.length_map]
 refine z01 d1 ?_
 have only':∀ σ':St,(∀ q,1000≤q->σ'.H q = σ.H q)->only K H σ'.H r X:=fun σ' g=>⟨fun q hq=>by rw [g _ (by omega)]; exact hH.1 q hq,by rw [g _ (by omega)]; exact hH.2⟩
 by_cases hl:c x y < 0
 case neg =>
  have hk:¬ key x < key y:=fun h=>hl (d2.2 h)
  simp (maxSteps:=9^7) only [go_sem,↓reduceIte,reduceCtorEq,Nat.reduceEqDiff,Nat.reduceBEq,Nat.reduceAdd,Nat.reduceSub,Nat.reduceMul,Nat.reduceLT,Nat.reduceLeDiff,Nat.reduceBNe,Int.reduceBEq,Int.reduceBNe,Int.reduceLT,Int.reduceLE,evW,retM,hl,wi]
  refine ⟨e - (h + 1),by omega,h + 1,e,Cut.up hC h1 h2 mono (by rw [ky]; exact hk),rfl,?_,?_,?_,?_,?_,?_,?_,?_⟩
  iterate 7 focus ((simp (maxSteps:=9^7) only [go_sem,↓reduceIte,reduceCtorEq,Nat.reduceEqDiff,Nat.reduceBEq,Nat.reduceAdd,Nat.reduceSub,Nat.reduceMul,Nat.reduceLT,Nat.reduceLeDiff,Nat.reduceBNe,Int.reduceBEq,Int.reduceBNe,Int.reduceLT,Int.reduceLE,evW,retM,t15,t0,t1,t2,t3,t4]) <;> rfl)
  ·refine only' _ fun q hq=>?_
   have q1:¬ q = 90:=by omega
   have q2:¬ q = 101:=by omega
   simp (maxSteps:=9^7) only [go_sem,↓reduceIte,reduceCtorEq,Nat.reduceEqDiff,Nat.reduceBEq,Nat.reduceAdd,Nat.reduceSub,Nat.reduceMul,Nat.reduceLT,Nat.reduceLeDiff,Nat.reduceBNe,Int.reduceBEq,Int.reduceBNe,Int.reduceLT,Int.reduceLE,evW,retM,q1,q2]
 have hk:key x < key y:=d2.1 hl
 simp (maxSteps:=9^7) only [go_sem,↓reduceIte,reduceCtorEq,Nat.reduceEqDiff,Nat.reduceBEq,Nat.reduceAdd,Nat.reduceSub,Nat.reduceMul,Nat.reduceLT,Nat.reduceLeDiff,Nat.reduceBNe,Int.reduceBEq,Int.reduceBNe,Int.reduceLT,Int.reduceLE,evW,retM,hl]
 refine ⟨h - s,by omega,s,h,Cut.down hC h1 h2 mono (by rw [ky]; exact hk),rfl,?_,?_,?_,?_,?_,?_,?_,?_⟩
 iterate 7 focus ((simp (maxSteps:=9^7) only [go_sem,↓reduceIte,reduceCtorEq,Nat.reduceEqDiff,Nat.reduceBEq,Nat.reduceAdd,Nat.reduceSub,Nat.reduceMul,Nat.reduceLT,Nat.reduceLeDiff,Nat.reduceBNe,Int.reduceBEq,Int.reduceBNe,Int.reduceLT,Int.reduceLE,evW,retM,t14,t0,t1,t2,t3,t4]) <;> rfl)
 ·refine only' _ fun q hq=>?_
  have q1:¬ q = 90:=by omega
  have q2:¬ q = 101:=by omega
  simp (maxSteps:=9^7) only [go_sem,↓reduceIte,reduceCtorEq,Nat.reduceEqDiff,Nat.reduceBEq,Nat.reduceAdd,Nat.reduceSub,Nat.reduceMul,Nat.reduceLT,Nat.reduceLeDiff,Nat.reduceBNe,Int.reduceBEq,Int.reduceBNe,Int.reduceLT,Int.reduceLE,evW,retM,q1,q2]
def s3I (H:Nat->Option Arr) (r f a m b lo hi mid n:Nat) (X:List α) (k:Nat) (σ:St):Prop :=
 ∃ s e:Nat,Cut (fun c=>kAt key X (n - 1 - c) < kAt key X c) lo hi s e∧k = e - s∧σ.T 20 = .int .i64 s∧σ.T 21 = .int .i64 e∧σ.T 18 = .int .i64 mid∧σ.T 19 = .int .i64 n∧σ.T 22 = .int .i64 ((n - 1:Nat):Int)∧SymF K H r f a m b X σ
set_option maxHeartbeats 8000000 in
theorem s3_loop {f:FuncId} {c:α->α->Int} (hc:z82 K key f c) (H:Nat->Option Arr) (r a m b lo hi mid n:Nat) (X:List α) (hX:X.length≤1000000) (hn:n≤2000000) (hin:∀ u,lo≤u->u < hi->u < X.length∧u≤n - 1∧n - 1 - u < X.length) (hhi:hi≤1000000)
  (mono:∀ u v,lo≤u->u≤v->v < hi->kAt key X (n - 1 - u) < kAt key X u->kAt key X (n - 1 - v) < kAt key X v) (Q:XK->St->Prop)
  (hEnd:∀ σ (s:Nat),Cut (fun c=>kAt key X (n - 1 - c) < kAt key X c) lo hi s s->σ.T 20 = .int .i64 s->σ.T 18 = .int .i64 mid->σ.T 19 = .int .i64 n->SymF K H r f a m b X σ->Q (.exit 8) σ) (k:Nat) (σ:St) (hI:s3I K key H r f a m b lo hi mid n X k σ) :
  run (AFn Try.prog) (z8x Try.prog) (z2d (fun σ'=>∃ m',m' < k∧s3I K key H r f a m b lo hi mid n X m' σ') Q) σ:=by
 obtain ⟨s,e,hC,rfl,t20,t21,t18,t19,t22,⟨t0,t1,t2,t3,t4,hH⟩⟩:=hI
 simp only [z8x]
 have c1:=hC.l0
 have c2:=hC.m0
 have c3:=hC.r0
 by_cases hlt:s < e
 case neg =>
  have hlt':¬ (s:Int) < (e:Int):=by omega
  have he:e = s:=by omega
  subst he
  simp (maxSteps:=9^7) only [go_sem,↓reduceIte,reduceCtorEq,Nat.reduceEqDiff,Nat.reduceBEq,Nat.reduceAdd,Nat.reduceSub,Nat.reduceMul,Nat.reduceLT,Nat.reduceLeDiff,Nat.reduceBNe,Int.reduceBEq,Int.reduceBNe,Int.reduceLT,Int.reduceLE,evW,retM,t20,t21,hlt']
  refine hEnd _ e hC ?_ ?_ ?_ ⟨?_,?_,?_,?_,?_,?_⟩
  iterate 8 focus ((simp (maxSteps:=9^7) only [go_sem,↓reduceIte,reduceCtorEq,Nat.reduceEqDiff,Nat.reduceBEq,Nat.reduceAdd,Nat.reduceSub,Nat.reduceMul,Nat.reduceLT,Nat.reduceLeDiff,Nat.reduceBNe,Int.reduceBEq,Int.reduceBNe,Int.reduceLT,Int.reduceLE,evW,retM,t20,t18,t19,t0,t1,t2,t3,t4]) <;> rfl)
  ·exact hH
 have hlt':(s:Int) < (e:Int):=by omega
 have w1:IntKind.i64.wrap ((s:Int) + (e:Int)) = (s:Int) + (e:Int):=z0t (by omega)
 have w2:IntKind.u64.wrap ((s:Int) + (e:Int)) = (s:Int) + (e:Int):=wrapU (by omega)
 have fh:=halfI s e
 obtain ⟨h,hh⟩:∃ h,(s + e) / 2 = h:=⟨_,rfl⟩
 rw [hh] at fh
 have h1:s≤h:=by omega
 have h2:h < e:=by omega
 obtain ⟨i1,i2,i3⟩:=hin h (by omega) (by omega)
 have wh:IntKind.i64.wrap (h:Int) = (h:Int):=z0t (by omega)
 have wi:IntKind.i64.wrap ((h:Int) + 1) = ((h + 1:Nat):Int):=by rw [z0t (by omega)]; rfl
 have wp:IntKind.i64.wrap (((n - 1:Nat):Int) - (h:Int)) = ((n - 1 - h:Nat):Int):=by rw [z0t (by omega)]; omega
 have lh:(h:Int) < (X.length:Int):=by omega
 obtain ⟨y,hy⟩:∃ y,X[h]? = some y:=⟨_,List.getElem?_eq_getElem i1⟩
 obtain ⟨x,hx⟩:∃ x,X[n - 1 - h]? = some x:=⟨_,List.getElem?_eq_getElem i3⟩
 have gy:=atU K hy
 have gx:=atU K hx
 have ky:=zcj key hy
 have kx:=zcj key hx
 generalize hg:n - 1 - h = g at *
 have lg:(g:Int) < (X.length:Int):=by omega
 have hX2:=hH.2
 unfold ObjE Kind15.f at hX2
 have z0:∀ x:Nat,(0:Int)≤(x:Int):=fun x=>Int.natCast_nonneg x
 have hk1:=K.take
 have hk3:=K.len
 have r49:(r + 1000 == 169) = false:=by simp
 have r38:¬ r + 1000 = 156:=by omega
 have r49':¬ r + 1000 = 169:=by omega
 obtain ⟨d1,d2⟩:=hc x y
 simp (maxSteps:=9^7) only [go_sem,↓reduceIte,reduceCtorEq,Nat.reduceEqDiff,Nat.reduceBEq,Nat.reduceAdd,Nat.reduceSub,Nat.reduceMul,Nat.reduceLT,Nat.reduceLeDiff,Nat.reduceBNe,Int.reduceBEq,Int.reduceBNe,Int.reduceLT,Int.reduceLE,evW,retM,t20,t21,t22,hlt',w1,w2,fh,wh,wp,lh,i1,lg,i3,gx,gy,hX2,z0,hk1,hk3,r49,r38,r49',t0,t1,t2,t3,t4,Int.toNat_natCast,List.length_map]
 refine z01 d1 ?_
 have only':∀ σ':St,(∀ q,1000≤q->σ'.H q = σ.H q)->only K H σ'.H r X:=fun σ' g=>⟨fun q hq=>by rw [g _ (by omega)]; exact hH.1 q hq,by rw [g _ (by omega)]; exact hH.2⟩
 by_cases hl:c x y < 0
 case neg =>
  have hk:¬ key x < key y:=fun h=>hl (d2.2 h)
  simp (maxSteps:=9^7) only [go_sem,↓reduceIte,reduceCtorEq,Nat.reduceEqDiff,Nat.reduceBEq,Nat.reduceAdd,Nat.reduceSub,Nat.reduceMul,Nat.reduceLT,Nat.reduceLeDiff,Nat.reduceBNe,Int.reduceBEq,Int.reduceBNe,Int.reduceLT,Int.reduceLE,evW,retM,hl,wi]
  refine ⟨e - (h + 1),by omega,h + 1,e,Cut.up hC h1 h2 mono (by simp only [hg,ky,kx]; exact hk),rfl,?_,?_,?_,?_,?_,?_,?_,?_,?_,?_,?_⟩
  iterate 10 focus ((simp (maxSteps:=9^7) only [go_sem,↓reduceIte,reduceCtorEq,Nat.reduceEqDiff,Nat.reduceBEq,Nat.reduceAdd,Nat.reduceSub,Nat.reduceMul,Nat.reduceLT,Nat.reduceLeDiff,Nat.reduceBNe,Int.reduceBEq,Int.reduceBNe,Int.reduceLT,Int.reduceLE,evW,retM,t21,t18,t19,t22,t0,t1,t2,t3,t4]) <;> rfl)
  ·refine only' _ fun q hq=>?_
   have q1:¬ q = 156:=by omega
   have q2:¬ q = 169:=by omega
   simp (maxSteps:=9^7) only [go_sem,↓reduceIte,reduceCtorEq,Nat.reduceEqDiff,Nat.reduceBEq,Nat.reduceAdd,Nat.reduceSub,Nat.reduceMul,Nat.reduceLT,Nat.reduceLeDiff,Nat.reduceBNe,Int.reduceBEq,Int.reduceBNe,Int.reduceLT,Int.reduceLE,evW,retM,q1,q2]
 have hk:key x < key y:=d2.1 hl
 simp (maxSteps:=9^7) only [go_sem,↓reduceIte,reduceCtorEq,Nat.reduceEqDiff,Nat.reduceBEq,Nat.reduceAdd,Nat.reduceSub,Nat.reduceMul,Nat.reduceLT,Nat.reduceLeDiff,Nat.reduceBNe,Int.reduceBEq,Int.reduceBNe,Int.reduceLT,Int.reduceLE,evW,retM,hl]
 refine ⟨h - s,by omega,s,h,Cut.down hC h1 h2 mono (by simp only [hg,ky,kx]; exact hk),rfl,?_,?_,?_,?_,?_,?_,?_,?_,?_,?_,?_⟩
 iterate 10 focus ((simp (maxSteps:=9^7) only [go_sem,↓reduceIte,reduceCtorEq,Nat.reduceEqDiff,Nat.reduceBEq,Nat.reduceAdd,Nat.reduceSub,Nat.reduceMul,Nat.reduceLT,Nat.reduceLeDiff,Nat.reduceBNe,Int.reduceBEq,Int.reduceBNe,Int.reduceLT,Int.reduceLE,evW,retM,t20,t18,t19,t22,t0,t1,t2,t3,t4]) <;> rfl)
 ·refine only' _ fun q hq=>?_
  have q1:¬ q = 156:=by omega
  have q2:¬ q = 169:=by omega
  simp (maxSteps:=9^7) only [go_sem,↓reduceIte,reduceCtorEq,Nat.reduceEqDiff,Nat.reduceBEq,Nat.reduceAdd,Nat.reduceSub,Nat.reduceMul,Nat.reduceLT,Nat.reduceLeDiff,Nat.reduceBNe,Int.reduceBEq,Int.reduceBNe,Int.reduceLT,Int.reduceLE,evW,retM,q1,q2]
end
end
section
/-
 Histories: whether pairs,answers,events are one: the code and the document,walked.
-/
open Go.RowKit
attribute [local go_sem ↓] z0s z0g
/-! ### slices.Equal[[]percolate/api.Pair,percolate/api.Pair] -/
def r_peq_0:Reg:=⟨[],[⟨.mv (.c (.bool false)),some 4,none,[],[]⟩],[],[],false⟩
def znw:List ROp:=[⟨.mv (.t 0),some 6,none,[],[]⟩,⟨.len false (.t 6),some 7,none,[],[]⟩,⟨.mv (.t 1),some 8,none,[],[]⟩,⟨.len false (.t 8),some 9,none,[],[]⟩,⟨.bin .neq (.t 7) (.t 9),some 10,none,[],[]⟩]
def r_peq_1:Reg:=⟨[],znw,[],[],false⟩
def r_peq_2:Reg:=⟨[],[⟨.mv (.c (.bool false)),some 4,none,[],[]⟩],[],[],false⟩
def znv:List ROp:=[⟨.mv (.t 0),some 11,none,[],[]⟩,⟨.len false (.t 11),some 12,none,[],[]⟩,⟨.mv (.c (.int .i64 0)),some 13,none,[],[]⟩]
def r_peq_3:Reg:=⟨[],znv,[],[],false⟩
def r_peq_4:Reg:=⟨[],[⟨.bin .lss (.t 13) (.t 12),some 14,none,[],[]⟩],[],[],false⟩
def r_peq_5:Reg:=⟨[],[⟨.mv (.t 13),some 15,none,[],[]⟩,⟨.mv (.t 15),some 5,none,[],[]⟩],[],[],false⟩
def zqm:List ROp:=[⟨.mv (.t 0),some 16,none,[],[]⟩,⟨.mv (.t 5),some 17,none,[],[]⟩,⟨.iaddr 2 (.t 16) (.t 17),some 18,none,[],[]⟩,⟨.load 2 true (.t 18),some 19,none,[],[]⟩,⟨.mv (.t 1),some 20,none,[],[]⟩,⟨.mv (.t 5),some 21,none,[],[]⟩,⟨.iaddr 2 (.t 20) (.t 21),some 22,none,[],[]⟩,⟨.load 2 true (.t 22),some 23,none,[],[]⟩]
def r_peq_6:Reg:=⟨zqm,[⟨.feq true [(0,1),(1,1)] (.t 19) (.t 23),some 24,none,[],[]⟩],[],[],true⟩
def r_peq_7:Reg:=⟨[],[⟨.mv (.c (.bool false)),some 4,none,[],[]⟩],[],[],false⟩
def r_peq_8:Reg:=⟨[],[⟨.bin .add (.t 13) (.c (.int .i64 1)),some 25,none,[],[]⟩,⟨.mv (.t 25),some 13,none,[],[]⟩],[],[],false⟩
def zv0:IR:=(.seq (.reg r_peq_4)
 (.seq (.cond (.t 14) .skip
 (.exit 0))
 (.seq (.block 1 (.seq (.reg r_peq_5)
 (.seq (.reg r_peq_6)
 (.cond (.t 24) (.seq (.reg r_peq_7)
 .ret)
 .skip))))
 (.reg r_peq_8))))
def zv1:Reg:=⟨[],[⟨.mv (.c (.bool true)),some 4,none,[],[]⟩],[],[],false⟩
def ir_peq:IR:=(.seq (.reg r_peq_0)
 (.seq (.seq (.reg r_peq_1)
 (.cond (.t 10) (.seq (.reg r_peq_2)
 .ret)
 .skip))
 (.seq (.seq (.reg r_peq_3)
 (.block 0 (.loop zv0)))
 (.seq (.reg zv1)
 .ret))))
def res_peq:List RDesc:=[(.tmp 4)]
theorem e_peq_0:EqR r_peq_0 [⟨.mv (.c (.bool false)),some 4,none,[],[]⟩] []:=fun _ _ _=>rfl
theorem e_peq_1:EqR r_peq_1 znw []:=fun _ _ _=>rfl
theorem e_peq_2:EqR r_peq_2 [⟨.mv (.c (.bool false)),some 4,none,[],[]⟩] []:=fun _ _ _=>rfl
theorem e_peq_3:EqR r_peq_3 znv []:=fun _ _ _=>rfl
theorem e_peq_4:EqR r_peq_4 [⟨.bin .lss (.t 13) (.t 12),some 14,none,[],[]⟩] []:=fun _ _ _=>rfl
theorem e_peq_5:EqR r_peq_5 [⟨.mv (.t 13),some 15,none,[],[]⟩,⟨.mv (.t 15),some 5,none,[],[]⟩] []:=fun _ _ _=>rfl
theorem e_peq_6 (C:FuncId->List AV->AV->Prop) (σ:St) (K:St->Prop):z0l C r_peq_6 σ K = z0a C [] [⟨.feq true [(0,1),(1,1)] (.t 19) (.t 23),some 24,none,[],[]⟩] zqm (σ.kills []) K:=rfl
theorem e_peq_7:EqR r_peq_7 [⟨.mv (.c (.bool false)),some 4,none,[],[]⟩] []:=fun _ _ _=>rfl
theorem e_peq_8:EqR r_peq_8 [⟨.bin .add (.t 13) (.c (.int .i64 1)),some 25,none,[],[]⟩,⟨.mv (.t 25),some 13,none,[],[]⟩] []:=fun _ _ _=>rfl
theorem e_peq_10:EqR zv1 [⟨.mv (.c (.bool true)),some 4,none,[],[]⟩] []:=fun _ _ _=>rfl
theorem fn_peq {args:List AV} {r:AV} (ha:args.length.ble Try.f52.ntmps = true) (h:run (AFn Try.prog) ir_peq (endQ res_peq r) (z0b args)):AFn Try.prog 52 args r :=
 AFn.of_code (pv:=false) (hint:=fun _=>[]) (c:=Try.f52.body.getD .skip) (by kernel_rfl) (by kernel_rfl) Try.func52 (by kernel_rfl) (by kernel_rfl) (by kernel_rfl) (of_decide_eq_true (by kernel_rfl)) (Nat.le_of_ble_eq_true ha) (Nat.le_of_ble_eq_true (by kernel_rfl)) (z09 h)
/-! ### percolate/percolateref09.Same -/
def r_r9s_0:Reg:=⟨[],[⟨.mv (.c (.bool false)),some 4,none,[],[]⟩],[],[],false⟩
def zn8:List ROp:=[⟨.mv (.t 0),some 6,none,[],[]⟩,⟨.len false (.t 6),some 7,none,[],[]⟩,⟨.mv (.t 1),some 8,none,[],[]⟩,⟨.len false (.t 8),some 9,none,[],[]⟩,⟨.bin .neq (.t 7) (.t 9),some 10,none,[],[]⟩]
def r_r9s_1:Reg:=⟨[],zn8,[],[],false⟩
def r_r9s_2:Reg:=⟨[],[⟨.mv (.c (.bool false)),some 4,none,[],[]⟩],[],[],false⟩
def r_r9s_3:Reg:=⟨[],[⟨.mv (.c (.int .i64 0)),some 5,none,[],[]⟩],[],[],false⟩
def zn7:List ROp:=[⟨.mv (.t 5),some 11,none,[],[]⟩,⟨.mv (.t 0),some 12,none,[],[]⟩,⟨.len false (.t 12),some 13,none,[],[]⟩,⟨.bin .lss (.t 11) (.t 13),some 14,none,[],[]⟩]
def r_r9s_4:Reg:=⟨[],zn7,[],[],false⟩
def zqi:List ROp:=[⟨.mv (.t 0),some 17,none,[],[]⟩,⟨.mv (.t 5),some 18,none,[],[]⟩,⟨.iaddr 2 (.t 17) (.t 18),some 19,none,[],[]⟩,⟨.load 2 true (.t 19),some 20,none,[],[]⟩,⟨.mv (.t 1),some 21,none,[],[]⟩,⟨.mv (.t 5),some 22,none,[],[]⟩,⟨.iaddr 2 (.t 21) (.t 22),some 23,none,[],[]⟩,⟨.load 2 true (.t 23),some 24,none,[],[]⟩]
def r_r9s_5:Reg:=⟨zqi,[⟨.feq true [(0,1),(1,1)] (.t 20) (.t 24),some 25,none,[],[]⟩],[],[],true⟩
def r_r9s_6:Reg:=⟨[],[⟨.mv (.c (.bool false)),some 4,none,[],[]⟩],[],[],false⟩
def zn6:List ROp:=[⟨.mv (.t 5),some 15,none,[],[]⟩,⟨.bin .add (.t 15) (.c (.int .i64 1)),some 16,none,[],[]⟩,⟨.mv (.t 16),some 5,none,[],[]⟩]
def r_r9s_7:Reg:=⟨[],zn6,[],[],false⟩
def zu3:IR:=(.seq (.seq (.reg r_r9s_4)
 (.cond (.t 14) .skip
 (.exit 0)))
 (.seq (.block 1 (.seq (.reg r_r9s_5)
 (.cond (.t 25) (.seq (.reg r_r9s_6)
 .ret)
 .skip)))
 (.reg r_r9s_7)))
def r_r9s_9:Reg:=⟨[],[⟨.mv (.c (.bool true)),some 4,none,[],[]⟩],[],[],false⟩
def ir_r9s:IR:=(.seq (.reg r_r9s_0)
 (.seq (.seq (.reg r_r9s_1)
 (.cond (.t 10) (.seq (.reg r_r9s_2)
 .ret)
 .skip))
 (.seq (.seq (.reg r_r9s_3)
 (.block 0 (.loop zu3)))
 (.seq (.reg r_r9s_9)
 .ret))))
def res_r9s:List RDesc:=[(.tmp 4)]
theorem e_r9s_0:EqR r_r9s_0 [⟨.mv (.c (.bool false)),some 4,none,[],[]⟩] []:=fun _ _ _=>rfl
theorem e_r9s_1:EqR r_r9s_1 zn8 []:=fun _ _ _=>rfl
theorem e_r9s_2:EqR r_r9s_2 [⟨.mv (.c (.bool false)),some 4,none,[],[]⟩] []:=fun _ _ _=>rfl
theorem e_r9s_3:EqR r_r9s_3 [⟨.mv (.c (.int .i64 0)),some 5,none,[],[]⟩] []:=fun _ _ _=>rfl
theorem e_r9s_4:EqR r_r9s_4 zn7 []:=fun _ _ _=>rfl
theorem e_r9s_5 (C:FuncId->List AV->AV->Prop) (σ:St) (K:St->Prop):z0l C r_r9s_5 σ K = z0a C [] [⟨.feq true [(0,1),(1,1)] (.t 20) (.t 24),some 25,none,[],[]⟩] zqi (σ.kills []) K:=rfl
theorem e_r9s_6:EqR r_r9s_6 [⟨.mv (.c (.bool false)),some 4,none,[],[]⟩] []:=fun _ _ _=>rfl
theorem e_r9s_7:EqR r_r9s_7 zn6 []:=fun _ _ _=>rfl
theorem e_r9s_9:EqR r_r9s_9 [⟨.mv (.c (.bool true)),some 4,none,[],[]⟩] []:=fun _ _ _=>rfl
theorem fn_r9s {args:List AV} {r:AV} (ha:args.length.ble Try.f23.ntmps = true) (h:run (AFn Try.prog) ir_r9s (endQ res_r9s r) (z0b args)):AFn Try.prog 23 args r :=
 AFn.of_code (pv:=false) (hint:=fun _=>[]) (c:=Try.f23.body.getD .skip) (by kernel_rfl) (by kernel_rfl) Try.func23 (by kernel_rfl) (by kernel_rfl) (by kernel_rfl) (of_decide_eq_true (by kernel_rfl)) (Nat.le_of_ble_eq_true ha) (Nat.le_of_ble_eq_true (by kernel_rfl)) (z09 h)
/-! ### percolate/model.Same -/
def zkq:Reg:=⟨[],[⟨.mv (.c (.bool false)),some 4,none,[],[]⟩],[],[],false⟩
def zas:List ROp:=[⟨.mv (.t 0),some 5,none,[7],[]⟩,⟨.mv (.t 1),some 6,none,[7],[]⟩,⟨.callv (.c (.clo 52 [] [])) [(.t 5),(.t 6)],some 7,none,[],[]⟩,⟨.mv (.t 7),some 4,none,[],[]⟩]
def zkp:Reg:=⟨[],zas,[7],[],false⟩
def zxo:IR:=(.seq (.reg zkq)
 (.seq (.reg zkp)
 .ret))
def zj0:List RDesc:=[(.tmp 4)]
theorem e_mSame_0:EqR zkq [⟨.mv (.c (.bool false)),some 4,none,[],[]⟩] []:=fun _ _ _=>rfl
theorem e_mSame_1:EqR zkp zas [7]:=fun _ _ _=>rfl
theorem fn_mSame {args:List AV} {r:AV} (ha:args.length.ble Try.f38.ntmps = true) (h:run (AFn Try.prog) zxo (endQ zj0 r) (z0b args)):AFn Try.prog 38 args r :=
 AFn.of_code (pv:=false) (hint:=fun _=>[]) (c:=Try.f38.body.getD .skip) (by kernel_rfl) (by kernel_rfl) Try.func38 (by kernel_rfl) (by kernel_rfl) (by kernel_rfl) (of_decide_eq_true (by kernel_rfl)) (Nat.le_of_ble_eq_true ha) (Nat.le_of_ble_eq_true (by kernel_rfl)) (z09 h)
/-! ### percolate/answer.Same -/
def zb1:List ROp:=[⟨.box 4 30 (.t 0),some 2,none,[3],[]⟩,⟨.box 4 30 (.t 1),some 3,none,[],[]⟩,⟨.mv (.c (.bool false)),some 4,none,[],[]⟩]
def zlc:Reg:=⟨[],zb1,[2,3],[],false⟩
def zb0:List ROp:=[⟨.faddr 0 (.t 2),some 5,none,[29],[]⟩,⟨.load 1 false (.t 5),some 6,none,[29],[]⟩,⟨.faddr 0 (.t 3),some 7,none,[29],[]⟩,⟨.load 1 false (.t 7),some 8,none,[29],[]⟩,⟨.bin .eql (.t 6) (.t 8),some 9,none,[29],[]⟩,⟨.mv (.t 9),some 10,none,[29],[]⟩,⟨.faddr 1 (.t 2),some 11,(some (10,true)),[29],[]⟩,⟨.load 1 false (.t 11),some 12,(some (10,true)),[29],[]⟩,⟨.faddr 1 (.t 3),some 13,(some (10,true)),[29],[]⟩,⟨.load 1 false (.t 13),some 14,(some (10,true)),[29],[]⟩,⟨.beq false (.t 12) (.t 14),some 15,(some (10,true)),[29],[]⟩,⟨.pick (.t 10) (.t 15) (.c (.bool false)),some 16,none,[29],[]⟩,⟨.mv (.t 16),some 17,none,[29],[]⟩,⟨.faddr 2 (.t 2),some 18,(some (17,true)),[29],[]⟩,⟨.load 1 false (.t 18),some 19,(some (17,true)),[29],[]⟩,⟨.faddr 2 (.t 3),some 20,(some (17,true)),[29],[]⟩,⟨.load 1 false (.t 20),some 21,(some (17,true)),[29],[]⟩,⟨.bin .eql (.t 19) (.t 21),some 22,(some (17,true)),[29],[]⟩,⟨.pick (.t 17) (.t 22) (.c (.bool false)),some 23,none,[29],[]⟩,⟨.mv (.t 23),some 24,none,[29],[]⟩,⟨.faddr 3 (.t 2),some 25,(some (24,true)),[29],[]⟩,⟨.load 1 false (.t 25),some 26,(some (24,true)),[29],[]⟩,⟨.faddr 3 (.t 3),some 27,(some (24,true)),[29],[]⟩,⟨.load 1 false (.t 27),some 28,(some (24,true)),[29],[]⟩,⟨.callv (.c (.clo 38 [] [])) [(.t 26),(.t 28)],some 29,(some (24,true)),[],[]⟩,⟨.pick (.t 24) (.t 29) (.c (.bool false)),some 30,none,[],[]⟩,⟨.mv (.t 30),some 4,none,[],[]⟩]
def zlb:Reg:=⟨[],zb0,[29],[],false⟩
def zxr:IR:=(.seq (.reg zlc)
 (.seq (.reg zlb)
 .ret))
def zj3:List RDesc:=[(.tmp 4)]
theorem e_aSame_0:EqR zlc zb1 [2,3]:=fun _ _ _=>rfl
theorem e_aSame_1:EqR zlb zb0 [29]:=fun _ _ _=>rfl
theorem fn_aSame {args:List AV} {r:AV} (ha:args.length.ble Try.f29.ntmps = true) (h:run (AFn Try.prog) zxr (endQ zj3 r) (z0b args)):AFn Try.prog 29 args r :=
 AFn.of_code (pv:=false) (hint:=fun _=>[]) (c:=Try.f29.body.getD .skip) (by kernel_rfl) (by kernel_rfl) Try.func29 (by kernel_rfl) (by kernel_rfl) (by kernel_rfl) (of_decide_eq_true (by kernel_rfl)) (Nat.le_of_ble_eq_true ha) (Nat.le_of_ble_eq_true (by kernel_rfl)) (z09 h)
/-! ### percolate/percolateref10.Same -/
def zge:List ROp:=[⟨.box 4 30 (.t 0),some 2,none,[3],[]⟩,⟨.box 4 30 (.t 1),some 3,none,[],[]⟩,⟨.mv (.c (.bool false)),some 4,none,[],[]⟩]
def zup:Reg:=⟨[],zge,[2,3],[],false⟩
def zgd:List ROp:=[⟨.faddr 0 (.t 2),some 5,none,[29],[]⟩,⟨.load 1 false (.t 5),some 6,none,[29],[]⟩,⟨.faddr 0 (.t 3),some 7,none,[29],[]⟩,⟨.load 1 false (.t 7),some 8,none,[29],[]⟩,⟨.bin .eql (.t 6) (.t 8),some 9,none,[29],[]⟩,⟨.mv (.t 9),some 10,none,[29],[]⟩,⟨.faddr 1 (.t 2),some 11,(some (10,true)),[29],[]⟩,⟨.load 1 false (.t 11),some 12,(some (10,true)),[29],[]⟩,⟨.faddr 1 (.t 3),some 13,(some (10,true)),[29],[]⟩,⟨.load 1 false (.t 13),some 14,(some (10,true)),[29],[]⟩,⟨.beq false (.t 12) (.t 14),some 15,(some (10,true)),[29],[]⟩,⟨.pick (.t 10) (.t 15) (.c (.bool false)),some 16,none,[29],[]⟩,⟨.mv (.t 16),some 17,none,[29],[]⟩,⟨.faddr 2 (.t 2),some 18,(some (17,true)),[29],[]⟩,⟨.load 1 false (.t 18),some 19,(some (17,true)),[29],[]⟩,⟨.faddr 2 (.t 3),some 20,(some (17,true)),[29],[]⟩,⟨.load 1 false (.t 20),some 21,(some (17,true)),[29],[]⟩,⟨.bin .eql (.t 19) (.t 21),some 22,(some (17,true)),[29],[]⟩,⟨.pick (.t 17) (.t 22) (.c (.bool false)),some 23,none,[29],[]⟩,⟨.mv (.t 23),some 24,none,[29],[]⟩,⟨.faddr 3 (.t 2),some 25,(some (24,true)),[29],[]⟩,⟨.load 1 false (.t 25),some 26,(some (24,true)),[29],[]⟩,⟨.faddr 3 (.t 3),some 27,(some (24,true)),[29],[]⟩,⟨.load 1 false (.t 27),some 28,(some (24,true)),[29],[]⟩,⟨.callv (.c (.clo 23 [] [])) [(.t 26),(.t 28)],some 29,(some (24,true)),[],[]⟩,⟨.pick (.t 24) (.t 29) (.c (.bool false)),some 30,none,[],[]⟩,⟨.mv (.t 30),some 4,none,[],[]⟩]
def zuo:Reg:=⟨[],zgd,[29],[],false⟩
def ir_r10s:IR:=(.seq (.reg zup)
 (.seq (.reg zuo)
 .ret))
def zsd:List RDesc:=[(.tmp 4)]
theorem e_r10s_0:EqR zup zge [2,3]:=fun _ _ _=>rfl
theorem e_r10s_1:EqR zuo zgd [29]:=fun _ _ _=>rfl
theorem fn_r10s {args:List AV} {r:AV} (ha:args.length.ble Try.f30.ntmps = true) (h:run (AFn Try.prog) ir_r10s (endQ zsd r) (z0b args)):AFn Try.prog 30 args r :=
 AFn.of_code (pv:=false) (hint:=fun _=>[]) (c:=Try.f30.body.getD .skip) (by kernel_rfl) (by kernel_rfl) Try.func30 (by kernel_rfl) (by kernel_rfl) (by kernel_rfl) (of_decide_eq_true (by kernel_rfl)) (Nat.le_of_ble_eq_true ha) (Nat.le_of_ble_eq_true (by kernel_rfl)) (z09 h)
/-! ### percolate/history.Same -/
/-! ### percolate/percolateref38.Same -/
attribute [local go_sem ↓] ir_peq
attribute [local go_sem] res_peq e_peq_0 e_peq_1 znw e_peq_2 e_peq_3 znv e_peq_4 e_peq_5 e_peq_6 zqm e_peq_7 e_peq_8 e_peq_10
attribute [local go_sem ↓] ir_r9s
attribute [local go_sem] res_r9s e_r9s_0 e_r9s_1 zn8 e_r9s_2 e_r9s_3 e_r9s_4 zn7 e_r9s_5 zqi e_r9s_6 e_r9s_7 zn6 e_r9s_9
attribute [local go_sem ↓] zxo
attribute [local go_sem] zj0 e_mSame_0 e_mSame_1 zas
attribute [local go_sem ↓] zxr
attribute [local go_sem] zj3 e_aSame_0 zb1 e_aSame_1 zb0
attribute [local go_sem ↓] ir_r10s
attribute [local go_sem] zsd e_r10s_0 zge e_r10s_1 zgd
def eqP (a b:Par):Bool:=(a.key.toList == b.key.toList) && (a.val.toList == b.val.toList)
def eqPs:List Par->List Par->Bool
 | [],[]=>true
 | x :: a,y :: b=>eqP x y && eqPs a b
 | _,_=>false
theorem zhw:∀ (a b:List Par),a.length ≠ b.length->eqPs a b = false
 | [],[],h=>absurd rfl h
 | [],y :: b,_=>rfl
 | x :: a,[],_=>rfl
 | x :: a,y :: b,h=>by
  rw [eqPs,zhw a b (fun e=>h (by rw [List.length_cons,List.length_cons,e])),Bool.and_false]
def peqInv (a b:List Par) (R:Bool) (k:Nat) (σ:St):Prop :=
 ∃ j:Nat,j≤a.length∧k = a.length - j∧σ.T 0 = .sl (a.map Par.a)∧σ.T 1 = .sl (b.map Par.a)∧σ.T 13 = .int .i64 j∧σ.T 12 = .int .i64 a.length∧eqPs (a.drop j) (b.drop j) = R
set_option maxHeartbeats 1000000 in
theorem peq_ok (a b:List Par) (ha:a.length≤1000000000) (hb:b.length≤1000000000):AFn Try.prog 52 [.sl (a.map Par.a),.sl (b.map Par.a)] (.bool (eqPs a b)):=by
 refine fn_peq rfl ?_
 by_cases hl:a.length = b.length
 case neg =>
  have hl':(((a.length:Nat):Int) != ((b.length:Nat):Int)) = true:=by simp; omega
  rw [zhw a b hl]
  simp (maxSteps:=9^7) only [go_sem,↓reduceIte,reduceCtorEq,Nat.reduceEqDiff,Nat.reduceBEq,Nat.reduceAdd,Nat.reduceSub,Nat.reduceMul,Nat.reduceLT,Nat.reduceLeDiff,Nat.reduceBNe,Int.reduceBEq,Int.reduceBNe,Int.reduceLT,Int.reduceLE,Par.a,Opr.a,Ans.a,Evt.a,nul,hl',List.length_map]
 have hl':(((a.length:Nat):Int) != ((b.length:Nat):Int)) = false:=by simp; omega
 obtain ⟨R,hR⟩:∃ R,eqPs a b = R:=⟨_,rfl⟩
 rw [hR]
 simp (maxSteps:=9^7) only [go_sem,↓reduceIte,reduceCtorEq,Nat.reduceEqDiff,Nat.reduceBEq,Nat.reduceAdd,Nat.reduceSub,Nat.reduceMul,Nat.reduceLT,Nat.reduceLeDiff,Nat.reduceBNe,Int.reduceBEq,Int.reduceBNe,Int.reduceLT,Int.reduceLE,Par.a,Opr.a,Ans.a,Evt.a,nul,hl',List.length_map]
 refine z0f (peqInv a b R) (k:=a.length) ⟨0,by omega,rfl,?_,?_,?_,?_,hR⟩ ?_
 iterate 4 focus ((simp (maxSteps:=9^7) only [go_sem,↓reduceIte,reduceCtorEq,Nat.reduceEqDiff,Nat.reduceBEq,Nat.reduceAdd,Nat.reduceSub,Nat.reduceMul,Nat.reduceLT,Nat.reduceLeDiff,Nat.reduceBNe,Int.reduceBEq,Int.reduceBNe,Int.reduceLT,Int.reduceLE,Par.a,Opr.a,Ans.a,Evt.a,nul,List.length_map]) <;> rfl)
 clear hR
 rintro k σ ⟨j,hj,rfl,t0,t1,t5,t8,hr⟩
 simp only [zv0]
 by_cases hlt:j < a.length
 case neg =>
  have hlt':¬ (j:Int) < (a.length:Int):=by omega
  rw [List.drop_eq_nil_of_le (by omega),List.drop_eq_nil_of_le (by omega),eqPs] at hr
  subst hr
  simp (maxSteps:=9^7) only [go_sem,↓reduceIte,reduceCtorEq,Nat.reduceEqDiff,Nat.reduceBEq,Nat.reduceAdd,Nat.reduceSub,Nat.reduceMul,Nat.reduceLT,Nat.reduceLeDiff,Nat.reduceBNe,Int.reduceBEq,Int.reduceBNe,Int.reduceLT,Int.reduceLE,Par.a,Opr.a,Ans.a,Evt.a,nul,t0,t1,t5,t8,hlt',List.length_map]
 have hlt':(j:Int) < (a.length:Int):=by omega
 have hlt2:j < b.length:=by omega
 obtain ⟨x,hx⟩:=z1w hlt
 obtain ⟨y,hy⟩:=z1w hlt2
 have hgx:=z1b (f:=Par.a) hx
 have hgy:=z1b (f:=Par.a) hy
 simp only [Par.a] at hgx hgy
 have hw:=z5s (j:=j) (by omega)
 rw [z9b hx,z9b hy,eqPs] at hr
 unfold eqP at hr
 cases q1:x.key.toList == y.key.toList <;> cases q2:x.val.toList == y.val.toList <;> rw [q1,q2] at hr
 case true.true =>
  rw [Bool.and_self,Bool.true_and] at hr
  simp (maxSteps:=9^7) only [go_sem,↓reduceIte,reduceCtorEq,Nat.reduceEqDiff,Nat.reduceBEq,Nat.reduceAdd,Nat.reduceSub,Nat.reduceMul,Nat.reduceLT,Nat.reduceLeDiff,Nat.reduceBNe,Int.reduceBEq,Int.reduceBNe,Int.reduceLT,Int.reduceLE,Par.a,Opr.a,Ans.a,Evt.a,nul,t0,t1,t5,t8,hlt',hgx,hgy,q1,q2,hw,hlt,hlt2,List.length_map,Int.toNat_natCast]
  (repeat refine And.intro (by omega) ?_)
  refine ⟨a.length - (j + 1),by omega,j + 1,by omega,rfl,?_,?_,?_,?_,hr⟩
  iterate 4 focus ((simp (maxSteps:=9^7) only [go_sem,↓reduceIte,reduceCtorEq,Nat.reduceEqDiff,Nat.reduceBEq,Nat.reduceAdd,Nat.reduceSub,Nat.reduceMul,Nat.reduceLT,Nat.reduceLeDiff,Nat.reduceBNe,Int.reduceBEq,Int.reduceBNe,Int.reduceLT,Int.reduceLE,Par.a,Opr.a,Ans.a,Evt.a,nul,t0,t1,hw,t8]) <;> rfl)
 all_goals
  simp only [Bool.and_false,Bool.false_and,Bool.and_true,Bool.and_self] at hr
  subst hr
  simp (maxSteps:=9^7) only [go_sem,↓reduceIte,reduceCtorEq,Nat.reduceEqDiff,Nat.reduceBEq,Nat.reduceAdd,Nat.reduceSub,Nat.reduceMul,Nat.reduceLT,Nat.reduceLeDiff,Nat.reduceBNe,Int.reduceBEq,Int.reduceBNe,Int.reduceLT,Int.reduceLE,Par.a,Opr.a,Ans.a,Evt.a,nul,t0,t1,t5,t8,hlt',hgx,hgy,q1,q2,hlt,hlt2,List.length_map,Int.toNat_natCast]
  all_goals omega
def r9sInv (a b:List Par) (R:Bool) (k:Nat) (σ:St):Prop :=
 ∃ j:Nat,j≤a.length∧k = a.length - j∧σ.T 0 = .sl (a.map Par.a)∧σ.T 1 = .sl (b.map Par.a)∧σ.T 5 = .int .i64 j∧eqPs (a.drop j) (b.drop j) = R
set_option maxHeartbeats 1000000 in
theorem r9s_ok (a b:List Par) (ha:a.length≤1000000000) (hb:b.length≤1000000000):AFn Try.prog 23 [.sl (a.map Par.a),.sl (b.map Par.a)] (.bool (eqPs a b)):=by
 refine fn_r9s rfl ?_
 by_cases hl:a.length = b.length
 case neg =>
  have hl':(((a.length:Nat):Int) != ((b.length:Nat):Int)) = true:=by simp; omega
  rw [zhw a b hl]
  simp (maxSteps:=9^7) only [go_sem,↓reduceIte,reduceCtorEq,Nat.reduceEqDiff,Nat.reduceBEq,Nat.reduceAdd,Nat.reduceSub,Nat.reduceMul,Nat.reduceLT,Nat.reduceLeDiff,Nat.reduceBNe,Int.reduceBEq,Int.reduceBNe,Int.reduceLT,Int.reduceLE,Par.a,Opr.a,Ans.a,Evt.a,nul,hl',List.length_map]
 have hl':(((a.length:Nat):Int) != ((b.length:Nat):Int)) = false:=by simp; omega
 obtain ⟨R,hR⟩:∃ R,eqPs a b = R:=⟨_,rfl⟩
 rw [hR]
 simp (maxSteps:=9^7) only [go_sem,↓reduceIte,reduceCtorEq,Nat.reduceEqDiff,Nat.reduceBEq,Nat.reduceAdd,Nat.reduceSub,Nat.reduceMul,Nat.reduceLT,Nat.reduceLeDiff,Nat.reduceBNe,Int.reduceBEq,Int.reduceBNe,Int.reduceLT,Int.reduceLE,Par.a,Opr.a,Ans.a,Evt.a,nul,hl',List.length_map]
 refine z0f (r9sInv a b R) (k:=a.length) ⟨0,by omega,rfl,?_,?_,?_,hR⟩ ?_
 iterate 3 focus ((simp (maxSteps:=9^7) only [go_sem,↓reduceIte,reduceCtorEq,Nat.reduceEqDiff,Nat.reduceBEq,Nat.reduceAdd,Nat.reduceSub,Nat.reduceMul,Nat.reduceLT,Nat.reduceLeDiff,Nat.reduceBNe,Int.reduceBEq,Int.reduceBNe,Int.reduceLT,Int.reduceLE,Par.a,Opr.a,Ans.a,Evt.a,nul]) <;> rfl)
 clear hR
 rintro k σ ⟨j,hj,rfl,t0,t1,t5,hr⟩
 simp only [zu3]
 by_cases hlt:j < a.length
 case neg =>
  have hlt':¬ (j:Int) < (a.length:Int):=by omega
  rw [List.drop_eq_nil_of_le (by omega),List.drop_eq_nil_of_le (by omega),eqPs] at hr
  subst hr
  simp (maxSteps:=9^7) only [go_sem,↓reduceIte,reduceCtorEq,Nat.reduceEqDiff,Nat.reduceBEq,Nat.reduceAdd,Nat.reduceSub,Nat.reduceMul,Nat.reduceLT,Nat.reduceLeDiff,Nat.reduceBNe,Int.reduceBEq,Int.reduceBNe,Int.reduceLT,Int.reduceLE,Par.a,Opr.a,Ans.a,Evt.a,nul,t0,t1,t5,hlt',List.length_map]
 have hlt':(j:Int) < (a.length:Int):=by omega
 have hlt2:j < b.length:=by omega
 obtain ⟨x,hx⟩:=z1w hlt
 obtain ⟨y,hy⟩:=z1w hlt2
 have hgx:=z1b (f:=Par.a) hx
 have hgy:=z1b (f:=Par.a) hy
 simp only [Par.a] at hgx hgy
 have hw:=z5s (j:=j) (by omega)
 rw [z9b hx,z9b hy,eqPs] at hr
 unfold eqP at hr
 cases q1:x.key.toList == y.key.toList <;> cases q2:x.val.toList == y.val.toList <;> rw [q1,q2] at hr
 case true.true =>
  rw [Bool.and_self,Bool.true_and] at hr
  simp (maxSteps:=9^7) only [go_sem,↓reduceIte,reduceCtorEq,Nat.reduceEqDiff,Nat.reduceBEq,Nat.reduceAdd,Nat.reduceSub,Nat.reduceMul,Nat.reduceLT,Nat.reduceLeDiff,Nat.reduceBNe,Int.reduceBEq,Int.reduceBNe,Int.reduceLT,Int.reduceLE,Par.a,Opr.a,Ans.a,Evt.a,nul,t0,t1,t5,hlt',hgx,hgy,q1,q2,hw,hlt,hlt2,List.length_map,Int.toNat_natCast]
  (repeat refine And.intro (by omega) ?_)
  refine ⟨a.length - (j + 1),by omega,j + 1,by omega,rfl,?_,?_,?_,hr⟩
  iterate 3 focus ((simp (maxSteps:=9^7) only [go_sem,↓reduceIte,reduceCtorEq,Nat.reduceEqDiff,Nat.reduceBEq,Nat.reduceAdd,Nat.reduceSub,Nat.reduceMul,Nat.reduceLT,Nat.reduceLeDiff,Nat.reduceBNe,Int.reduceBEq,Int.reduceBNe,Int.reduceLT,Int.reduceLE,Par.a,Opr.a,Ans.a,Evt.a,nul,t0,t1,hw]) <;> rfl)
 all_goals
  simp only [Bool.and_false,Bool.false_and,Bool.and_true,Bool.and_self] at hr
  subst hr
  simp (maxSteps:=9^7) only [go_sem,↓reduceIte,reduceCtorEq,Nat.reduceEqDiff,Nat.reduceBEq,Nat.reduceAdd,Nat.reduceSub,Nat.reduceMul,Nat.reduceLT,Nat.reduceLeDiff,Nat.reduceBNe,Int.reduceBEq,Int.reduceBNe,Int.reduceLT,Int.reduceLE,Par.a,Opr.a,Ans.a,Evt.a,nul,t0,t1,t5,hlt',hgx,hgy,q1,q2,hlt,hlt2,List.length_map,Int.toNat_natCast]
  all_goals omega
theorem mSame_ok (a b:List Par) (ha:a.length≤1000000000) (hb:b.length≤1000000000):AFn Try.prog 38 [.sl (a.map Par.a),.sl (b.map Par.a)] (.bool (eqPs a b)):=by
 refine fn_mSame rfl ?_
 have c:=peq_ok a b ha hb
 (repeat (first | simp (maxSteps:=9^7) only [go_sem,↓reduceIte,reduceCtorEq,Nat.reduceEqDiff,Nat.reduceBEq,Nat.reduceAdd,Nat.reduceSub,Nat.reduceMul,Nat.reduceLT,Nat.reduceLeDiff,Nat.reduceBNe,Int.reduceBEq,Int.reduceBNe,Int.reduceLT,Int.reduceLE,Par.a,Opr.a,Ans.a,Evt.a,nul] | refine z01 (c) ?_ | refine z00 (c) ?_ | refine And.intro (by omega) ?_ | refine And.intro (fun d hd=>by (repeat (rcases hd with rfl | hd; · exact ⟨rfl,rfl⟩)); cases hd) ?_))
def ansB (a b:Ans):Bool:=(a.err == b.err) && ((a.has == b.has) && ((a.val.toList == b.val.toList) && eqPs a.prs b.prs))
theorem zy9 (a b:Ans) (ha:a.prs.length≤1000000000) (hb:b.prs.length≤1000000000):AFn Try.prog 29 [a.a,b.a] (.bool (ansB a b)):=by
 refine fn_aSame rfl ?_
 have c:=mSame_ok a.prs b.prs ha hb
 unfold ansB
 simp only [Ans.a]
 generalize eqPs a.prs b.prs = r at *
 cases q1:a.err == b.err
 ·(repeat (first | simp (maxSteps:=9^7) only [go_sem,↓reduceIte,reduceCtorEq,Nat.reduceEqDiff,Nat.reduceBEq,Nat.reduceAdd,Nat.reduceSub,Nat.reduceMul,Nat.reduceLT,Nat.reduceLeDiff,Nat.reduceBNe,Int.reduceBEq,Int.reduceBNe,Int.reduceLT,Int.reduceLE,Par.a,Opr.a,Ans.a,Evt.a,nul,q1,Bool.false_and] | refine z01 (c) ?_ | refine z00 (c) ?_ | refine And.intro (by omega) ?_ | refine And.intro (fun d hd=>by (repeat (rcases hd with rfl | hd; · exact ⟨rfl,rfl⟩)); cases hd) ?_))
 cases q2:a.has == b.has
 ·(repeat (first | simp (maxSteps:=9^7) only [go_sem,↓reduceIte,reduceCtorEq,Nat.reduceEqDiff,Nat.reduceBEq,Nat.reduceAdd,Nat.reduceSub,Nat.reduceMul,Nat.reduceLT,Nat.reduceLeDiff,Nat.reduceBNe,Int.reduceBEq,Int.reduceBNe,Int.reduceLT,Int.reduceLE,Par.a,Opr.a,Ans.a,Evt.a,nul,q1,q2,Bool.false_and] | refine z01 (c) ?_ | refine z00 (c) ?_ | refine And.intro (by omega) ?_ | refine And.intro (fun d hd=>by (repeat (rcases hd with rfl | hd; · exact ⟨rfl,rfl⟩)); cases hd) ?_))
 cases q3:a.val.toList == b.val.toList
 ·(repeat (first | simp (maxSteps:=9^7) only [go_sem,↓reduceIte,reduceCtorEq,Nat.reduceEqDiff,Nat.reduceBEq,Nat.reduceAdd,Nat.reduceSub,Nat.reduceMul,Nat.reduceLT,Nat.reduceLeDiff,Nat.reduceBNe,Int.reduceBEq,Int.reduceBNe,Int.reduceLT,Int.reduceLE,Par.a,Opr.a,Ans.a,Evt.a,nul,q1,q2,q3,Bool.false_and] | refine z01 (c) ?_ | refine z00 (c) ?_ | refine And.intro (by omega) ?_ | refine And.intro (fun d hd=>by (repeat (rcases hd with rfl | hd; · exact ⟨rfl,rfl⟩)); cases hd) ?_))
 (repeat (first | simp (maxSteps:=9^7) only [go_sem,↓reduceIte,reduceCtorEq,Nat.reduceEqDiff,Nat.reduceBEq,Nat.reduceAdd,Nat.reduceSub,Nat.reduceMul,Nat.reduceLT,Nat.reduceLeDiff,Nat.reduceBNe,Int.reduceBEq,Int.reduceBNe,Int.reduceLT,Int.reduceLE,Par.a,Opr.a,Ans.a,Evt.a,nul,q1,q2,q3,Bool.true_and] | refine z01 (c) ?_ | refine z00 (c) ?_ | refine And.intro (by omega) ?_ | refine And.intro (fun d hd=>by (repeat (rcases hd with rfl | hd; · exact ⟨rfl,rfl⟩)); cases hd) ?_))
theorem r10s_ok (a b:Ans) (ha:a.prs.length≤1000000000) (hb:b.prs.length≤1000000000):AFn Try.prog 30 [a.a,b.a] (.bool (ansB a b)):=by
 refine fn_r10s rfl ?_
 have c:=r9s_ok a.prs b.prs ha hb
 unfold ansB
 simp only [Ans.a]
 generalize eqPs a.prs b.prs = r at *
 cases q1:a.err == b.err
 ·(repeat (first | simp (maxSteps:=9^7) only [go_sem,↓reduceIte,reduceCtorEq,Nat.reduceEqDiff,Nat.reduceBEq,Nat.reduceAdd,Nat.reduceSub,Nat.reduceMul,Nat.reduceLT,Nat.reduceLeDiff,Nat.reduceBNe,Int.reduceBEq,Int.reduceBNe,Int.reduceLT,Int.reduceLE,Par.a,Opr.a,Ans.a,Evt.a,nul,q1,Bool.false_and] | refine z01 (c) ?_ | refine z00 (c) ?_ | refine And.intro (by omega) ?_ | refine And.intro (fun d hd=>by (repeat (rcases hd with rfl | hd; · exact ⟨rfl,rfl⟩)); cases hd) ?_))
 cases q2:a.has == b.has
 ·(repeat (first | simp (maxSteps:=9^7) only [go_sem,↓reduceIte,reduceCtorEq,Nat.reduceEqDiff,Nat.reduceBEq,Nat.reduceAdd,Nat.reduceSub,Nat.reduceMul,Nat.reduceLT,Nat.reduceLeDiff,Nat.reduceBNe,Int.reduceBEq,Int.reduceBNe,Int.reduceLT,Int.reduceLE,Par.a,Opr.a,Ans.a,Evt.a,nul,q1,q2,Bool.false_and] | refine z01 (c) ?_ | refine z00 (c) ?_ | refine And.intro (by omega) ?_ | refine And.intro (fun d hd=>by (repeat (rcases hd with rfl | hd; · exact ⟨rfl,rfl⟩)); cases hd) ?_))
 cases q3:a.val.toList == b.val.toList
 ·(repeat (first | simp (maxSteps:=9^7) only [go_sem,↓reduceIte,reduceCtorEq,Nat.reduceEqDiff,Nat.reduceBEq,Nat.reduceAdd,Nat.reduceSub,Nat.reduceMul,Nat.reduceLT,Nat.reduceLeDiff,Nat.reduceBNe,Int.reduceBEq,Int.reduceBNe,Int.reduceLT,Int.reduceLE,Par.a,Opr.a,Ans.a,Evt.a,nul,q1,q2,q3,Bool.false_and] | refine z01 (c) ?_ | refine z00 (c) ?_ | refine And.intro (by omega) ?_ | refine And.intro (fun d hd=>by (repeat (rcases hd with rfl | hd; · exact ⟨rfl,rfl⟩)); cases hd) ?_))
 (repeat (first | simp (maxSteps:=9^7) only [go_sem,↓reduceIte,reduceCtorEq,Nat.reduceEqDiff,Nat.reduceBEq,Nat.reduceAdd,Nat.reduceSub,Nat.reduceMul,Nat.reduceLT,Nat.reduceLeDiff,Nat.reduceBNe,Int.reduceBEq,Int.reduceBNe,Int.reduceLT,Int.reduceLE,Par.a,Opr.a,Ans.a,Evt.a,nul,q1,q2,q3,Bool.true_and] | refine z01 (c) ?_ | refine z00 (c) ?_ | refine And.intro (by omega) ?_ | refine And.intro (fun d hd=>by (repeat (rcases hd with rfl | hd; · exact ⟨rfl,rfl⟩)); cases hd) ?_))
end
end Go.Proofs.Ytolocaankfcjiaa
