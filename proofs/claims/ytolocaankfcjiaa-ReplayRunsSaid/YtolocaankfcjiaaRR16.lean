/-
  Part 16 of a proof: HsG, StN, RyL, RyM, RyR, RyS, NdB.
-/
import Derived.Test.YtolocaankfcjiaaRR15
set_option linter.unusedVariables false
set_option linter.unusedSimpArgs false
set_option maxRecDepth 100000
namespace Go.Proofs.Ytolocaankfcjiaa
section
/-
 Histories: what is done,by its points,by the document: walked.
-/
open Go.RowKit
attribute [local go_sem ↓] z0s z0g
/-! ### percolate/percolateref38.Points -/
def ztq:Reg:=⟨[],[⟨.mknil 15 32,some 2,none,[],[]⟩],[2],[],false⟩
def ztp:Reg:=⟨[],[⟨.mknil 15 32,some 3,none,[],[]⟩],[3],[],false⟩
def zfw:List ROp:=[⟨.mv (.t 0),some 7,none,[9],[]⟩,⟨.len false (.t 7),some 8,none,[9],[]⟩,⟨.call 2 [(.c (.int .i64 1)),(.c (.int .i64 1)),(.c (.int .i64 4)),(.c (.bool false)),(.t 8)],some 9,none,[],[]⟩,⟨.mv (.t 9),some 4,none,[],[]⟩]
def zto:Reg:=⟨[],zfw,[9],[],false⟩
def ztn:Reg:=⟨[],[⟨.mv (.c (.int .i64 (-1))),some 5,none,[],[]⟩],[],[],false⟩
def ztm:Reg:=⟨[],[⟨.mv (.c (.int .i64 0)),some 6,none,[],[]⟩],[],[],false⟩
def zfv:List ROp:=[⟨.mv (.t 6),some 10,none,[],[]⟩,⟨.mv (.t 0),some 11,none,[],[]⟩,⟨.len false (.t 11),some 12,none,[],[]⟩,⟨.bin .lss (.t 10) (.t 12),some 13,none,[],[]⟩]
def ztl:Reg:=⟨[],zfv,[],[],false⟩
def zfu:List ROp:=[⟨.bin .lss (.t 36) (.t 41),some 42,(some (31,false)),[],[]⟩,⟨.pick (.t 31) (.c (.bool true)) (.t 42),some 43,(some (28,true)),[],[]⟩,⟨.pick (.t 28) (.t 43) (.c (.bool false)),some 44,none,[],[]⟩]
def zhn:List ROp:=[⟨.mv (.t 0),some 16,none,[],[]⟩,⟨.mv (.t 6),some 17,none,[],[]⟩,⟨.iaddr 15 (.t 16) (.t 17),some 18,none,[],[]⟩,⟨.faddr 14 (.t 18),some 19,none,[],[]⟩,⟨.load 1 false (.t 19),some 20,none,[],[]⟩,⟨.mv (.t 20),some 21,none,[],[]⟩,⟨.mv (.t 4),some 22,(some (21,true)),[],[]⟩,⟨.mv (.t 6),some 23,(some (21,true)),[],[]⟩,⟨.iaddr 1 (.t 22) (.t 23),some 24,(some (21,true)),[],[]⟩,⟨.load 1 false (.t 24),some 25,(some (21,true)),[],[]⟩,⟨.un .not (.t 25),some 26,(some (21,true)),[],[]⟩,⟨.pick (.t 21) (.t 26) (.c (.bool false)),some 27,none,[],[]⟩,⟨.mv (.t 27),some 28,none,[],[]⟩,⟨.mv (.t 5),some 29,(some (28,true)),[],[]⟩,⟨.bin .lss (.t 29) (.c (.int .i64 0)),some 30,(some (28,true)),[],[]⟩,⟨.mv (.t 30),some 31,(some (28,true)),[],[]⟩,⟨.mv (.t 0),some 32,(some (31,false)),[],[]⟩,⟨.mv (.t 6),some 33,(some (31,false)),[],[]⟩,⟨.iaddr 15 (.t 32) (.t 33),some 34,(some (31,false)),[],[]⟩,⟨.faddr 12 (.t 34),some 35,(some (31,false)),[],[]⟩,⟨.load 1 false (.t 35),some 36,(some (31,false)),[],[]⟩,⟨.mv (.t 0),some 37,(some (31,false)),[],[]⟩,⟨.mv (.t 5),some 38,(some (31,false)),[],[]⟩,⟨.iaddr 15 (.t 37) (.t 38),some 39,(some (31,false)),[],[]⟩,⟨.faddr 12 (.t 39),some 40,(some (31,false)),[],[]⟩,⟨.load 1 false (.t 40),some 41,(some (31,false)),[],[]⟩]
def ztk:Reg:=⟨zhn,zfu,[],[],true⟩
def ztj:Reg:=⟨[],[⟨.mv (.t 6),some 45,none,[],[]⟩,⟨.mv (.t 45),some 5,none,[],[]⟩],[],[],false⟩
def zft:List ROp:=[⟨.mv (.t 6),some 14,none,[],[]⟩,⟨.bin .add (.t 14) (.c (.int .i64 1)),some 15,none,[],[]⟩,⟨.mv (.t 15),some 6,none,[],[]⟩]
def zti:Reg:=⟨[],zft,[],[],false⟩
def zbh:IR:=(.seq (.seq (.reg ztl)
 (.cond (.t 13) .skip
 (.exit 2)))
 (.seq (.block 3 (.seq (.reg ztk)
 (.cond (.t 44) (.reg ztj)
 .skip)))
 (.reg zti)))
def zk3:Reg:=⟨[],[⟨.mv (.t 5),some 46,none,[],[]⟩,⟨.bin .lss (.t 46) (.c (.int .i64 0)),some 47,none,[],[]⟩],[],[],false⟩
def zk2:Reg:=⟨[],[⟨.mv (.t 3),some 48,none,[],[]⟩,⟨.mv (.t 48),some 2,none,[],[]⟩],[],[],false⟩
def zag:List ROp:=[⟨.mv (.t 4),some 49,none,[],[]⟩,⟨.mv (.t 5),some 50,none,[],[]⟩,⟨.iaddr 1 (.t 49) (.t 50),some 51,none,[],[]⟩,⟨.store 1 (.t 51) (.c (.bool true)),none,none,[],[]⟩]
def zk1:Reg:=⟨[],zag,[],[],false⟩
def zaf:List ROp:=[⟨.mv (.t 3),some 52,none,[57],[]⟩,⟨.mv (.t 0),some 53,none,[57],[]⟩,⟨.mv (.t 5),some 54,none,[57],[]⟩,⟨.iaddr 15 (.t 53) (.t 54),some 55,none,[57],[]⟩,⟨.load 15 true (.t 55),some 56,none,[57],[]⟩,⟨.bsl 15 32 [(.t 56)],some 57,none,[],[]⟩,⟨.append 15 32 168 (.t 52) (.t 57),some 58,none,[],[]⟩,⟨.mv (.t 58),some 3,none,[],[]⟩]
def zk0:Reg:=⟨[],zaf,[57],[],false⟩
def ze3:IR:=(.block 1 (.seq (.reg ztn)
 (.seq (.seq (.reg ztm)
 (.block 2 (.loop zbh)))
 (.seq (.seq (.reg zk3)
 (.cond (.t 47) (.seq (.reg zk2)
 .ret)
 .skip))
 (.seq (.reg zk1)
 (.reg zk0))))))
def ir_rPts:IR:=(.seq (.reg ztq)
 (.seq (.reg ztp)
 (.seq (.reg zto)
 (.block 0 (.loop ze3)))))
def zs9:List RDesc:=[(.tmp 2)]
theorem e_rPts_0:EqR ztq [⟨.mknil 15 32,some 2,none,[],[]⟩] [2]:=fun _ _ _=>rfl
theorem e_rPts_1:EqR ztp [⟨.mknil 15 32,some 3,none,[],[]⟩] [3]:=fun _ _ _=>rfl
theorem e_rPts_2:EqR zto zfw [9]:=fun _ _ _=>rfl
theorem e_rPts_3:EqR ztn [⟨.mv (.c (.int .i64 (-1))),some 5,none,[],[]⟩] []:=fun _ _ _=>rfl
theorem e_rPts_4:EqR ztm [⟨.mv (.c (.int .i64 0)),some 6,none,[],[]⟩] []:=fun _ _ _=>rfl
theorem e_rPts_5:EqR ztl zfv []:=fun _ _ _=>rfl
theorem e_rPts_6 (C:FuncId->List AV->AV->Prop) (σ:St) (K:St->Prop):z0l C ztk σ K = z0a C [] zfu zhn (σ.kills []) K:=rfl
theorem e_rPts_7:EqR ztj [⟨.mv (.t 6),some 45,none,[],[]⟩,⟨.mv (.t 45),some 5,none,[],[]⟩] []:=fun _ _ _=>rfl
theorem e_rPts_8:EqR zti zft []:=fun _ _ _=>rfl
theorem e_rPts_10:EqR zk3 [⟨.mv (.t 5),some 46,none,[],[]⟩,⟨.bin .lss (.t 46) (.c (.int .i64 0)),some 47,none,[],[]⟩] []:=fun _ _ _=>rfl
theorem e_rPts_11:EqR zk2 [⟨.mv (.t 3),some 48,none,[],[]⟩,⟨.mv (.t 48),some 2,none,[],[]⟩] []:=fun _ _ _=>rfl
theorem e_rPts_12:EqR zk1 zag []:=fun _ _ _=>rfl
theorem e_rPts_13:EqR zk0 zaf [57]:=fun _ _ _=>rfl
theorem fn_rPts {args:List AV} {r:AV} (ha:args.length.ble Try.f17.ntmps = true) (h:run (AFn Try.prog) ir_rPts (endQ zs9 r) (z0b args)):AFn Try.prog 17 args r :=
 AFn.of_code (pv:=false) (hint:=fun _=>[]) (c:=Try.f17.body.getD .skip) (by kernel_rfl) (by kernel_rfl) Try.func17 (by kernel_rfl) (by kernel_rfl) (by kernel_rfl) (of_decide_eq_true (by kernel_rfl)) (Nat.le_of_ble_eq_true ha) (Nat.le_of_ble_eq_true (by kernel_rfl)) (z09 h)
attribute [local go_sem ↓] ir_rPts
attribute [local go_sem] zs9 e_rPts_0 e_rPts_1 e_rPts_2 zfw e_rPts_3 e_rPts_4 e_rPts_5 zfv e_rPts_6 zfu zhn e_rPts_7 e_rPts_8 zft e_rPts_10 e_rPts_11 e_rPts_12 zag e_rPts_13 zaf
def ptsF (l:List Evt):List Evt:=srt Evt.point (l.filter Evt.done)
def rpO (l R:List Evt) (k:Nat) (σ:St):Prop :=
 ∃ (inn:List Bool) (out:List Evt),inn.length = l.length∧out ++ srt Evt.point (remG Evt.done l inn) = R∧k = (srt Evt.point (remG Evt.done l inn)).length∧σ.T 0 = .sl (l.map Evt.a)∧σ.T 4 = .rs 9 0 l.length∧σ.H 9 = some ⟨1,4,inn.map AV.bool,0⟩ ∧
  σ.T 3 = .rs 3 0 out.length∧σ.H 3 = some ⟨15,32,out.map Evt.a,0⟩
def rpI (l out:List Evt) (inn:List Bool) (k:Nat) (σ:St):Prop :=
 ∃ (i:Nat) (best:Int),i≤l.length∧k = l.length - i∧Best Evt.point Evt.done l inn i best∧σ.T 5 = .int .i64 best∧σ.T 6 = .int .i64 i∧σ.T 0 = .sl (l.map Evt.a)∧σ.T 4 = .rs 9 0 l.length∧σ.H 9 = some ⟨1,4,inn.map AV.bool,0⟩ ∧
  σ.T 3 = .rs 3 0 out.length∧σ.H 3 = some ⟨15,32,out.map Evt.a,0⟩
def rpEnd (l out:List Evt) (inn:List Bool) (best:Int) (σ:St):Prop :=
 σ.T 5 = .int .i64 best∧σ.T 0 = .sl (l.map Evt.a)∧σ.T 4 = .rs 9 0 l.length∧σ.H 9 = some ⟨1,4,inn.map AV.bool,0⟩∧σ.T 3 = .rs 3 0 out.length∧σ.H 3 = some ⟨15,32,out.map Evt.a,0⟩
set_option maxHeartbeats 8000000 in
theorem best_loop (l out:List Evt) (inn:List Bool) (hl:l.length≤1000000) (hi0:inn.length = l.length) (Q:XK->St->Prop)
  (hEnd:∀ σ best,Best Evt.point Evt.done l inn l.length best->rpEnd l out inn best σ->Q (.exit 2) σ) (k:Nat) (σ:St) (hI:rpI l out inn k σ) :
  run (AFn Try.prog) zbh (z2d (fun σ'=>∃ m,m < k∧rpI l out inn m σ') Q) σ:=by
 obtain ⟨i,best,hi,rfl,hB,t5,t6,t0,t4,h9,t3,h3⟩:=hI
 simp only [zbh]
 by_cases hlt:i < l.length
 case neg =>
  have hlt':¬ (i:Int) < (l.length:Int):=by omega
  have e:i = l.length:=by omega
  subst e
  simp (maxSteps:=9^7) only [go_sem,↓reduceIte,reduceCtorEq,Nat.reduceEqDiff,Nat.reduceBEq,Nat.reduceAdd,Nat.reduceSub,Nat.reduceMul,Nat.reduceLT,Nat.reduceLeDiff,Nat.reduceBNe,Int.reduceBEq,Int.reduceBNe,Int.reduceLT,Int.reduceLE,Par.a,Opr.a,Ans.a,nul,t5,t6,t0,hlt',List.length_map]
  refine hEnd _ best hB ⟨?_,?_,?_,?_,?_,?_⟩
  iterate 6 focus ((simp (maxSteps:=9^7) only [go_sem,↓reduceIte,reduceCtorEq,Nat.reduceEqDiff,Nat.reduceBEq,Nat.reduceAdd,Nat.reduceSub,Nat.reduceMul,Nat.reduceLT,Nat.reduceLeDiff,Nat.reduceBNe,Int.reduceBEq,Int.reduceBNe,Int.reduceLT,Int.reduceLE,Par.a,Opr.a,Ans.a,nul,t5,t0,t4,h9,t3,h3]) <;> rfl)
 have hlt':(i:Int) < (l.length:Int):=by omega
 obtain ⟨e,he⟩:=z1w hlt
 obtain ⟨b,hb⟩:=z1w (l:=inn) (j:=i) (by omega)
 have hge:=z1b (f:=Evt.a) he
 have hgb:=z1b (f:=AV.bool) hb
 simp only [Evt.a] at hge
 have hw:=z5s (j:=i) (by omega)
 have hil:i < inn.length:=by omega
 have fin:∀ (best':Int) (σ':St),Best Evt.point Evt.done l inn (i + 1) best'->σ'.T 5 = .int .i64 best'->σ'.T 6 = .int .i64 ((i + 1:Nat):Int)->σ'.T 0 = .sl (l.map Evt.a)->σ'.T 4 = .rs 9 0 l.length->σ'.H 9 = some ⟨1,4,inn.map AV.bool,0⟩ ->
   σ'.T 3 = .rs 3 0 out.length->σ'.H 3 = some ⟨15,32,out.map Evt.a,0⟩->∃ m,m < l.length - i∧rpI l out inn m σ':=fun best' σ' a1 a2 a3 a4 a5 a6 a7 a8 =>
  ⟨l.length - (i + 1),by omega,i + 1,best',by omega,rfl,a1,a2,a3,a4,a5,a6,a7,a8⟩
 have hll:inn.length = l.length:=hi0
 cases hd:e.done with
 | false =>
  simp (maxSteps:=9^7) only [go_sem,↓reduceIte,reduceCtorEq,Nat.reduceEqDiff,Nat.reduceBEq,Nat.reduceAdd,Nat.reduceSub,Nat.reduceMul,Nat.reduceLT,Nat.reduceLeDiff,Nat.reduceBNe,Int.reduceBEq,Int.reduceBNe,Int.reduceLT,Int.reduceLE,Par.a,Opr.a,Ans.a,nul,t5,t6,t0,t4,h9,t3,h3,hlt',hge,hgb,hd,hw,hlt,hil,List.length_map,Int.toNat_natCast]
  (repeat refine And.intro (by omega) ?_)
  refine fin best _ (Best.skip (hi0.symm) hB he hb (.inl (by rw [hd]; rfl))) ?_ ?_ ?_ ?_ ?_ ?_ ?_
  iterate 7 focus ((simp (maxSteps:=9^7) only [go_sem,↓reduceIte,reduceCtorEq,Nat.reduceEqDiff,Nat.reduceBEq,Nat.reduceAdd,Nat.reduceSub,Nat.reduceMul,Nat.reduceLT,Nat.reduceLeDiff,Nat.reduceBNe,Int.reduceBEq,Int.reduceBNe,Int.reduceLT,Int.reduceLE,Par.a,Opr.a,Ans.a,nul,t5,hw,t0,t4,h9,t3,h3]) <;> rfl)
 | true =>
  cases b with
  | true =>
   simp (maxSteps:=9^7) only [go_sem,↓reduceIte,reduceCtorEq,Nat.reduceEqDiff,Nat.reduceBEq,Nat.reduceAdd,Nat.reduceSub,Nat.reduceMul,Nat.reduceLT,Nat.reduceLeDiff,Nat.reduceBNe,Int.reduceBEq,Int.reduceBNe,Int.reduceLT,Int.reduceLE,Par.a,Opr.a,Ans.a,nul,t5,t6,t0,t4,h9,t3,h3,hlt',hge,hgb,hd,hw,hlt,hil,hll,List.length_map,Int.toNat_natCast]
   (repeat refine And.intro (by omega) ?_)
   refine fin best _ (Best.skip (hi0.symm) hB he hb (.inl (by rw [hd]; rfl))) ?_ ?_ ?_ ?_ ?_ ?_ ?_
   iterate 7 focus ((simp (maxSteps:=9^7) only [go_sem,↓reduceIte,reduceCtorEq,Nat.reduceEqDiff,Nat.reduceBEq,Nat.reduceAdd,Nat.reduceSub,Nat.reduceMul,Nat.reduceLT,Nat.reduceLeDiff,Nat.reduceBNe,Int.reduceBEq,Int.reduceBNe,Int.reduceLT,Int.reduceLE,Par.a,Opr.a,Ans.a,nul,t5,hw,t0,t4,h9,t3,h3]) <;> rfl)
  | false =>
   rcases id hB with ⟨hm1,_⟩ | ⟨p,x,hp,hpi,hx,_,_,_,_⟩
   ·subst hm1
    have hneg:(-1:Int) < 0:=by decide
    simp (maxSteps:=9^7) only [go_sem,↓reduceIte,reduceCtorEq,Nat.reduceEqDiff,Nat.reduceBEq,Nat.reduceAdd,Nat.reduceSub,Nat.reduceMul,Nat.reduceLT,Nat.reduceLeDiff,Nat.reduceBNe,Int.reduceBEq,Int.reduceBNe,Int.reduceLT,Int.reduceLE,Par.a,Opr.a,Ans.a,nul,t5,t6,t0,t4,h9,t3,h3,hlt',hge,hgb,hd,hw,hlt,hil,hll,hneg,List.length_map,Int.toNat_natCast]
    (repeat refine And.intro (by omega) ?_)
    refine fin i _ (Best.take (hi0.symm) hB he hb hd (.inl rfl)) ?_ ?_ ?_ ?_ ?_ ?_ ?_
    iterate 7 focus ((simp (maxSteps:=9^7) only [go_sem,↓reduceIte,reduceCtorEq,Nat.reduceEqDiff,Nat.reduceBEq,Nat.reduceAdd,Nat.reduceSub,Nat.reduceMul,Nat.reduceLT,Nat.reduceLeDiff,Nat.reduceBNe,Int.reduceBEq,Int.reduceBNe,Int.reduceLT,Int.reduceLE,Par.a,Opr.a,Ans.a,nul,t6,hw,t0,t4,h9,t3,h3]) <;> rfl)
   ·subst hp
    have hgx:=z1b (f:=Evt.a) hx
    simp only [Evt.a] at hgx
    have hpl:(p:Int) < (l.length:Int):=by omega
    have hpn:¬ (p:Int) < 0:=by omega
    have hpl':p < l.length:=by omega
    by_cases hk:e.point < x.point
    ·simp (maxSteps:=9^7) only [go_sem,↓reduceIte,reduceCtorEq,Nat.reduceEqDiff,Nat.reduceBEq,Nat.reduceAdd,Nat.reduceSub,Nat.reduceMul,Nat.reduceLT,Nat.reduceLeDiff,Nat.reduceBNe,Int.reduceBEq,Int.reduceBNe,Int.reduceLT,Int.reduceLE,Par.a,Opr.a,Ans.a,nul,t5,t6,t0,t4,h9,t3,h3,hlt',hge,hgb,hgx,hd,hw,hlt,hil,hll,hpl,hpn,hpl',hk,List.length_map,Int.toNat_natCast]
     (repeat refine And.intro (by omega) ?_)
     refine fin i _ (Best.take (hi0.symm) hB he hb hd (.inr ⟨p,x,rfl,hx,hk⟩)) ?_ ?_ ?_ ?_ ?_ ?_ ?_
     iterate 7 focus ((simp (maxSteps:=9^7) only [go_sem,↓reduceIte,reduceCtorEq,Nat.reduceEqDiff,Nat.reduceBEq,Nat.reduceAdd,Nat.reduceSub,Nat.reduceMul,Nat.reduceLT,Nat.reduceLeDiff,Nat.reduceBNe,Int.reduceBEq,Int.reduceBNe,Int.reduceLT,Int.reduceLE,Par.a,Opr.a,Ans.a,nul,t6,hw,t0,t4,h9,t3,h3]) <;> rfl)
    ·simp (maxSteps:=9^7) only [go_sem,↓reduceIte,reduceCtorEq,Nat.reduceEqDiff,Nat.reduceBEq,Nat.reduceAdd,Nat.reduceSub,Nat.reduceMul,Nat.reduceLT,Nat.reduceLeDiff,Nat.reduceBNe,Int.reduceBEq,Int.reduceBNe,Int.reduceLT,Int.reduceLE,Par.a,Opr.a,Ans.a,nul,t5,t6,t0,t4,h9,t3,h3,hlt',hge,hgb,hgx,hd,hw,hlt,hil,hll,hpl,hpn,hpl',hk,List.length_map,Int.toNat_natCast]
     (repeat refine And.intro (by omega) ?_)
     refine fin p _ (Best.skip (hi0.symm) hB he hb (.inr ⟨p,x,rfl,hx,by omega⟩)) ?_ ?_ ?_ ?_ ?_ ?_ ?_
     iterate 7 focus ((simp (maxSteps:=9^7) only [go_sem,↓reduceIte,reduceCtorEq,Nat.reduceEqDiff,Nat.reduceBEq,Nat.reduceAdd,Nat.reduceSub,Nat.reduceMul,Nat.reduceLT,Nat.reduceLeDiff,Nat.reduceBNe,Int.reduceBEq,Int.reduceBNe,Int.reduceLT,Int.reduceLE,Par.a,Opr.a,Ans.a,nul,t5,hw,t0,t4,h9,t3,h3]) <;> rfl)
set_option maxHeartbeats 8000000 in
theorem rPts_ok (l:List Evt) (hl:l.length≤1000000):AFn Try.prog 17 [.sl (l.map Evt.a)] (.own 15 32 ((ptsF l).map Evt.a)):=by
 refine fn_rPts rfl ?_
 obtain ⟨R,hR⟩:∃ R,ptsF l = R:=⟨_,rfl⟩
 rw [hR]
 have h0:srt Evt.point (remG Evt.done l (List.replicate l.length false)) = R:=by rw [zj6]; exact hR
 have hRl:R.length≤l.length:=by
  rw [← hR]; unfold ptsF; rw [z0d]; exact List.length_filter_le _ _
 have hrep:(List.replicate l.length false).map AV.bool = List.replicate l.length (AV.bool false):=by simp
 have hln:Int.toNat (l.length:Int) = l.length:=Int.toNat_natCast _
 simp (maxSteps:=9^7) only [go_sem,↓reduceIte,reduceCtorEq,Nat.reduceEqDiff,Nat.reduceBEq,Nat.reduceAdd,Nat.reduceSub,Nat.reduceMul,Nat.reduceLT,Nat.reduceLeDiff,Nat.reduceBNe,Int.reduceBEq,Int.reduceBNe,Int.reduceLT,Int.reduceLE,Par.a,Opr.a,Ans.a,nul,List.length_map,hln]
 refine ⟨⟨by omega,by omega,by omega,rfl,by decide⟩,z0f (rpO l R) (k:=(srt Evt.point (remG Evt.done l (List.replicate l.length false))).length) ⟨List.replicate l.length false,[],List.length_replicate,by rw [List.nil_append]; exact h0,rfl,?_,?_,?_,?_,?_⟩ ?_⟩
 iterate 5 focus ((simp (maxSteps:=9^7) only [go_sem,↓reduceIte,reduceCtorEq,Nat.reduceEqDiff,Nat.reduceBEq,Nat.reduceAdd,Nat.reduceSub,Nat.reduceMul,Nat.reduceLT,Nat.reduceLeDiff,Nat.reduceBNe,Int.reduceBEq,Int.reduceBNe,Int.reduceLT,Int.reduceLE,Par.a,Opr.a,Ans.a,nul,List.length_replicate,hrep]) <;> rfl)
 clear h0 hrep hR
 rintro k σ ⟨inn,out,hil,hR,rfl,t0,t4,h9,t3,h3⟩
 simp only [ze3]
 have hB0:Best Evt.point Evt.done l inn 0 (-1):=.inl ⟨rfl,by simp [remG]⟩
 simp (maxSteps:=9^7) only [go_sem,↓reduceIte,reduceCtorEq,Nat.reduceEqDiff,Nat.reduceBEq,Nat.reduceAdd,Nat.reduceSub,Nat.reduceMul,Nat.reduceLT,Nat.reduceLeDiff,Nat.reduceBNe,Int.reduceBEq,Int.reduceBNe,Int.reduceLT,Int.reduceLE,Par.a,Opr.a,Ans.a,nul,t0,t4,h9,t3,h3]
 refine z0f (rpI l out inn) (k:=l.length) ⟨0,-1,Nat.zero_le _,rfl,hB0,?_,?_,?_,?_,?_,?_,?_⟩ (best_loop l out inn hl hil _ ?_)
 iterate 7 focus ((simp (maxSteps:=9^7) only [go_sem,↓reduceIte,reduceCtorEq,Nat.reduceEqDiff,Nat.reduceBEq,Nat.reduceAdd,Nat.reduceSub,Nat.reduceMul,Nat.reduceLT,Nat.reduceLeDiff,Nat.reduceBNe,Int.reduceBEq,Int.reduceBNe,Int.reduceLT,Int.reduceLE,Par.a,Opr.a,Ans.a,nul,t0,t4,h9,t3,h3]) <;> rfl)
 clear t0 t4 h9 t3 h3
 rintro σ best hB ⟨t5,t0,t4,h9,t3,h3⟩
 rcases Best.done hil.symm hB with ⟨rfl,hs⟩ | ⟨p,x,rfl,hpl,hx,hbf,hs⟩
 ·rw [hs,List.append_nil] at hR
  subst hR
  have hneg:(-1:Int) < 0:=by decide
  simp (maxSteps:=9^7) only [go_sem,↓reduceIte,reduceCtorEq,Nat.reduceEqDiff,Nat.reduceBEq,Nat.reduceAdd,Nat.reduceSub,Nat.reduceMul,Nat.reduceLT,Nat.reduceLeDiff,Nat.reduceBNe,Int.reduceBEq,Int.reduceBNe,Int.reduceLT,Int.reduceLE,Par.a,Opr.a,Ans.a,nul,t5,t0,t4,h9,t3,h3,hneg,List.length_map]
 ·have hpn:¬ (p:Int) < 0:=by omega
  have hpl':(p:Int) < (l.length:Int):=by omega
  have hgx:=z1b (f:=Evt.a) hx
  simp only [Evt.a] at hgx
  have hset:(inn.map AV.bool).set p (.bool true) = (inn.set p true).map AV.bool:=by rw [List.map_set]
  have hgb:=z1b (f:=AV.bool) hbf
  have hpi:p < inn.length:=by omega
  rw [hs] at hR
  have hlen:=congrArg List.length hR
  rw [List.length_append,List.length_cons] at hlen
  have tk:List.take out.length (out.map Evt.a) = out.map Evt.a:=List.take_of_length_le (by simp)
  have ho1:(out ++ [x]).map Evt.a = out.map Evt.a ++ [x.a]:=List.map_append
  have ho2:(out ++ [x]).length = out.length + 1:=List.length_append
  simp only [Evt.a] at ho1
  simp (maxSteps:=9^7) only [go_sem,↓reduceIte,reduceCtorEq,Nat.reduceEqDiff,Nat.reduceBEq,Nat.reduceAdd,Nat.reduceSub,Nat.reduceMul,Nat.reduceLT,Nat.reduceLeDiff,Nat.reduceBNe,Int.reduceBEq,Int.reduceBNe,Int.reduceLT,Int.reduceLE,Par.a,Opr.a,Ans.a,nul,t5,t0,t4,h9,t3,h3,hpn,hpl',hgx,hgb,hset,hpl,hpi,hil,tk,List.length_map,Int.toNat_natCast]
  refine ⟨by omega,by omega,⟨⟨by omega,by omega⟩,fun d hd=>?_⟩,(srt Evt.point (remG Evt.done l (inn.set p true))).length,by rw [hs,List.length_cons]; omega,inn.set p true,out ++ [x],by rw [List.length_set]; exact hil,by rw [List.append_assoc]; exact hR,rfl,?_,?_,?_,?_,?_⟩
  ·rcases hd with rfl | hd
   ·exact ⟨rfl,rfl⟩
   ·cases hd
  iterate 5 focus ((simp (maxSteps:=9^7) only [go_sem,↓reduceIte,reduceCtorEq,Nat.reduceEqDiff,Nat.reduceBEq,Nat.reduceAdd,Nat.reduceSub,Nat.reduceMul,Nat.reduceLT,Nat.reduceLeDiff,Nat.reduceBNe,Int.reduceBEq,Int.reduceBNe,Int.reduceLT,Int.reduceLE,Par.a,Opr.a,Ans.a,nul,t0,t4,h9,hset,ho2,h3,tk,ho1]) <;> rfl)
end
section
/-
 Events put in order by their points: the library's stable sort,and the code's Points: walked.
-/
open Go.RowKit
attribute [local go_sem ↓] z0s z0g
/-! ### cmp.isNaN[int] -/
def zv5:Reg:=⟨[],[⟨.mv (.c (.bool false)),some 2,none,[],[]⟩],[],[],false⟩
def zgn:List ROp:=[⟨.mv (.t 0),some 3,none,[],[]⟩,⟨.mv (.t 0),some 4,none,[],[]⟩,⟨.bin .neq (.t 3) (.t 4),some 5,none,[],[]⟩,⟨.mv (.t 5),some 2,none,[],[]⟩]
def zv4:Reg:=⟨[],zgn,[],[],false⟩
def ir_nanI:IR:=(.seq (.reg zv5)
 (.seq (.reg zv4)
 .ret))
def zsg:List RDesc:=[(.tmp 2)]
theorem e_nanI_0:EqR zv5 [⟨.mv (.c (.bool false)),some 2,none,[],[]⟩] []:=fun _ _ _=>rfl
theorem e_nanI_1:EqR zv4 zgn []:=fun _ _ _=>rfl
theorem fn_nanI {args:List AV} {r:AV} (ha:args.length.ble Try.f40.ntmps = true) (h:run (AFn Try.prog) ir_nanI (endQ zsg r) (z0b args)):AFn Try.prog 40 args r :=
 AFn.of_code (pv:=false) (hint:=fun _=>[]) (c:=Try.f40.body.getD .skip) (by kernel_rfl) (by kernel_rfl) Try.func40 (by kernel_rfl) (by kernel_rfl) (by kernel_rfl) (of_decide_eq_true (by kernel_rfl)) (Nat.le_of_ble_eq_true ha) (Nat.le_of_ble_eq_true (by kernel_rfl)) (z09 h)
/-! ### cmp.Compare[int] -/
def zwk:Reg:=⟨[],[⟨.mv (.c (.int .i64 0)),some 4,none,[],[]⟩],[],[],false⟩
def zgz:List ROp:=[⟨.mv (.t 0),some 7,none,[8],[]⟩,⟨.callv (.c (.clo 40 [] [])) [(.t 7)],some 8,none,[],[]⟩,⟨.mv (.t 8),some 5,none,[],[]⟩]
def zwj:Reg:=⟨[],zgz,[8],[],false⟩
def zgy:List ROp:=[⟨.mv (.t 1),some 9,none,[10],[]⟩,⟨.callv (.c (.clo 40 [] [])) [(.t 9)],some 10,none,[],[]⟩,⟨.mv (.t 10),some 6,none,[],[]⟩]
def zwi:Reg:=⟨[],zgy,[10],[],false⟩
def zwh:Reg:=⟨[],[⟨.mv (.t 5),some 11,none,[],[]⟩],[],[],false⟩
def zwg:Reg:=⟨[],[⟨.mv (.t 6),some 12,none,[],[]⟩],[],[],false⟩
def zwf:Reg:=⟨[],[⟨.mv (.c (.int .i64 0)),some 4,none,[],[]⟩],[],[],false⟩
def zwe:Reg:=⟨[],[⟨.mv (.c (.int .i64 (-1))),some 4,none,[],[]⟩],[],[],false⟩
def zwd:Reg:=⟨[],[⟨.mv (.t 6),some 13,none,[],[]⟩],[],[],false⟩
def zwc:Reg:=⟨[],[⟨.mv (.c (.int .i64 1)),some 4,none,[],[]⟩],[],[],false⟩
def zgx:List ROp:=[⟨.mv (.t 0),some 14,none,[],[]⟩,⟨.mv (.t 1),some 15,none,[],[]⟩,⟨.bin .lss (.t 14) (.t 15),some 16,none,[],[]⟩]
def zwb:Reg:=⟨[],zgx,[],[],false⟩
def zla:Reg:=⟨[],[⟨.mv (.c (.int .i64 (-1))),some 4,none,[],[]⟩],[],[],false⟩
def zaz:List ROp:=[⟨.mv (.t 0),some 17,none,[],[]⟩,⟨.mv (.t 1),some 18,none,[],[]⟩,⟨.bin .gtr (.t 17) (.t 18),some 19,none,[],[]⟩]
def zl9:Reg:=⟨[],zaz,[],[],false⟩
def zl8:Reg:=⟨[],[⟨.mv (.c (.int .i64 1)),some 4,none,[],[]⟩],[],[],false⟩
def zl7:Reg:=⟨[],[⟨.mv (.c (.int .i64 0)),some 4,none,[],[]⟩],[],[],false⟩
def ir_cmpI:IR:=(.seq (.reg zwk)
 (.seq (.reg zwj)
 (.seq (.reg zwi)
 (.seq (.seq (.reg zwh)
 (.cond (.t 11) (.seq (.seq (.reg zwg)
 (.cond (.t 12) (.seq (.reg zwf)
 .ret)
 .skip))
 (.seq (.reg zwe)
 .ret))
 .skip))
 (.seq (.seq (.reg zwd)
 (.cond (.t 13) (.seq (.reg zwc)
 .ret)
 .skip))
 (.seq (.seq (.reg zwb)
 (.cond (.t 16) (.seq (.reg zla)
 .ret)
 .skip))
 (.seq (.seq (.reg zl9)
 (.cond (.t 19) (.seq (.reg zl8)
 .ret)
 .skip))
 (.seq (.reg zl7)
 .ret))))))))
def zso:List RDesc:=[(.tmp 4)]
theorem e_cmpI_0:EqR zwk [⟨.mv (.c (.int .i64 0)),some 4,none,[],[]⟩] []:=fun _ _ _=>rfl
theorem e_cmpI_1:EqR zwj zgz [8]:=fun _ _ _=>rfl
theorem e_cmpI_2:EqR zwi zgy [10]:=fun _ _ _=>rfl
theorem e_cmpI_3:EqR zwh [⟨.mv (.t 5),some 11,none,[],[]⟩] []:=fun _ _ _=>rfl
theorem e_cmpI_4:EqR zwg [⟨.mv (.t 6),some 12,none,[],[]⟩] []:=fun _ _ _=>rfl
theorem e_cmpI_5:EqR zwf [⟨.mv (.c (.int .i64 0)),some 4,none,[],[]⟩] []:=fun _ _ _=>rfl
theorem e_cmpI_6:EqR zwe [⟨.mv (.c (.int .i64 (-1))),some 4,none,[],[]⟩] []:=fun _ _ _=>rfl
theorem e_cmpI_7:EqR zwd [⟨.mv (.t 6),some 13,none,[],[]⟩] []:=fun _ _ _=>rfl
theorem e_cmpI_8:EqR zwc [⟨.mv (.c (.int .i64 1)),some 4,none,[],[]⟩] []:=fun _ _ _=>rfl
theorem e_cmpI_9:EqR zwb zgx []:=fun _ _ _=>rfl
theorem e_cmpI_10:EqR zla [⟨.mv (.c (.int .i64 (-1))),some 4,none,[],[]⟩] []:=fun _ _ _=>rfl
theorem e_cmpI_11:EqR zl9 zaz []:=fun _ _ _=>rfl
theorem e_cmpI_12:EqR zl8 [⟨.mv (.c (.int .i64 1)),some 4,none,[],[]⟩] []:=fun _ _ _=>rfl
theorem e_cmpI_13:EqR zl7 [⟨.mv (.c (.int .i64 0)),some 4,none,[],[]⟩] []:=fun _ _ _=>rfl
theorem fn_cmpI {args:List AV} {r:AV} (ha:args.length.ble Try.f33.ntmps = true) (h:run (AFn Try.prog) ir_cmpI (endQ zso r) (z0b args)):AFn Try.prog 33 args r :=
 AFn.of_code (pv:=false) (hint:=fun _=>[]) (c:=Try.f33.body.getD .skip) (by kernel_rfl) (by kernel_rfl) Try.func33 (by kernel_rfl) (by kernel_rfl) (by kernel_rfl) (of_decide_eq_true (by kernel_rfl)) (Nat.le_of_ble_eq_true ha) (Nat.le_of_ble_eq_true (by kernel_rfl)) (z09 h)
/-! ### percolate/history.Points$1 -/
def zh1:List ROp:=[⟨.box 15 32 (.t 0),some 2,none,[3],[]⟩,⟨.box 15 32 (.t 1),some 3,none,[],[]⟩,⟨.mv (.c (.int .i64 0)),some 4,none,[],[]⟩]
def zwm:Reg:=⟨[],zh1,[2,3],[],false⟩
def zh0:List ROp:=[⟨.faddr 12 (.t 2),some 5,none,[9],[]⟩,⟨.load 1 false (.t 5),some 6,none,[9],[]⟩,⟨.faddr 12 (.t 3),some 7,none,[9],[]⟩,⟨.load 1 false (.t 7),some 8,none,[9],[]⟩,⟨.callv (.c (.clo 33 [] [])) [(.t 6),(.t 8)],some 9,none,[],[]⟩,⟨.mv (.t 9),some 4,none,[],[]⟩]
def zwl:Reg:=⟨[],zh0,[9],[],false⟩
def ir_cmpE:IR:=(.seq (.reg zwm)
 (.seq (.reg zwl)
 .ret))
def zsp:List RDesc:=[(.tmp 4)]
theorem e_cmpE_0:EqR zwm zh1 [2,3]:=fun _ _ _=>rfl
theorem e_cmpE_1:EqR zwl zh0 [9]:=fun _ _ _=>rfl
theorem fn_cmpE {args:List AV} {r:AV} (ha:args.length.ble Try.f32.ntmps = true) (h:run (AFn Try.prog) ir_cmpE (endQ zsp r) (z0b args)):AFn Try.prog 32 args r :=
 AFn.of_code (pv:=false) (hint:=fun _=>[]) (c:=Try.f32.body.getD .skip) (by kernel_rfl) (by kernel_rfl) Try.func32 (by kernel_rfl) (by kernel_rfl) (by kernel_rfl) (of_decide_eq_true (by kernel_rfl)) (Nat.le_of_ble_eq_true ha) (Nat.le_of_ble_eq_true (by kernel_rfl)) (z09 h)
/-! ### slices.SortStableFunc[[]percolate/api.Event,percolate/api.Event] -/
def r_ssE_0:List XOp:=[(.op [] ⟨.mv (.t 0),some 4,none,[],[]⟩),(.op [] ⟨.mv (.t 0),some 5,none,[],[]⟩),(.op [] ⟨.len false (.t 5),some 6,none,[],[]⟩),(.op [] ⟨.mv (.t 1),some 7,none,[],[]⟩),(.wcall 8 (.c (.clo 39 [] [])) [(.t 4),(.t 6),(.t 7)])]
def ir_ssE (P:Program):IR:=(.regx P r_ssE_0)
def res_ssE:List RDesc:=[]
theorem fnm_ssE {args:List AV} {r:AV} {H H':Nat->Option Arr} (ha:args.length.ble Try.f31.ntmps = true) (h:run (AFn Try.prog) (ir_ssE Try.prog) (endM res_ssE r H') (z77 args H)):MFn Try.prog 31 args H r H' :=
 MFn.of_code (pv:=false) (hint:=fun _=>[1]) (c:=Try.f31.body.getD .skip) (by kernel_rfl) (by kernel_rfl) Try.func31 (by kernel_rfl) (by kernel_rfl) (by kernel_rfl) (of_decide_eq_true (by kernel_rfl)) (Nat.le_of_ble_eq_true ha) (Nat.le_of_ble_eq_true (by kernel_rfl)) (z09 h)
/-! ### percolate/history.Points -/
def zw4:List XOp:=[(.op [2] ⟨.mknil 15 32,some 2,none,[],[]⟩)]
def zw3:List XOp:=[(.op [3] ⟨.mknil 15 32,some 3,none,[],[]⟩)]
def zw2:List XOp:=[(.op [] ⟨.mv (.t 0),some 6,none,[],[]⟩),(.op [] ⟨.len false (.t 6),some 7,none,[],[]⟩),(.op [] ⟨.mv (.c (.int .i64 0)),some 8,none,[],[]⟩)]
def zw1:List XOp:=[(.op [] ⟨.bin .lss (.t 8) (.t 7),some 9,none,[],[]⟩)]
def zw0:List XOp:=[(.op [] ⟨.iaddr 15 (.t 6) (.t 8),some 10,none,[],[]⟩),(.op [] ⟨.load 15 true (.t 10),some 11,none,[],[]⟩),(.op [5] ⟨.alloc 15 32 (.agg [(.int .i64 0),(.int .i64 0),(.str ⟨#[]⟩),(.str ⟨#[]⟩),(.bool false),(.str ⟨#[]⟩),(.int .i64 0),(.int .i64 0),(.bool false),(.str ⟨#[]⟩),(.sl []),(.int .i64 0),(.int .i64 0),(.int .i64 0),(.bool false)]),some 5,none,[],[]⟩),(.op [] ⟨.store 15 (.t 5) (.t 11),none,none,[],[]⟩)]
def zvz:List XOp:=[(.op [] ⟨.faddr 14 (.t 5),some 12,none,[],[]⟩),(.op [] ⟨.load 1 false (.t 12),some 13,none,[],[]⟩)]
def zvy:List XOp:=[(.op [] ⟨.mv (.t 3),some 14,none,[],[]⟩),(.op [] ⟨.load 15 true (.t 5),some 15,none,[],[]⟩),(.op [16] ⟨.bsl 15 32 [(.t 15)],some 16,none,[],[]⟩),(.op [] ⟨.append 15 32 168 (.t 14) (.t 16),some 17,none,[],[]⟩),(.op [] ⟨.mv (.t 17),some 3,none,[],[]⟩)]
def zvx:List XOp:=[(.op [] ⟨.bin .add (.t 8) (.c (.int .i64 1)),some 18,none,[],[]⟩),(.op [] ⟨.mv (.t 18),some 8,none,[],[]⟩)]
def zl5 (P:Program):IR:=(.seq (.regx P zw1)
 (.seq (.cond (.t 9) .skip
 (.exit 0))
 (.seq (.block 1 (.seq (.regx P zw0)
 (.seq (.regx P zvz)
 (.cond (.t 13) (.regx P zvy)
 .skip))))
 (.regx P zvx))))
def zvw:List XOp:=[(.op [] ⟨.mv (.t 3),some 19,none,[],[]⟩),(.wcall 20 (.c (.clo 31 [] [])) [(.t 19),(.c (.clo 32 [] []))])]
def zl6:List XOp:=[(.op [] ⟨.mv (.t 3),some 21,none,[],[]⟩),(.op [] ⟨.mv (.t 21),some 2,none,[],[]⟩)]
def ir_hPts (P:Program):IR:=(.seq (.regx P zw4)
 (.seq (.regx P zw3)
 (.seq (.seq (.regx P zw2)
 (.block 0 (.loop (zl5 P))))
 (.seq (.regx P zvw)
 (.seq (.regx P zl6)
 .ret)))))
def zsm:List RDesc:=[(.tmp 2)]
theorem fn_hPts {args:List AV} {r:AV} (ha:args.length.ble Try.f16.ntmps = true) (h:run (AFn Try.prog) (ir_hPts Try.prog) (endQ zsm r) (z0b args)):AFn Try.prog 16 args r :=
 AFn.of_code (pv:=false) (hint:=fun _=>[1]) (c:=Try.f16.body.getD .skip) (by kernel_rfl) (by kernel_rfl) Try.func16 (by kernel_rfl) (by kernel_rfl) (by kernel_rfl) (of_decide_eq_true (by kernel_rfl)) (Nat.le_of_ble_eq_true ha) (Nat.le_of_ble_eq_true (by kernel_rfl)) (z09 h)
attribute [local go_sem ↓] ir_nanI
attribute [local go_sem] zsg e_nanI_0 e_nanI_1 zgn
attribute [local go_sem ↓] ir_cmpI
attribute [local go_sem] zso e_cmpI_0 e_cmpI_1 zgz e_cmpI_2 zgy e_cmpI_3 e_cmpI_4 e_cmpI_5 e_cmpI_6 e_cmpI_7 e_cmpI_8 e_cmpI_9 zgx e_cmpI_10 e_cmpI_11 zaz e_cmpI_12 e_cmpI_13
attribute [local go_sem ↓] ir_cmpE
attribute [local go_sem] zsp e_cmpE_0 zh1 e_cmpE_1 zh0
attribute [local go_sem ↓] ir_ssE
attribute [local go_sem] res_ssE r_ssE_0
attribute [local go_sem ↓] ir_hPts
attribute [local go_sem] zsm zw4 zw3 zw2 zw1 zw0 zvz zvy zvx zvw zl6
theorem z94 (x:Int):AFn Try.prog 40 [.int .i64 x] (.bool false):=by
 refine fn_nanI rfl ?_
 have h:(x != x) = false:=by simp
 simp (maxSteps:=9^7) only [go_sem,↓reduceIte,reduceCtorEq,Nat.reduceEqDiff,Nat.reduceBEq,Nat.reduceAdd,Nat.reduceSub,Nat.reduceMul,Nat.reduceLT,Nat.reduceLeDiff,Nat.reduceBNe,Int.reduceBEq,Int.reduceBNe,Int.reduceLT,Int.reduceLE,Par.a,Opr.a,Ans.a,nul,evW,retM,h]
def cmpV (x y:Int):Int:=if x < y then -1 else if y < x then 1 else 0
theorem cmpI_ok (x y:Int):AFn Try.prog 33 [.int .i64 x,.int .i64 y] (.int .i64 (cmpV x y)):=by
 refine fn_cmpI rfl ?_
 by_cases h1:x < y
 ·have e:cmpV x y = -1:=by unfold cmpV; rw [if_pos h1]
  rw [e]
  (repeat (first | simp (maxSteps:=9^7) only [go_sem,↓reduceIte,reduceCtorEq,Nat.reduceEqDiff,Nat.reduceBEq,Nat.reduceAdd,Nat.reduceSub,Nat.reduceMul,Nat.reduceLT,Nat.reduceLeDiff,Nat.reduceBNe,Int.reduceBEq,Int.reduceBNe,Int.reduceLT,Int.reduceLE,Par.a,Opr.a,Ans.a,nul,evW,retM,h1] | refine z01 (z94 _) ?_ | refine z00 (z94 _) ?_ | refine And.intro (by omega) ?_ | refine And.intro (fun d hd=>by (repeat (rcases hd with rfl | hd; · exact ⟨rfl,rfl⟩)); cases hd) ?_))
 ·by_cases h2:y < x
  ·have e:cmpV x y = 1:=by unfold cmpV; rw [if_neg h1,if_pos h2]
   rw [e]
   (repeat (first | simp (maxSteps:=9^7) only [go_sem,↓reduceIte,reduceCtorEq,Nat.reduceEqDiff,Nat.reduceBEq,Nat.reduceAdd,Nat.reduceSub,Nat.reduceMul,Nat.reduceLT,Nat.reduceLeDiff,Nat.reduceBNe,Int.reduceBEq,Int.reduceBNe,Int.reduceLT,Int.reduceLE,Par.a,Opr.a,Ans.a,nul,evW,retM,h1,h2] | refine z01 (z94 _) ?_ | refine z00 (z94 _) ?_ | refine And.intro (by omega) ?_ | refine And.intro (fun d hd=>by (repeat (rcases hd with rfl | hd; · exact ⟨rfl,rfl⟩)); cases hd) ?_))
  ·have e:cmpV x y = 0:=by unfold cmpV; rw [if_neg h1,if_neg h2]
   rw [e]
   (repeat (first | simp (maxSteps:=9^7) only [go_sem,↓reduceIte,reduceCtorEq,Nat.reduceEqDiff,Nat.reduceBEq,Nat.reduceAdd,Nat.reduceSub,Nat.reduceMul,Nat.reduceLT,Nat.reduceLeDiff,Nat.reduceBNe,Int.reduceBEq,Int.reduceBNe,Int.reduceLT,Int.reduceLE,Par.a,Opr.a,Ans.a,nul,evW,retM,h1,h2] | refine z01 (z94 _) ?_ | refine z00 (z94 _) ?_ | refine And.intro (by omega) ?_ | refine And.intro (fun d hd=>by (repeat (rcases hd with rfl | hd; · exact ⟨rfl,rfl⟩)); cases hd) ?_))
def evtC (x:Evt):List AV:=[.int .i64 x.client,.int .i64 x.op.kind,.str x.op.key,.str x.op.hi,.bool x.op.op,.str x.op.val,.int .i64 x.op.lim,.int .i64 x.ans.err,.bool x.ans.has,.str x.ans.val,.sl (x.ans.prs.map Par.a),.int .i64 x.began,.int .i64 x.point,.int .i64 x.ended,.bool x.done]
def EvK:Kind15 Evt:=⟨evtC,fun _=>rfl,fun _=>rfl⟩
theorem cmpE_ok:z82 EvK Evt.point 32 (fun x y=>cmpV x.point y.point):=fun x y=>by
 refine ⟨?_,?_⟩
 ·refine fn_cmpE rfl ?_
  show run _ _ _ (z0b [.agg (evtC x),.agg (evtC y)])
  unfold evtC
  (repeat (first | simp (maxSteps:=9^7) only [go_sem,↓reduceIte,reduceCtorEq,Nat.reduceEqDiff,Nat.reduceBEq,Nat.reduceAdd,Nat.reduceSub,Nat.reduceMul,Nat.reduceLT,Nat.reduceLeDiff,Nat.reduceBNe,Int.reduceBEq,Int.reduceBNe,Int.reduceLT,Int.reduceLE,Par.a,Opr.a,Ans.a,nul,evW,retM,List.length_cons,List.length_nil] | refine z01 (cmpI_ok _ _) ?_ | refine z00 (cmpI_ok _ _) ?_ | refine And.intro (by omega) ?_ | refine And.intro (fun d hd=>by (repeat (rcases hd with rfl | hd; · exact ⟨rfl,rfl⟩)); cases hd) ?_))
 ·show cmpV x.point y.point < 0 ↔ _
  unfold cmpV
  split
  ·omega
  ·split <;> omega
theorem ssE_ok (H:Nat->Option Arr) (r:Nat) (X:List Evt) (hb:X.length≤1000000) (hr:H r = ObjE EvK X) :
  MFn Try.prog 31 [.rs r 0 X.length,.clo 32 [] []] H (.tup []) (upd H r (ObjE EvK (srt Evt.point X))):=by
 refine fnm_ssE rfl ?_
 have h2:shH H (r + 1000) = ObjE EvK X:=by rw [shH_big]; exact hr
 simp (maxSteps:=9^7) only [go_sem,↓reduceIte,reduceCtorEq,Nat.reduceEqDiff,Nat.reduceBEq,Nat.reduceAdd,Nat.reduceSub,Nat.reduceMul,Nat.reduceLT,Nat.reduceLeDiff,Nat.reduceBNe,Int.reduceBEq,Int.reduceBNe,Int.reduceLT,Int.reduceLE,Par.a,Opr.a,Ans.a,nul,evW,retM,sh,hr,ObjE,z10]
 refine z17 (stbE_ok EvK Evt.point cmpE_ok (shH H) (r + 1000) X hb h2) ?_
 simp (maxSteps:=9^7) only [go_sem,↓reduceIte,reduceCtorEq,Nat.reduceEqDiff,Nat.reduceBEq,Nat.reduceAdd,Nat.reduceSub,Nat.reduceMul,Nat.reduceLT,Nat.reduceLeDiff,Nat.reduceBNe,Int.reduceBEq,Int.reduceBNe,Int.reduceLT,Int.reduceLE,Par.a,Opr.a,Ans.a,nul,evW,retM]
 intro q
 by_cases hq:q = r
 ·rw [if_pos hq,if_pos hq]; rfl
 ·rw [if_neg hq,if_neg hq]
def hpI (l:List Evt) (k:Nat) (σ:St):Prop :=
 ∃ i:Nat,i≤l.length∧k = l.length - i∧σ.T 6 = .sl (l.map Evt.a)∧σ.T 7 = .int .i64 l.length∧σ.T 8 = .int .i64 i∧σ.T 3 = .rs 3 0 ((l.take i).filter Evt.done).length∧σ.H 3 = some ⟨15,32,((l.take i).filter Evt.done).map Evt.a,0⟩
set_option maxHeartbeats 8000000 in
theorem hPts_ok (l:List Evt) (hl:l.length≤1000000):AFn Try.prog 16 [.sl (l.map Evt.a)] (.own 15 32 ((ptsF l).map Evt.a)):=by
 refine fn_hPts rfl ?_
 simp (maxSteps:=9^7) only [go_sem,↓reduceIte,reduceCtorEq,Nat.reduceEqDiff,Nat.reduceBEq,Nat.reduceAdd,Nat.reduceSub,Nat.reduceMul,Nat.reduceLT,Nat.reduceLeDiff,Nat.reduceBNe,Int.reduceBEq,Int.reduceBNe,Int.reduceLT,Int.reduceLE,Par.a,Opr.a,Ans.a,nul,evW,retM,List.length_map]
 refine z0f (hpI l) (k:=l.length) ⟨0,Nat.zero_le _,rfl,?_,?_,?_,?_,?_⟩ ?_
 iterate 5 focus ((simp (maxSteps:=9^7) only [go_sem,↓reduceIte,reduceCtorEq,Nat.reduceEqDiff,Nat.reduceBEq,Nat.reduceAdd,Nat.reduceSub,Nat.reduceMul,Nat.reduceLT,Nat.reduceLeDiff,Nat.reduceBNe,Int.reduceBEq,Int.reduceBNe,Int.reduceLT,Int.reduceLE,Par.a,Opr.a,Ans.a,nul,evW,retM,List.length_map]) <;> rfl)
 rintro k σ ⟨i,hi,rfl,t6,t7,t8,t3,h3⟩
 simp only [zl5]
 have hfl:((l.take i).filter Evt.done).length≤1000000:=Nat.le_trans (List.length_filter_le _ _) (by rw [List.length_take]; omega)
 by_cases hlt:i < l.length
 case neg =>
  have hlt':¬ (i:Int) < (l.length:Int):=by omega
  have e:l.take i = l:=List.take_of_length_le (by omega)
  rw [e] at t3 h3 hfl
  simp (maxSteps:=9^7) only [go_sem,↓reduceIte,reduceCtorEq,Nat.reduceEqDiff,Nat.reduceBEq,Nat.reduceAdd,Nat.reduceSub,Nat.reduceMul,Nat.reduceLT,Nat.reduceLeDiff,Nat.reduceBNe,Int.reduceBEq,Int.reduceBNe,Int.reduceLT,Int.reduceLE,Par.a,Opr.a,Ans.a,nul,evW,retM,t6,t7,t8,hlt',t3,z10]
  refine z17 (ssE_ok _ 3 (l.filter Evt.done) hfl h3) ?_
  have hp:(srt Evt.point (l.filter Evt.done)).length = (l.filter Evt.done).length:=z0d _ _
  simp (maxSteps:=9^7) only [go_sem,↓reduceIte,reduceCtorEq,Nat.reduceEqDiff,Nat.reduceBEq,Nat.reduceAdd,Nat.reduceSub,Nat.reduceMul,Nat.reduceLT,Nat.reduceLeDiff,Nat.reduceBNe,Int.reduceBEq,Int.reduceBNe,Int.reduceLT,Int.reduceLE,Par.a,Opr.a,Ans.a,nul,evW,retM,t3,ObjE,z10]
  exact ⟨by rw [List.length_map]; exact hp.symm,rfl⟩
 have hlt':(i:Int) < (l.length:Int):=by omega
 obtain ⟨e,he⟩:=z1w hlt
 have hge:=z1b (f:=Evt.a) he
 simp only [Evt.a] at hge
 have hw:=z5s (j:=i) (by omega)
 have tk:l.take (i + 1) = l.take i ++ [e]:=by rw [List.take_add_one,he]; rfl
 cases hd:e.done with
 | false =>
  have ef:(l.take (i + 1)).filter Evt.done = (l.take i).filter Evt.done:=by rw [tk,List.filter_append]; simp [hd]
  simp (maxSteps:=9^7) only [go_sem,↓reduceIte,reduceCtorEq,Nat.reduceEqDiff,Nat.reduceBEq,Nat.reduceAdd,Nat.reduceSub,Nat.reduceMul,Nat.reduceLT,Nat.reduceLeDiff,Nat.reduceBNe,Int.reduceBEq,Int.reduceBNe,Int.reduceLT,Int.reduceLE,Par.a,Opr.a,Ans.a,nul,evW,retM,t6,t7,t8,t3,h3,hlt',hge,hd,hw,hlt,List.length_map,Int.toNat_natCast]
  (repeat refine And.intro (by omega) ?_)
  refine ⟨l.length - (i + 1),by omega,i + 1,by omega,rfl,?_,?_,?_,?_,?_⟩
  iterate 3 focus ((simp (maxSteps:=9^7) only [go_sem,↓reduceIte,reduceCtorEq,Nat.reduceEqDiff,Nat.reduceBEq,Nat.reduceAdd,Nat.reduceSub,Nat.reduceMul,Nat.reduceLT,Nat.reduceLeDiff,Nat.reduceBNe,Int.reduceBEq,Int.reduceBNe,Int.reduceLT,Int.reduceLE,Par.a,Opr.a,Ans.a,nul,evW,retM,t6,t7,hw]) <;> rfl)
  ·rw [ef]; simp (maxSteps:=9^7) only [go_sem,↓reduceIte,reduceCtorEq,Nat.reduceEqDiff,Nat.reduceBEq,Nat.reduceAdd,Nat.reduceSub,Nat.reduceMul,Nat.reduceLT,Nat.reduceLeDiff,Nat.reduceBNe,Int.reduceBEq,Int.reduceBNe,Int.reduceLT,Int.reduceLE,Par.a,Opr.a,Ans.a,nul,evW,retM,t3]
  ·rw [ef]; simp (maxSteps:=9^7) only [go_sem,↓reduceIte,reduceCtorEq,Nat.reduceEqDiff,Nat.reduceBEq,Nat.reduceAdd,Nat.reduceSub,Nat.reduceMul,Nat.reduceLT,Nat.reduceLeDiff,Nat.reduceBNe,Int.reduceBEq,Int.reduceBNe,Int.reduceLT,Int.reduceLE,Par.a,Opr.a,Ans.a,nul,evW,retM,h3]
 | true =>
  have ef:(l.take (i + 1)).filter Evt.done = (l.take i).filter Evt.done ++ [e]:=by rw [tk,List.filter_append]; simp [hd]
  generalize hO:(l.take i).filter Evt.done = out at *
  have ttk:List.take out.length (out.map Evt.a) = out.map Evt.a:=List.take_of_length_le (by simp)
  have ho1:(out ++ [e]).map Evt.a = out.map Evt.a ++ [e.a]:=List.map_append
  have ho2:(out ++ [e]).length = out.length + 1:=List.length_append
  simp only [Evt.a] at ho1
  simp (maxSteps:=9^7) only [go_sem,↓reduceIte,reduceCtorEq,Nat.reduceEqDiff,Nat.reduceBEq,Nat.reduceAdd,Nat.reduceSub,Nat.reduceMul,Nat.reduceLT,Nat.reduceLeDiff,Nat.reduceBNe,Int.reduceBEq,Int.reduceBNe,Int.reduceLT,Int.reduceLE,Par.a,Opr.a,Ans.a,nul,evW,retM,t6,t7,t8,t3,h3,hlt',hge,hd,hw,hlt,ttk,List.length_map,Int.toNat_natCast]
  refine ⟨by omega,⟨by omega,fun d hd=>by (rcases hd with rfl | hd; · exact ⟨rfl,rfl⟩); cases hd⟩,l.length - (i + 1),by omega,i + 1,by omega,rfl,?_,?_,?_,?_,?_⟩
  iterate 3 focus ((simp (maxSteps:=9^7) only [go_sem,↓reduceIte,reduceCtorEq,Nat.reduceEqDiff,Nat.reduceBEq,Nat.reduceAdd,Nat.reduceSub,Nat.reduceMul,Nat.reduceLT,Nat.reduceLeDiff,Nat.reduceBNe,Int.reduceBEq,Int.reduceBNe,Int.reduceLT,Int.reduceLE,Par.a,Opr.a,Ans.a,nul,evW,retM,t6,t7,hw]) <;> rfl)
  ·rw [ef,ho2]; simp (maxSteps:=9^7) only [go_sem,↓reduceIte,reduceCtorEq,Nat.reduceEqDiff,Nat.reduceBEq,Nat.reduceAdd,Nat.reduceSub,Nat.reduceMul,Nat.reduceLT,Nat.reduceLeDiff,Nat.reduceBNe,Int.reduceBEq,Int.reduceBNe,Int.reduceLT,Int.reduceLE,Par.a,Opr.a,Ans.a,nul,evW,retM,t3]
  ·rw [ef,ho1,hd]; simp (maxSteps:=9^7) only [go_sem,↓reduceIte,reduceCtorEq,Nat.reduceEqDiff,Nat.reduceBEq,Nat.reduceAdd,Nat.reduceSub,Nat.reduceMul,Nat.reduceLT,Nat.reduceLeDiff,Nat.reduceBNe,Int.reduceBEq,Int.reduceBNe,Int.reduceLT,Int.reduceLE,Par.a,Opr.a,Ans.a,nul,evW,retM,t3,h3,ttk]
end
section
/-
 Layer 40 on the plain machine: has each event a point of its own,by the code.
-/
open Go.RowKit
attribute [local go_sem ↓] z0s z0g
/-! ### percolate/replay.Apart -/
def r_hAp_0:Reg:=⟨[],[⟨.mv (.c (.bool false)),some 2,none,[],[]⟩],[],[],false⟩
def r_hAp_1:List XOp:=[(.mkmap 6 59),(.op [] ⟨.mv (.t 6),some 3,none,[],[]⟩)]
def zoo:List ROp:=[⟨.mv (.t 0),some 7,none,[8],[]⟩,⟨.callv (.c (.clo 16 [] [])) [(.t 7)],some 8,none,[],[]⟩,⟨.len false (.t 8),some 9,none,[],[]⟩,⟨.mv (.c (.int .i64 0)),some 10,none,[],[]⟩]
def r_hAp_2:Reg:=⟨[],zoo,[8],[],false⟩
def r_hAp_3:Reg:=⟨[],[⟨.bin .lss (.t 10) (.t 9),some 11,none,[],[]⟩],[],[],false⟩
def zon:List ROp:=[⟨.iaddr 15 (.t 8) (.t 10),some 12,none,[5],[]⟩,⟨.load 15 true (.t 12),some 13,none,[5],[]⟩,⟨.alloc 15 32 (.agg [(.int .i64 0),(.int .i64 0),(.str ⟨#[]⟩),(.str ⟨#[]⟩),(.bool false),(.str ⟨#[]⟩),(.int .i64 0),(.int .i64 0),(.bool false),(.str ⟨#[]⟩),(.sl []),(.int .i64 0),(.int .i64 0),(.int .i64 0),(.bool false)]),some 5,none,[],[]⟩,⟨.store 15 (.t 5) (.t 13),none,none,[],[]⟩]
def r_hAp_4:Reg:=⟨[],zon,[5],[],false⟩
def r_hAp_5:List XOp:=[(.op [] ⟨.faddr 12 (.t 5),some 14,none,[],[]⟩),(.op [] ⟨.load 1 false (.t 14),some 15,none,[],[]⟩),(.op [] ⟨.bin .lss (.t 15) (.c (.int .i64 1)),some 16,none,[],[]⟩),(.op [] ⟨.mv (.t 16),some 17,none,[],[]⟩),(.op [] ⟨.mv (.t 3),some 18,(some (17,false)),[],[]⟩),(.op [] ⟨.faddr 12 (.t 5),some 19,(some (17,false)),[],[]⟩),(.op [] ⟨.load 1 false (.t 19),some 20,(some (17,false)),[],[]⟩),(.mlook 21 false (.t 18) (.t 20) (.bool false) (some (17,false))),(.op [] ⟨.pick (.t 17) (.c (.bool true)) (.t 21),some 22,none,[],[]⟩)]
def r_hAp_6:Reg:=⟨[],[⟨.mv (.c (.bool false)),some 2,none,[],[]⟩],[],[],false⟩
def r_hAp_7:List XOp:=[(.op [] ⟨.mv (.t 3),some 23,none,[],[]⟩),(.op [] ⟨.faddr 12 (.t 5),some 24,none,[],[]⟩),(.op [] ⟨.load 1 false (.t 24),some 25,none,[],[]⟩),(.mupd (.t 23) (.t 25) (.c (.bool true)))]
def r_hAp_8:Reg:=⟨[],[⟨.bin .add (.t 10) (.c (.int .i64 1)),some 26,none,[],[]⟩,⟨.mv (.t 26),some 10,none,[],[]⟩],[],[],false⟩
def zw5 (P:Program):IR:=(.seq (.reg r_hAp_3)
 (.seq (.cond (.t 11) .skip
 (.exit 0))
 (.seq (.block 1 (.seq (.reg r_hAp_4)
 (.seq (.seq (.regx P r_hAp_5)
 (.cond (.t 22) (.seq (.reg r_hAp_6)
 .ret)
 .skip))
 (.regx P r_hAp_7))))
 (.reg r_hAp_8))))
def zw6:Reg:=⟨[],[⟨.mv (.c (.bool true)),some 2,none,[],[]⟩],[],[],false⟩
def ir_hAp (P:Program):IR:=(.seq (.reg r_hAp_0)
 (.seq (.regx P r_hAp_1)
 (.seq (.seq (.reg r_hAp_2)
 (.block 0 (.loop (zw5 P))))
 (.seq (.reg zw6)
 .ret))))
def res_hAp:List RDesc:=[(.tmp 2)]
theorem e_hAp_0:EqR r_hAp_0 [⟨.mv (.c (.bool false)),some 2,none,[],[]⟩] []:=fun _ _ _=>rfl
theorem e_hAp_2:EqR r_hAp_2 zoo [8]:=fun _ _ _=>rfl
theorem e_hAp_3:EqR r_hAp_3 [⟨.bin .lss (.t 10) (.t 9),some 11,none,[],[]⟩] []:=fun _ _ _=>rfl
theorem e_hAp_4:EqR r_hAp_4 zon [5]:=fun _ _ _=>rfl
theorem e_hAp_6:EqR r_hAp_6 [⟨.mv (.c (.bool false)),some 2,none,[],[]⟩] []:=fun _ _ _=>rfl
theorem e_hAp_8:EqR r_hAp_8 [⟨.bin .add (.t 10) (.c (.int .i64 1)),some 26,none,[],[]⟩,⟨.mv (.t 26),some 10,none,[],[]⟩] []:=fun _ _ _=>rfl
theorem e_hAp_10:EqR zw6 [⟨.mv (.c (.bool true)),some 2,none,[],[]⟩] []:=fun _ _ _=>rfl
theorem fn_hAp {args:List AV} {r:AV} (ha:args.length.ble Try.f25.ntmps = true) (h:run (AFn Try.prog) (ir_hAp Try.prog) (endQ res_hAp r) (z0b args)):AFn Try.prog 25 args r :=
 AFn.of_code (pv:=false) (hint:=fun _=>[]) (c:=Try.f25.body.getD .skip) (by kernel_rfl) (by kernel_rfl) Try.func25 (by kernel_rfl) (by kernel_rfl) (by kernel_rfl) (of_decide_eq_true (by kernel_rfl)) (Nat.le_of_ble_eq_true ha) (Nat.le_of_ble_eq_true (by kernel_rfl)) (z09 h)
attribute [local go_sem ↓] ir_hAp
attribute [local go_sem] res_hAp e_hAp_0 e_hAp_2 zoo e_hAp_3 e_hAp_4 zon e_hAp_6 e_hAp_8 e_hAp_10 r_hAp_1 r_hAp_5 r_hAp_7
def metP (l:List Int):List (Int × AV):=l.map fun k=>(k,AV.bool true)
theorem zxe:∀ (l:List Int) (k:Int),lkp (metP l) k = if l.contains k then some (.bool true) else none
 | [],k=>rfl
 | x :: l,k=>by
  show (if k == x then some (AV.bool true) else lkp (metP l) k) = _
  rw [zxe l k,List.contains_cons]
  cases k == x <;> simp
theorem zrv:∀ {es:List (Int × AV)} {k:Int} {d:AV},(∀ e,e ∈ es->e.1 ≠ k)->upk es k d = es ++ [(k,d)]
 | [],k,d,_=>rfl
 | e :: l,k,d,h=>by
  have h0:=h e (List.mem_cons_self ..)
  rw [upk,if_neg (by simpa using fun q:k = e.1=>h0 q.symm),zrv fun x hx=>h x (List.mem_cons_of_mem _ hx)]
  rfl
theorem upk_metP {l:List Int} {k:Int} (h:l.contains k = false):upk (metP l) k (.bool true) = metP (l ++ [k]):=by
 rw [zrv]
 ·unfold metP; rw [List.map_append]; rfl
 ·intro e he hk
  obtain ⟨x,h1,h2⟩:=List.mem_map.1 he
  rw [← h2] at hk
  have hk':x = k:=hk
  rw [hk'] at h1
  simp [List.contains_eq_mem,h1] at h
def apGo:List Int->List Evt->Bool
 | _,[]=>true
 | met,e :: es=>if e.point < 1∨met.contains e.point = true then false else apGo (met ++ [e.point]) es
def hApI (p:List Evt) (R:Bool) (m:Nat) (σ:St):Prop :=
 ∃ (i:Nat) (met:List Int),i≤p.length∧m = p.length - i∧apGo met (p.drop i) = R∧σ.T 3 = .mp 6 (metP met)∧σ.H 6 = some ⟨1,59,[],0⟩∧σ.T 8 = .rs 8 0 p.length∧σ.H 8 = some ⟨15,32,p.map Evt.a,0⟩∧σ.T 9 = .int .i64 p.length∧σ.T 10 = .int .i64 i
set_option maxHeartbeats 8000000 in
theorem hAp_ok (l:List Evt) (hl:l.length≤100000):AFn Try.prog 25 [.sl (l.map Evt.a)] (.bool (apGo [] (ptsF l))):=by
 refine fn_hAp rfl ?_
 have c:=hPts_ok l (by omega)
 have pl:(ptsF l).length≤l.length:=by unfold ptsF; rw [z0d]; exact List.length_filter_le _ _
 generalize ptsF l = p at *
 obtain ⟨R,hR⟩:∃ R,apGo [] p = R:=⟨_,rfl⟩
 rw [hR]
 (repeat (first | simp (maxSteps:=9^7) only [go_sem,↓reduceIte,reduceCtorEq,Nat.reduceEqDiff,Nat.reduceBEq,Nat.reduceAdd,Nat.reduceSub,Nat.reduceMul,Nat.reduceLT,Nat.reduceLeDiff,Nat.reduceBNe,Int.reduceBEq,Int.reduceBNe,Int.reduceLT,Int.reduceLE,nul,Evt.a,evM,z35.eq_1,z35.eq_2,ents.eq_1,ents.eq_2,kI.eq_1,mpOk.eq_1,mpR.eq_1,lkV.eq_1,lkV.eq_2,AV.byFree,AV.isMp,List.length_map] | refine z01 (c) ?_ | refine z00 (c) ?_ | refine And.intro (by omega) ?_ | refine And.intro (fun d hd=>by (repeat (rcases hd with rfl | hd; · exact ⟨rfl,rfl⟩)); cases hd) ?_))
 refine z0f (hApI p R) (k:=p.length) ⟨0,[],Nat.zero_le _,rfl,hR,?_,?_,?_,?_,?_,?_⟩ ?_
 iterate 6 focus ((simp (maxSteps:=9^7) only [go_sem,↓reduceIte,reduceCtorEq,Nat.reduceEqDiff,Nat.reduceBEq,Nat.reduceAdd,Nat.reduceSub,Nat.reduceMul,Nat.reduceLT,Nat.reduceLeDiff,Nat.reduceBNe,Int.reduceBEq,Int.reduceBNe,Int.reduceLT,Int.reduceLE,nul,Evt.a,evM,z35.eq_1,z35.eq_2,ents.eq_1,ents.eq_2,kI.eq_1,mpOk.eq_1,mpR.eq_1,lkV.eq_1,lkV.eq_2,AV.byFree,AV.isMp,List.length_map]) <;> rfl)
 clear hR c
 rintro m σ ⟨i,met,hi,rfl,hR,t3,h6,t8,h8,t9,t10⟩
 simp only [zw5]
 by_cases hlt:i < p.length
 case neg =>
  have hlt':¬ (i:Int) < (p.length:Int):=by omega
  have e:p.drop i = []:=List.drop_eq_nil_of_le (by omega)
  rw [e,apGo] at hR
  subst hR
  simp (maxSteps:=9^7) only [go_sem,↓reduceIte,reduceCtorEq,Nat.reduceEqDiff,Nat.reduceBEq,Nat.reduceAdd,Nat.reduceSub,Nat.reduceMul,Nat.reduceLT,Nat.reduceLeDiff,Nat.reduceBNe,Int.reduceBEq,Int.reduceBNe,Int.reduceLT,Int.reduceLE,nul,Evt.a,evM,z35.eq_1,z35.eq_2,ents.eq_1,ents.eq_2,kI.eq_1,mpOk.eq_1,mpR.eq_1,lkV.eq_1,lkV.eq_2,AV.byFree,AV.isMp,t9,t10,hlt']
 have hlt':(i:Int) < (p.length:Int):=by omega
 obtain ⟨x,hx⟩:=z1w hlt
 have hge:=z1b (f:=Evt.a) hx
 simp only [Evt.a] at hge
 have hw:=z5s (j:=i) (by omega)
 have z0:(0:Int)≤(i:Int):=Int.natCast_nonneg i
 have dk:p.drop i = x :: p.drop (i + 1):=by rw [List.drop_eq_getElem_cons hlt,(List.getElem?_eq_some_iff.1 hx).2]
 rw [dk,apGo] at hR
 have hlk:=zxe met x.point
 by_cases hp:x.point < 1
 ·rw [if_pos (.inl hp)] at hR
  subst hR
  simp (maxSteps:=9^7) only [go_sem,↓reduceIte,reduceCtorEq,Nat.reduceEqDiff,Nat.reduceBEq,Nat.reduceAdd,Nat.reduceSub,Nat.reduceMul,Nat.reduceLT,Nat.reduceLeDiff,Nat.reduceBNe,Int.reduceBEq,Int.reduceBNe,Int.reduceLT,Int.reduceLE,nul,Evt.a,evM,z35.eq_1,z35.eq_2,ents.eq_1,ents.eq_2,kI.eq_1,mpOk.eq_1,mpR.eq_1,lkV.eq_1,lkV.eq_2,AV.byFree,AV.isMp,t3,h6,t8,h8,t9,t10,hlt,hlt',hge,hp,hw,z0,List.length_map,Int.toNat_natCast,Nat.zero_add]
 ·cases hc:met.contains x.point with
  | true =>
   rw [if_pos (.inr hc)] at hR
   subst hR
   rw [hc,if_pos rfl] at hlk
   simp (maxSteps:=9^7) only [go_sem,↓reduceIte,reduceCtorEq,Nat.reduceEqDiff,Nat.reduceBEq,Nat.reduceAdd,Nat.reduceSub,Nat.reduceMul,Nat.reduceLT,Nat.reduceLeDiff,Nat.reduceBNe,Int.reduceBEq,Int.reduceBNe,Int.reduceLT,Int.reduceLE,nul,Evt.a,evM,z35.eq_1,z35.eq_2,ents.eq_1,ents.eq_2,kI.eq_1,mpOk.eq_1,mpR.eq_1,lkV.eq_1,lkV.eq_2,AV.byFree,AV.isMp,t3,h6,t8,h8,t9,t10,hlt,hlt',hge,hp,hlk,hw,z0,List.length_map,Int.toNat_natCast,Nat.zero_add]
  | false =>
   rw [if_neg (by rw [hc]; simpa using hp)] at hR
   rw [hc,if_neg (by decide)] at hlk
   have hup:=upk_metP hc
   simp (maxSteps:=9^7) only [go_sem,↓reduceIte,reduceCtorEq,Nat.reduceEqDiff,Nat.reduceBEq,Nat.reduceAdd,Nat.reduceSub,Nat.reduceMul,Nat.reduceLT,Nat.reduceLeDiff,Nat.reduceBNe,Int.reduceBEq,Int.reduceBNe,Int.reduceLT,Int.reduceLE,nul,Evt.a,evM,z35.eq_1,z35.eq_2,ents.eq_1,ents.eq_2,kI.eq_1,mpOk.eq_1,mpR.eq_1,lkV.eq_1,lkV.eq_2,AV.byFree,AV.isMp,t3,h6,t8,h8,t9,t10,hlt,hlt',hge,hp,hlk,hup,hw,z0,List.length_map,Int.toNat_natCast,Nat.zero_add]
   (repeat refine And.intro (by omega) ?_)
   refine ⟨p.length - (i + 1),by omega,i + 1,met ++ [x.point],by omega,rfl,hR,?_,?_,?_,?_,?_,?_⟩
   iterate 6 focus ((simp (maxSteps:=9^7) only [go_sem,↓reduceIte,reduceCtorEq,Nat.reduceEqDiff,Nat.reduceBEq,Nat.reduceAdd,Nat.reduceSub,Nat.reduceMul,Nat.reduceLT,Nat.reduceLeDiff,Nat.reduceBNe,Int.reduceBEq,Int.reduceBNe,Int.reduceLT,Int.reduceLE,nul,Evt.a,evM,z35.eq_1,z35.eq_2,ents.eq_1,ents.eq_2,kI.eq_1,mpOk.eq_1,mpR.eq_1,lkV.eq_1,lkV.eq_2,AV.byFree,AV.isMp,t3,hup,h6,t8,h8,t9,hw]) <;> rfl)
end
section
/-
 Layer 40: what code and document say of the points is the same. No program.
-/
open Go.RowKit
theorem pw_iff:∀ (L:List Evt),L.Pairwise (fun a b=>a.point ≠ b.point) ↔ ∀ k:Int,(L.filter fun e=>e.point == k).length≤1
 | []=>by simp
 | a :: L=>by
  rw [List.pairwise_cons,pw_iff L]
  constructor
  ·rintro ⟨h1,h2⟩ k
   by_cases hk:a.point = k
   ·have hn:L.filter (fun e=>e.point == k) = []:=by
     rw [List.filter_eq_nil_iff]
     intro b hb hq
     have hq':b.point = k:=by simpa using hq
     exact h1 b hb (by rw [hk,hq'])
    rw [List.filter_cons,hn]
    split <;> simp
   ·rw [List.filter_cons,if_neg (by simpa using hk)]
    exact h2 k
  ·intro h
   refine ⟨fun b hb he=>?_,fun k=>?_⟩
   ·have hk:=h a.point
    rw [List.filter_cons,if_pos (by simp)] at hk
    have hm:b ∈ L.filter (fun e=>e.point == a.point):=List.mem_filter.2 ⟨hb,by simp [he]⟩
    have:=List.length_pos_of_mem hm
    rw [List.length_cons] at hk
    omega
   ·have hk:=h k
    rw [List.filter_cons] at hk
    split at hk
    ·rw [List.length_cons] at hk; omega
    ·exact hk
theorem zy7:∀ (es:List Evt) (met:List Int),apGo met es = true ↔ (∀ e,e ∈ es->1≤e.point∧¬ e.point ∈ met)∧es.Pairwise (fun a b=>a.point ≠ b.point)
 | [],met=>by simp [apGo]
 | e :: es,met=>by
  rw [apGo,List.pairwise_cons]
  by_cases hb:e.point < 1∨met.contains e.point = true
  ·rw [if_pos hb]
   constructor
   ·intro h; cases h
   ·rintro ⟨h1,_⟩
    have:=h1 e (List.mem_cons_self ..)
    rcases hb with hb | hb
    ·omega
    ·exact absurd (by simpa using hb) this.2
  ·rw [if_neg hb,zy7 es (met ++ [e.point])]
   have b1:1≤e.point:=by omega
   have b2:¬ e.point ∈ met:=fun h=>hb (.inr (by simpa using h))
   constructor
   ·rintro ⟨h1,h2⟩
    refine ⟨fun x hx=>?_,fun x hx he=>?_,h2⟩
    ·rcases List.mem_cons.1 hx with rfl | hx
     ·exact ⟨b1,b2⟩
     ·exact ⟨(h1 x hx).1,fun hm=>(h1 x hx).2 (List.mem_append_left _ hm)⟩
    ·exact (h1 x hx).2 (by rw [← he]; simp)
   ·rintro ⟨h1,h2,h3⟩
    refine ⟨fun x hx=>⟨(h1 x (List.mem_cons_of_mem _ hx)).1,fun hm=>?_⟩,h3⟩
    rcases List.mem_append.1 hm with hm | hm
    ·exact (h1 x (List.mem_cons_of_mem _ hx)).2 hm
    ·exact h2 x hx (List.mem_singleton.1 hm).symm
theorem apartR_iff (l:List Evt):z56 l = true ↔ (∀ e,e ∈ l->e.done = true->1≤e.point)∧l.Pairwise (fun a b=>a.done = true->b.done = true->a.point ≠ b.point):=by
 unfold z56
 rw [List.all_eq_true,List.pairwise_iff_getElem]
 constructor
 ·intro h
  have hi:∀ i,i < l.length->(∀ j,j < i->badP l i j = false)∧badI l i = false:=fun i hi=>by
   have:=h i (List.mem_range.2 hi)
   unfold okI at this
   rw [Bool.and_eq_true,List.all_eq_true] at this
   refine ⟨fun j hj=>?_,by simpa using this.2⟩
   have:=this.1 j (List.mem_range.2 hj)
   simpa using this
  refine ⟨fun e he hd=>?_,fun i j h1 h2 hij a b he=>?_⟩
  ·obtain ⟨i,hl,rfl⟩:=List.getElem_of_mem he
   have:=(hi i hl).2
   unfold badI at this
   rw [List.getElem?_eq_getElem hl] at this
   simp only [hd,Bool.true_and,decide_eq_false_iff_not] at this
   omega
  ·have:=(hi j h2).1 i hij
   unfold badP badJ at this
   rw [List.getElem?_eq_getElem h1,List.getElem?_eq_getElem h2] at this
   simp only [a,b,Bool.true_and,beq_eq_false_iff_ne] at this
   exact this he.symm
 ·rintro ⟨h1,h2⟩ i hi
  have hi:=List.mem_range.1 hi
  unfold okI
  rw [Bool.and_eq_true,List.all_eq_true]
  refine ⟨fun j hj=>?_,?_⟩
  ·have hj:=List.mem_range.1 hj
   unfold badP badJ
   rw [List.getElem?_eq_getElem hi,List.getElem?_eq_getElem (by omega)]
   have:=h2 j i (by omega) hi hj
   rw [Bool.not_eq_true',Bool.eq_false_iff]
   intro hq
   simp only [Bool.and_eq_true,beq_iff_eq] at hq
   exact this hq.1.2 hq.1.1 hq.2.symm
  ·unfold badI
   rw [List.getElem?_eq_getElem hi]
   rw [Bool.not_eq_true',Bool.eq_false_iff]
   intro hq
   simp only [Bool.and_eq_true,decide_eq_true_eq] at hq
   have:=h1 _ (List.getElem_mem hi) hq.1
   omega
theorem apart_same (l:List Evt):apGo [] (ptsF l) = z56 l:=by
 have st:Stab Evt.point (l.filter Evt.done) (ptsF l):=z1p Evt.point (l.filter Evt.done)
 have e:apGo [] (ptsF l) = true ↔ z56 l = true:=by
  rw [zy7,apartR_iff,pw_iff,← List.pairwise_filter (p:=Evt.done) (l:=l) (R:=fun a b=>a.point ≠ b.point),pw_iff]
  constructor
  ·rintro ⟨h1,h2⟩
   refine ⟨fun x hx hd=>(h1 x ((Stab.mem st).2 (List.mem_filter.2 ⟨hx,hd⟩))).1,fun k=>?_⟩
   rw [← st k]; exact h2 k
  ·rintro ⟨h1,h2⟩
   refine ⟨fun x hx=>⟨?_,by simp⟩,fun k=>?_⟩
   ·have:=List.mem_filter.1 ((Stab.mem st).1 hx)
    exact h1 x this.1 this.2
   ·rw [st k]; exact h2 k
 cases h1:apGo [] (ptsF l) <;> cases h2:z56 l
 ·rfl
 ·rw [h1,h2] at e; exact absurd (e.2 rfl) (by decide)
 ·rw [h1,h2] at e; exact absurd (e.1 rfl) (by decide)
 ·rfl
end
section
/-
 Layer 40 on the plain machine: the code's Fits and Run,once its answer is known.
-/
open Go.RowKit
attribute [local go_sem ↓] z0s z0g
/-! ### percolate/replay.Fits -/
def zmr:List ROp:=[⟨.box 15 32 (.t 1),some 3,none,[4],[]⟩,⟨.mknil 2 58,some 4,none,[],[]⟩,⟨.mv (.c (.bool false)),some 5,none,[],[]⟩]
def r_rpF_0:Reg:=⟨[],zmr,[3,4],[],false⟩
def zmq:List ROp:=[⟨.mv (.t 0),some 9,none,[12,7],[]⟩,⟨.faddr 1 (.t 3),some 10,none,[12,7],[]⟩,⟨.load 6 true (.t 10),some 11,none,[12,7],[]⟩,⟨.callv (.c (.clo 35 [] [])) [(.t 9),(.t 11)],some 12,none,[7],[]⟩,⟨.mv (.t 12),some 8,none,[7],[]⟩,⟨.ext 0 (.t 8),some 13,none,[7],[]⟩,⟨.ext 1 (.t 8),some 14,none,[7],[]⟩,⟨.alloc 4 30 (.agg [(.int .i64 0),(.bool false),(.str ⟨#[]⟩),(.sl [])]),some 7,none,[],[]⟩,⟨.mv (.t 13),some 6,none,[],[]⟩,⟨.store 4 (.t 7) (.t 14),none,none,[],[]⟩]
def r_rpF_1:Reg:=⟨[],zmq,[12,7],[],false⟩
def zmp:List ROp:=[⟨.faddr 7 (.t 3),some 15,none,[],[]⟩,⟨.faddr 0 (.t 15),some 16,none,[],[]⟩,⟨.load 1 false (.t 16),some 17,none,[],[]⟩,⟨.bin .eql (.t 17) (.c (.int .i64 4)),some 18,none,[],[]⟩]
def r_rpF_2:Reg:=⟨[],zmp,[],[],false⟩
def zmo:List ROp:=[⟨.faddr 0 (.t 7),some 19,none,[25,32],[]⟩,⟨.load 1 false (.t 19),some 20,none,[25,32],[]⟩,⟨.bin .neq (.t 20) (.c (.int .i64 0)),some 21,none,[25,32],[]⟩,⟨.mv (.t 21),some 22,none,[25,32],[]⟩,⟨.faddr 1 (.t 3),some 23,(some (22,false)),[25,32],[]⟩,⟨.load 6 true (.t 23),some 24,(some (22,false)),[25,32],[]⟩,⟨.callv (.c (.clo 36 [] [])) [(.t 24)],some 25,(some (22,false)),[32],[]⟩,⟨.un .not (.t 25),some 26,(some (22,false)),[32],[]⟩,⟨.pick (.t 22) (.c (.bool true)) (.t 26),some 27,none,[32],[]⟩,⟨.mv (.t 27),some 28,none,[32],[]⟩,⟨.faddr 7 (.t 3),some 29,(some (28,false)),[32],[]⟩,⟨.load 4 true (.t 29),some 30,(some (28,false)),[32],[]⟩,⟨.bld [(.int .i64 0),(.bool false),(.str ⟨#[]⟩),(.sl [])] [⟨0,1,(.c (.int .i64 4))⟩],some 31,(some (28,false)),[32],[]⟩,⟨.callv (.c (.clo 29 [] [])) [(.t 30),(.t 31)],some 32,(some (28,false)),[],[]⟩,⟨.un .not (.t 32),some 33,(some (28,false)),[],[]⟩,⟨.pick (.t 28) (.c (.bool true)) (.t 33),some 34,none,[],[]⟩]
def r_rpF_3:Reg:=⟨[],zmo,[25,32],[],false⟩
def r_rpF_4:Reg:=⟨[],[⟨.mknil 2 58,some 4,none,[],[]⟩,⟨.mv (.c (.bool false)),some 5,none,[],[]⟩],[4],[],false⟩
def zmn:List ROp:=[⟨.mv (.t 0),some 35,none,[36],[]⟩,⟨.callv (.c (.clo 37 [] [])) [(.t 35)],some 36,none,[],[]⟩,⟨.mv (.t 36),some 4,none,[],[]⟩,⟨.mv (.c (.bool true)),some 5,none,[],[]⟩]
def r_rpF_5:Reg:=⟨[],zmn,[36],[],false⟩
def zmm:List ROp:=[⟨.load 4 true (.t 7),some 37,none,[40],[]⟩,⟨.faddr 7 (.t 3),some 38,none,[40],[]⟩,⟨.load 4 true (.t 38),some 39,none,[40],[]⟩,⟨.callv (.c (.clo 29 [] [])) [(.t 37),(.t 39)],some 40,none,[],[]⟩,⟨.un .not (.t 40),some 41,none,[],[]⟩]
def r_rpF_6:Reg:=⟨[],zmm,[40],[],false⟩
def r_rpF_7:Reg:=⟨[],[⟨.mknil 2 58,some 4,none,[],[]⟩,⟨.mv (.c (.bool false)),some 5,none,[],[]⟩],[4],[],false⟩
def zml:List ROp:=[⟨.mv (.t 6),some 42,none,[],[]⟩,⟨.mv (.t 42),some 4,none,[],[]⟩,⟨.mv (.c (.bool true)),some 5,none,[],[]⟩]
def r_rpF_8:Reg:=⟨[],zml,[],[],false⟩
def ir_rpF:IR:=(.seq (.reg r_rpF_0)
 (.seq (.reg r_rpF_1)
 (.seq (.seq (.reg r_rpF_2)
 (.cond (.t 18) (.seq (.seq (.reg r_rpF_3)
 (.cond (.t 34) (.seq (.reg r_rpF_4)
 .ret)
 .skip))
 (.seq (.reg r_rpF_5)
 .ret))
 .skip))
 (.seq (.seq (.reg r_rpF_6)
 (.cond (.t 41) (.seq (.reg r_rpF_7)
 .ret)
 .skip))
 (.seq (.reg r_rpF_8)
 .ret)))))
def res_rpF:List RDesc:=[(.tmp 4),(.tmp 5)]
theorem e_rpF_0:EqR r_rpF_0 zmr [3,4]:=fun _ _ _=>rfl
theorem e_rpF_1:EqR r_rpF_1 zmq [12,7]:=fun _ _ _=>rfl
theorem e_rpF_2:EqR r_rpF_2 zmp []:=fun _ _ _=>rfl
theorem e_rpF_3:EqR r_rpF_3 zmo [25,32]:=fun _ _ _=>rfl
theorem e_rpF_4:EqR r_rpF_4 [⟨.mknil 2 58,some 4,none,[],[]⟩,⟨.mv (.c (.bool false)),some 5,none,[],[]⟩] [4]:=fun _ _ _=>rfl
theorem e_rpF_5:EqR r_rpF_5 zmn [36]:=fun _ _ _=>rfl
theorem e_rpF_6:EqR r_rpF_6 zmm [40]:=fun _ _ _=>rfl
theorem e_rpF_7:EqR r_rpF_7 [⟨.mknil 2 58,some 4,none,[],[]⟩,⟨.mv (.c (.bool false)),some 5,none,[],[]⟩] [4]:=fun _ _ _=>rfl
theorem e_rpF_8:EqR r_rpF_8 zml []:=fun _ _ _=>rfl
theorem fn_rpF {args:List AV} {r:AV} (ha:args.length.ble Try.f22.ntmps = true) (h:run (AFn Try.prog) ir_rpF (endQ res_rpF r) (z0b args)):AFn Try.prog 22 args r :=
 AFn.of_code (pv:=false) (hint:=fun _=>[]) (c:=Try.f22.body.getD .skip) (by kernel_rfl) (by kernel_rfl) Try.func22 (by kernel_rfl) (by kernel_rfl) (by kernel_rfl) (of_decide_eq_true (by kernel_rfl)) (Nat.le_of_ble_eq_true ha) (Nat.le_of_ble_eq_true (by kernel_rfl)) (z09 h)
attribute [local go_sem ↓] ir_rpF
attribute [local go_sem] res_rpF e_rpF_0 zmr e_rpF_1 zmq e_rpF_2 zmp e_rpF_3 zmo e_rpF_4 e_rpF_5 zmn e_rpF_6 zmm e_rpF_7 e_rpF_8 zml
def fitC (l:List Par) (e:Evt):List Par × Bool:=if (fitR l e).2 then fitR l e else ([],false)
theorem do_err {l:List Par} {o:Opr} (h:((doF l o).2.err == 0) = true):o.right = true:=by
 cases hr:o.right with
 | true=>rfl
 | false =>
  unfold doF at h
  rw [hr,if_neg (by decide)] at h
  have h':((3:Int) == 0) = true:=h
  exact absurd h' (by decide)
/-- what the code's answer is: of any operation on a map -/
def DoIs (l:List Par) (o:Opr):Prop:=AFn Try.prog 35 [.sl (l.map Par.a),o.a] (.tup [.sl ((doF l o).1.map Par.a),(doF l o).2.a])
set_option maxHeartbeats 8000000 in
theorem rpF_of (l:List Par) (e:Evt) (hDo:DoIs l e.op) (hl:l.length≤100000) (hp:e.ans.prs.length≤1000000):AFn Try.prog 22 [.sl (l.map Par.a),e.a] (.tup [.sl ((fitC l e).1.map Par.a),.bool (fitC l e).2]):=by
 refine fn_rpF rfl ?_
 have c1:AFn Try.prog 35 [.sl (l.map Par.a),e.op.a] (.tup [.sl ((doF l e.op).1.map Par.a),(doF l e.op).2.a]):=hDo
 have hpr:=doF_prs l e.op
 have her:=do_err (l:=l) (o:=e.op)
 unfold fitC fitR
 obtain ⟨r,hr⟩:∃ r,doF l e.op = r:=⟨_,rfl⟩
 rw [hr] at c1 hpr her ⊢
 obtain ⟨nx,a⟩:=r
 simp only at c1 hpr her ⊢
 have c2:=zy9 e.ans ans4 (by omega) (by decide)
 have c3:=zy9 a e.ans (by omega) (by omega)
 have c4:=opW_ok e.op
 have c5:=zy3 l (by omega)
 have tkl:List.take l.length (l.map Par.a) = l.map Par.a:=List.take_of_length_le (by simp)
 simp only [ans4,Opr.a,Ans.a,List.map_nil] at c1 c2 c3 c4
 cases h4:(e.ans.err == 4) with
 | true =>
  have h4':e.ans.err = 4:=by simpa using h4
  rw [if_pos h4']
  simp only [ans4]
  cases h0:(a.err == 0) with
  | false =>
   have h0':(a.err != 0) = true:=by rw [bne,h0]; rfl
   simp only [Bool.false_and,Bool.false_eq_true,if_false]
   (repeat (first | simp (maxSteps:=9^7) only [go_sem,↓reduceIte,reduceCtorEq,Nat.reduceEqDiff,Nat.reduceBEq,Nat.reduceAdd,Nat.reduceSub,Nat.reduceMul,Nat.reduceLT,Nat.reduceLeDiff,Nat.reduceBNe,Int.reduceBEq,Int.reduceBNe,Int.reduceLT,Int.reduceLE,Par.a,nul,Opr.a,Ans.a,Evt.a,List.map_nil,h4,h0,h0'] | refine z01 (c1) ?_ | refine z00 (c1) ?_ | refine And.intro (by omega) ?_ | refine And.intro (fun d hd=>by (repeat (rcases hd with rfl | hd; · exact ⟨rfl,rfl⟩)); cases hd) ?_))
  | true =>
   have h0':(a.err != 0) = false:=by rw [bne,h0]; rfl
   have hw:=zrs (her h0)
   rw [hw] at c4
   by_cases hk:e.op.kind≤4
   ·rw [decide_eq_true hk] at c4 ⊢
    by_cases hB0:ansB e.ans ⟨4,false,nul,[]⟩ = true
    case neg =>
     have hB:=Bool.eq_false_iff.2 hB0
     rw [hB] at c2
     simp only [hB,Bool.true_and,Bool.false_eq_true,if_false]
     (repeat (first | simp (maxSteps:=9^7) only [go_sem,↓reduceIte,reduceCtorEq,Nat.reduceEqDiff,Nat.reduceBEq,Nat.reduceAdd,Nat.reduceSub,Nat.reduceMul,Nat.reduceLT,Nat.reduceLeDiff,Nat.reduceBNe,Int.reduceBEq,Int.reduceBNe,Int.reduceLT,Int.reduceLE,Par.a,nul,Opr.a,Ans.a,Evt.a,List.map_nil,h4,h0,h0'] | refine z01 (c1) ?_ | refine z00 (c1) ?_ | refine z01 (c2) ?_ | refine z00 (c2) ?_ | refine z01 (c4) ?_ | refine z00 (c4) ?_ | refine And.intro (by omega) ?_ | refine And.intro (fun d hd=>by (repeat (rcases hd with rfl | hd; · exact ⟨rfl,rfl⟩)); cases hd) ?_))
    case pos =>
     rw [hB0] at c2
     simp only [hB0,Bool.true_and,if_true]
     (repeat (first | simp (maxSteps:=9^7) only [go_sem,↓reduceIte,reduceCtorEq,Nat.reduceEqDiff,Nat.reduceBEq,Nat.reduceAdd,Nat.reduceSub,Nat.reduceMul,Nat.reduceLT,Nat.reduceLeDiff,Nat.reduceBNe,Int.reduceBEq,Int.reduceBNe,Int.reduceLT,Int.reduceLE,Par.a,nul,Opr.a,Ans.a,Evt.a,List.map_nil,h4,h0,h0',tkl,List.length_map,List.drop_zero] | refine z01 (c1) ?_ | refine z00 (c1) ?_ | refine z01 (c2) ?_ | refine z00 (c2) ?_ | refine z01 (c4) ?_ | refine z00 (c4) ?_ | refine z01 (c5) ?_ | refine z00 (c5) ?_ | refine And.intro (by omega) ?_ | refine And.intro (fun d hd=>by (repeat (rcases hd with rfl | hd; · exact ⟨rfl,rfl⟩)); cases hd) ?_))
   ·rw [decide_eq_false hk] at c4 ⊢
    simp only [Bool.true_and,Bool.false_and,Bool.false_eq_true,if_false]
    (repeat (first | simp (maxSteps:=9^7) only [go_sem,↓reduceIte,reduceCtorEq,Nat.reduceEqDiff,Nat.reduceBEq,Nat.reduceAdd,Nat.reduceSub,Nat.reduceMul,Nat.reduceLT,Nat.reduceLeDiff,Nat.reduceBNe,Int.reduceBEq,Int.reduceBNe,Int.reduceLT,Int.reduceLE,Par.a,nul,Opr.a,Ans.a,Evt.a,List.map_nil,h4,h0,h0'] | refine z01 (c1) ?_ | refine z00 (c1) ?_ | refine z01 (c4) ?_ | refine z00 (c4) ?_ | refine And.intro (by omega) ?_ | refine And.intro (fun d hd=>by (repeat (rcases hd with rfl | hd; · exact ⟨rfl,rfl⟩)); cases hd) ?_))
 | false =>
  have h4':¬ e.ans.err = 4:=by simpa using h4
  rw [if_neg h4']
  cases hB:ansB a e.ans with
  | false =>
   rw [hB] at c3
   simp only [Bool.false_eq_true,if_false]
   (repeat (first | simp (maxSteps:=9^7) only [go_sem,↓reduceIte,reduceCtorEq,Nat.reduceEqDiff,Nat.reduceBEq,Nat.reduceAdd,Nat.reduceSub,Nat.reduceMul,Nat.reduceLT,Nat.reduceLeDiff,Nat.reduceBNe,Int.reduceBEq,Int.reduceBNe,Int.reduceLT,Int.reduceLE,Par.a,nul,Opr.a,Ans.a,Evt.a,List.map_nil,h4] | refine z01 (c1) ?_ | refine z00 (c1) ?_ | refine z01 (c3) ?_ | refine z00 (c3) ?_ | refine And.intro (by omega) ?_ | refine And.intro (fun d hd=>by (repeat (rcases hd with rfl | hd; · exact ⟨rfl,rfl⟩)); cases hd) ?_))
  | true =>
   rw [hB] at c3
   simp only [if_true]
   (repeat (first | simp (maxSteps:=9^7) only [go_sem,↓reduceIte,reduceCtorEq,Nat.reduceEqDiff,Nat.reduceBEq,Nat.reduceAdd,Nat.reduceSub,Nat.reduceMul,Nat.reduceLT,Nat.reduceLeDiff,Nat.reduceBNe,Int.reduceBEq,Int.reduceBNe,Int.reduceLT,Int.reduceLE,Par.a,nul,Opr.a,Ans.a,Evt.a,List.map_nil,h4] | refine z01 (c1) ?_ | refine z00 (c1) ?_ | refine z01 (c3) ?_ | refine z00 (c3) ?_ | refine And.intro (by omega) ?_ | refine And.intro (fun d hd=>by (repeat (rcases hd with rfl | hd; · exact ⟨rfl,rfl⟩)); cases hd) ?_))
/-- the events one behind the other,to the first that does not fit -/
def runF:List Par->List Evt->List Par × Bool
 | m,[]=>(m,true)
 | m,e :: es=>if (fitC m e).2 then runF (fitC m e).1 es else ([],false)
end
section
/-
 Layer 40 on the plain machine: the code's Run,once its answer is known.
-/
open Go.RowKit
attribute [local go_sem ↓] z0s z0g
/-! ### percolate/replay.Run -/
def r_hRn_0:Reg:=⟨[],[⟨.mknil 2 58,some 2,none,[],[]⟩,⟨.mv (.c (.bool false)),some 3,none,[],[]⟩],[2],[],false⟩
def r_hRn_1:Reg:=⟨[],[⟨.mknil 2 58,some 4,none,[],[]⟩],[4],[],false⟩
def zom:List ROp:=[⟨.mv (.t 0),some 9,none,[10],[]⟩,⟨.callv (.c (.clo 16 [] [])) [(.t 9)],some 10,none,[],[]⟩,⟨.len false (.t 10),some 11,none,[],[]⟩,⟨.mv (.c (.int .i64 0)),some 12,none,[],[]⟩]
def r_hRn_2:Reg:=⟨[],zom,[10],[],false⟩
def r_hRn_3:Reg:=⟨[],[⟨.bin .lss (.t 12) (.t 11),some 13,none,[],[]⟩],[],[],false⟩
def zol:List ROp:=[⟨.iaddr 15 (.t 10) (.t 12),some 14,none,[6],[]⟩,⟨.load 15 true (.t 14),some 15,none,[6],[]⟩,⟨.alloc 15 32 (.agg [(.int .i64 0),(.int .i64 0),(.str ⟨#[]⟩),(.str ⟨#[]⟩),(.bool false),(.str ⟨#[]⟩),(.int .i64 0),(.int .i64 0),(.bool false),(.str ⟨#[]⟩),(.sl []),(.int .i64 0),(.int .i64 0),(.int .i64 0),(.bool false)]),some 6,none,[],[]⟩,⟨.store 15 (.t 6) (.t 15),none,none,[],[]⟩]
def r_hRn_4:Reg:=⟨[],zol,[6],[],false⟩
def zok:List ROp:=[⟨.mv (.t 4),some 17,none,[19],[]⟩,⟨.load 15 true (.t 6),some 18,none,[19],[]⟩,⟨.callv (.c (.clo 22 [] [])) [(.t 17),(.t 18)],some 19,none,[],[]⟩,⟨.mv (.t 19),some 16,none,[],[]⟩,⟨.ext 0 (.t 16),some 20,none,[],[]⟩,⟨.ext 1 (.t 16),some 21,none,[],[]⟩,⟨.mv (.t 20),some 7,none,[],[]⟩,⟨.mv (.t 21),some 8,none,[],[]⟩]
def r_hRn_5:Reg:=⟨[],zok,[19],[],false⟩
def r_hRn_6:Reg:=⟨[],[⟨.mv (.t 8),some 22,none,[],[]⟩,⟨.un .not (.t 22),some 23,none,[],[]⟩],[],[],false⟩
def r_hRn_7:Reg:=⟨[],[⟨.mknil 2 58,some 2,none,[],[]⟩,⟨.mv (.c (.bool false)),some 3,none,[],[]⟩],[2],[],false⟩
def r_hRn_8:Reg:=⟨[],[⟨.mv (.t 7),some 24,none,[],[]⟩,⟨.mv (.t 24),some 4,none,[],[]⟩],[],[],false⟩
def r_hRn_9:Reg:=⟨[],[⟨.bin .add (.t 12) (.c (.int .i64 1)),some 25,none,[],[]⟩,⟨.mv (.t 25),some 12,none,[],[]⟩],[],[],false⟩
def zl4:IR:=(.seq (.reg r_hRn_3)
 (.seq (.cond (.t 13) .skip
 (.exit 0))
 (.seq (.block 1 (.seq (.reg r_hRn_4)
 (.seq (.reg r_hRn_5)
 (.seq (.seq (.reg r_hRn_6)
 (.cond (.t 23) (.seq (.reg r_hRn_7)
 .ret)
 .skip))
 (.reg r_hRn_8)))))
 (.reg r_hRn_9))))
def zgu:List ROp:=[⟨.mv (.t 4),some 26,none,[],[]⟩,⟨.mv (.t 26),some 2,none,[],[]⟩,⟨.mv (.c (.bool true)),some 3,none,[],[]⟩]
def zvv:Reg:=⟨[],zgu,[],[],false⟩
def ir_hRn:IR:=(.seq (.reg r_hRn_0)
 (.seq (.reg r_hRn_1)
 (.seq (.seq (.reg r_hRn_2)
 (.block 0 (.loop zl4)))
 (.seq (.reg zvv)
 .ret))))
def res_hRn:List RDesc:=[(.tmp 2),(.tmp 3)]
theorem e_hRn_0:EqR r_hRn_0 [⟨.mknil 2 58,some 2,none,[],[]⟩,⟨.mv (.c (.bool false)),some 3,none,[],[]⟩] [2]:=fun _ _ _=>rfl
theorem e_hRn_1:EqR r_hRn_1 [⟨.mknil 2 58,some 4,none,[],[]⟩] [4]:=fun _ _ _=>rfl
theorem e_hRn_2:EqR r_hRn_2 zom [10]:=fun _ _ _=>rfl
theorem e_hRn_3:EqR r_hRn_3 [⟨.bin .lss (.t 12) (.t 11),some 13,none,[],[]⟩] []:=fun _ _ _=>rfl
theorem e_hRn_4:EqR r_hRn_4 zol [6]:=fun _ _ _=>rfl
theorem e_hRn_5:EqR r_hRn_5 zok [19]:=fun _ _ _=>rfl
theorem e_hRn_6:EqR r_hRn_6 [⟨.mv (.t 8),some 22,none,[],[]⟩,⟨.un .not (.t 22),some 23,none,[],[]⟩] []:=fun _ _ _=>rfl
theorem e_hRn_7:EqR r_hRn_7 [⟨.mknil 2 58,some 2,none,[],[]⟩,⟨.mv (.c (.bool false)),some 3,none,[],[]⟩] [2]:=fun _ _ _=>rfl
theorem e_hRn_8:EqR r_hRn_8 [⟨.mv (.t 7),some 24,none,[],[]⟩,⟨.mv (.t 24),some 4,none,[],[]⟩] []:=fun _ _ _=>rfl
theorem e_hRn_9:EqR r_hRn_9 [⟨.bin .add (.t 12) (.c (.int .i64 1)),some 25,none,[],[]⟩,⟨.mv (.t 25),some 12,none,[],[]⟩] []:=fun _ _ _=>rfl
theorem e_hRn_11:EqR zvv zgu []:=fun _ _ _=>rfl
theorem fn_hRn {args:List AV} {r:AV} (ha:args.length.ble Try.f24.ntmps = true) (h:run (AFn Try.prog) ir_hRn (endQ res_hRn r) (z0b args)):AFn Try.prog 24 args r :=
 AFn.of_code (pv:=false) (hint:=fun _=>[]) (c:=Try.f24.body.getD .skip) (by kernel_rfl) (by kernel_rfl) Try.func24 (by kernel_rfl) (by kernel_rfl) (by kernel_rfl) (of_decide_eq_true (by kernel_rfl)) (Nat.le_of_ble_eq_true ha) (Nat.le_of_ble_eq_true (by kernel_rfl)) (z09 h)
attribute [local go_sem ↓] ir_hRn
attribute [local go_sem] res_hRn e_hRn_0 e_hRn_1 e_hRn_2 zom e_hRn_3 e_hRn_4 zol e_hRn_5 zok e_hRn_6 e_hRn_7 e_hRn_8 e_hRn_9 e_hRn_11 zgu
structure EvFew (e:Evt):Prop where
 key:e.op.key.size≤1000000
 hi:e.op.hi.size≤1000000
 val:e.op.val.size≤1000000
 prs:e.ans.prs.length≤1000000
structure MapOk (n:Nat) (m:List Par):Prop where
 ord:KOrd m
 few:FewP 1000000 m
 len:m.length≤n
theorem MapOk.fit {n:Nat} {m:List Par} {e:Evt} (h:MapOk n m) (he:EvFew e):MapOk (n + 1) (fitC m e).1:=by
 unfold fitC
 split
 ·exact ⟨kord_fit h.ord,few_fit (by decide) h.few he.key he.val,by have:=len_fit m e; have:=h.len; omega⟩
 ·exact ⟨List.Pairwise.nil,fun p hp=>by (cases hp),Nat.zero_le _⟩
/-- what is wanted of the code's answer -/
def DoAll:Prop:=∀ (m:List Par) (o:Opr),MapOk 100000 m->o.key.size≤1000000->o.hi.size≤1000000->o.val.size≤1000000->DoIs m o
def hRnI (p:List Evt) (R:List Par × Bool) (k:Nat) (σ:St):Prop :=
 ∃ (i:Nat) (m:List Par),i≤p.length∧k = p.length - i∧MapOk i m∧runF m (p.drop i) = R∧(σ.T 4 = .sl (m.map Par.a)∨(m = []∧σ.T 4 = .rs 4 0 0∧σ.H 4 = some ⟨2,58,[],0⟩))∧σ.T 10 = .rs 10 0 p.length∧σ.H 10 = some ⟨15,32,p.map Evt.a,0⟩∧σ.T 11 = .int .i64 p.length∧σ.T 12 = .int .i64 i
set_option maxHeartbeats 8000000 in
theorem hRn_of (hDo:DoAll) (l:List Evt) (hl:l.length≤10000) (hf:∀ e,e ∈ l->EvFew e):AFn Try.prog 24 [.sl (l.map Evt.a)] (.tup [.sl ((runF [] (ptsF l)).1.map Par.a),.bool (runF [] (ptsF l)).2]):=by
 refine fn_hRn rfl ?_
 have c:=hPts_ok l (by omega)
 have pm:∀ e,e ∈ ptsF l->e ∈ l:=fun e he=>by
  unfold ptsF at he
  have:=(Stab.mem (z1p Evt.point (l.filter Evt.done))).1 he
  exact (List.mem_filter.1 this).1
 have pl:(ptsF l).length≤l.length:=by unfold ptsF; rw [z0d]; exact List.length_filter_le _ _
 generalize ptsF l = p at *
 obtain ⟨R,hR⟩:∃ R,runF [] p = R:=⟨_,rfl⟩
 rw [hR]
 (repeat (first | simp (maxSteps:=9^7) only [go_sem,↓reduceIte,reduceCtorEq,Nat.reduceEqDiff,Nat.reduceBEq,Nat.reduceAdd,Nat.reduceSub,Nat.reduceMul,Nat.reduceLT,Nat.reduceLeDiff,Nat.reduceBNe,Int.reduceBEq,Int.reduceBNe,Int.reduceLT,Int.reduceLE,Par.a,nul,Evt.a,List.map_nil,List.length_map] | refine z01 (c) ?_ | refine z00 (c) ?_ | refine And.intro (by omega) ?_ | refine And.intro (fun d hd=>by (repeat (rcases hd with rfl | hd; · exact ⟨rfl,rfl⟩)); cases hd) ?_))
 refine z0f (hRnI p R) (k:=p.length) ⟨0,[],Nat.zero_le _,rfl,⟨List.Pairwise.nil,fun p hp=>by (cases hp),Nat.zero_le _⟩,hR,.inr ⟨rfl,?_,?_⟩,?_,?_,?_,?_⟩ ?_
 iterate 6 focus ((simp (maxSteps:=9^7) only [go_sem,↓reduceIte,reduceCtorEq,Nat.reduceEqDiff,Nat.reduceBEq,Nat.reduceAdd,Nat.reduceSub,Nat.reduceMul,Nat.reduceLT,Nat.reduceLeDiff,Nat.reduceBNe,Int.reduceBEq,Int.reduceBNe,Int.reduceLT,Int.reduceLE,Par.a,nul,Evt.a,List.map_nil,List.length_map]) <;> rfl)
 clear hR c
 rintro k σ ⟨i,m,hi,rfl,hM,hR,t4,t10,h10,t11,t12⟩
 simp only [zl4]
 by_cases hlt:i < p.length
 case neg =>
  have hlt':¬ (i:Int) < (p.length:Int):=by omega
  have e:p.drop i = []:=List.drop_eq_nil_of_le (by omega)
  rw [e,runF] at hR
  subst hR
  rcases t4 with t4 | ⟨rfl,t4,h4⟩
  ·simp (maxSteps:=9^7) only [go_sem,↓reduceIte,reduceCtorEq,Nat.reduceEqDiff,Nat.reduceBEq,Nat.reduceAdd,Nat.reduceSub,Nat.reduceMul,Nat.reduceLT,Nat.reduceLeDiff,Nat.reduceBNe,Int.reduceBEq,Int.reduceBNe,Int.reduceLT,Int.reduceLE,Par.a,nul,Evt.a,List.map_nil,t4,t11,t12,hlt']
  ·simp (maxSteps:=9^7) only [go_sem,↓reduceIte,reduceCtorEq,Nat.reduceEqDiff,Nat.reduceBEq,Nat.reduceAdd,Nat.reduceSub,Nat.reduceMul,Nat.reduceLT,Nat.reduceLeDiff,Nat.reduceBNe,Int.reduceBEq,Int.reduceBNe,Int.reduceLT,Int.reduceLE,Par.a,nul,Evt.a,List.map_nil,t4,t11,t12,hlt',h4,List.take_nil,List.drop_nil]
 have hlt':(i:Int) < (p.length:Int):=by omega
 obtain ⟨x,hx⟩:=z1w hlt
 have hge:=z1b (f:=Evt.a) hx
 simp only [Evt.a] at hge
 have hw:=z5s (j:=i) (by omega)
 have z0:(0:Int)≤(i:Int):=Int.natCast_nonneg i
 have dk:p.drop i = x :: p.drop (i + 1):=by rw [List.drop_eq_getElem_cons hlt,(List.getElem?_eq_some_iff.1 hx).2]
 have hxf:=hf x (pm x (List.mem_of_getElem? hx))
 rw [dk,runF] at hR
 have cf:=rpF_of m x (hDo m x.op ⟨hM.ord,hM.few,by have:=hM.len; omega⟩ hxf.key hxf.hi hxf.val) (by have:=hM.len; omega) hxf.prs
 have hM':=hM.fit hxf
 generalize fitC m x = F at *
 obtain ⟨nm,ok⟩:=F
 simp only at hR cf hM'
 simp only [Evt.a] at cf
 cases ok with
 | false =>
  rw [if_neg (by decide)] at hR
  subst hR
  rcases t4 with t4 | ⟨rfl,t4,h4⟩
  ·(repeat (first | simp (maxSteps:=9^7) only [go_sem,↓reduceIte,reduceCtorEq,Nat.reduceEqDiff,Nat.reduceBEq,Nat.reduceAdd,Nat.reduceSub,Nat.reduceMul,Nat.reduceLT,Nat.reduceLeDiff,Nat.reduceBNe,Int.reduceBEq,Int.reduceBNe,Int.reduceLT,Int.reduceLE,Par.a,nul,Evt.a,List.map_nil,t4,t10,h10,t11,t12,hlt,hlt',hge,z0,List.length_map,Int.toNat_natCast,Nat.zero_add] | refine z01 (cf) ?_ | refine z00 (cf) ?_ | refine And.intro (by omega) ?_ | refine And.intro (fun d hd=>by (repeat (rcases hd with rfl | hd; · exact ⟨rfl,rfl⟩)); cases hd) ?_))
  ·(repeat (first | simp (maxSteps:=9^7) only [go_sem,↓reduceIte,reduceCtorEq,Nat.reduceEqDiff,Nat.reduceBEq,Nat.reduceAdd,Nat.reduceSub,Nat.reduceMul,Nat.reduceLT,Nat.reduceLeDiff,Nat.reduceBNe,Int.reduceBEq,Int.reduceBNe,Int.reduceLT,Int.reduceLE,Par.a,nul,Evt.a,List.map_nil,t4,h4,t10,h10,t11,t12,hlt,hlt',hge,z0,List.length_map,Int.toNat_natCast,Nat.zero_add,List.take_nil,List.drop_nil] | refine z01 (cf) ?_ | refine z00 (cf) ?_ | refine And.intro (by omega) ?_ | refine And.intro (fun d hd=>by (repeat (rcases hd with rfl | hd; · exact ⟨rfl,rfl⟩)); cases hd) ?_))
 | true =>
  rw [if_pos rfl] at hR
  rcases t4 with t4 | ⟨rfl,t4,h4⟩
  ·(repeat (first | simp (maxSteps:=9^7) only [go_sem,↓reduceIte,reduceCtorEq,Nat.reduceEqDiff,Nat.reduceBEq,Nat.reduceAdd,Nat.reduceSub,Nat.reduceMul,Nat.reduceLT,Nat.reduceLeDiff,Nat.reduceBNe,Int.reduceBEq,Int.reduceBNe,Int.reduceLT,Int.reduceLE,Par.a,nul,Evt.a,List.map_nil,t4,t10,h10,t11,t12,hlt,hlt',hge,hw,z0,List.length_map,Int.toNat_natCast,Nat.zero_add] | refine z01 (cf) ?_ | refine z00 (cf) ?_ | refine And.intro (by omega) ?_ | refine And.intro (fun d hd=>by (repeat (rcases hd with rfl | hd; · exact ⟨rfl,rfl⟩)); cases hd) ?_))
   refine ⟨p.length - (i + 1),by omega,i + 1,nm,by omega,rfl,hM',hR,.inl ?_,?_,?_,?_,?_⟩
   iterate 5 focus ((simp (maxSteps:=9^7) only [go_sem,↓reduceIte,reduceCtorEq,Nat.reduceEqDiff,Nat.reduceBEq,Nat.reduceAdd,Nat.reduceSub,Nat.reduceMul,Nat.reduceLT,Nat.reduceLeDiff,Nat.reduceBNe,Int.reduceBEq,Int.reduceBNe,Int.reduceLT,Int.reduceLE,Par.a,nul,Evt.a,List.map_nil,t10,h10,t11,hw]) <;> rfl)
  ·(repeat (first | simp (maxSteps:=9^7) only [go_sem,↓reduceIte,reduceCtorEq,Nat.reduceEqDiff,Nat.reduceBEq,Nat.reduceAdd,Nat.reduceSub,Nat.reduceMul,Nat.reduceLT,Nat.reduceLeDiff,Nat.reduceBNe,Int.reduceBEq,Int.reduceBNe,Int.reduceLT,Int.reduceLE,Par.a,nul,Evt.a,List.map_nil,t4,h4,t10,h10,t11,t12,hlt,hlt',hge,hw,z0,List.length_map,Int.toNat_natCast,Nat.zero_add,List.take_nil,List.drop_nil] | refine z01 (cf) ?_ | refine z00 (cf) ?_ | refine And.intro (by omega) ?_ | refine And.intro (fun d hd=>by (repeat (rcases hd with rfl | hd; · exact ⟨rfl,rfl⟩)); cases hd) ?_))
   refine ⟨p.length - (i + 1),by omega,i + 1,nm,by omega,rfl,hM',hR,.inl ?_,?_,?_,?_,?_⟩
   iterate 5 focus ((simp (maxSteps:=9^7) only [go_sem,↓reduceIte,reduceCtorEq,Nat.reduceEqDiff,Nat.reduceBEq,Nat.reduceAdd,Nat.reduceSub,Nat.reduceMul,Nat.reduceLT,Nat.reduceLeDiff,Nat.reduceBNe,Int.reduceBEq,Int.reduceBNe,Int.reduceLT,Int.reduceLE,Par.a,nul,Evt.a,List.map_nil,t10,h10,t11,hw]) <;> rfl)
end
section
/-
 Are nodes few,with few things? The document's Light,walked.
-/
open Go.RowKit
attribute [local go_sem ↓] z0s z0g
def sumN {α:Type} (f:α->Nat):List α->Nat
 | []=>0
 | x :: l=>f x + sumN f l
theorem sumN_at {α:Type} {f:α->Nat} {l:List α} {j:Nat} {x:α} (h:l[j]? = some x):sumN f (l.drop j) = f x + sumN f (l.drop (j + 1)):=by
 rw [z9b h]; rfl
theorem zrz {α:Type} {f:α->Nat} (hf:∀ x,1≤f x):∀ l:List α,l.length≤sumN f l
 | []=>Nat.le_refl _
 | x :: l=>by
  have:=zrz hf l
  have:=hf x
  show l.length + 1≤f x + sumN f l
  omega
def Par.bulk (p:Par):Nat:=1 + p.key.size + p.val.size
def Msg.bulkN (m:Msg):Nat:=1 + m.key.size + m.hi.size + m.val.size
def strBulk (s:ByteArray):Nat:=s.size + 1
def longInv (l:List AV) (most:Int) (rest:Nat->Nat) (r:Bool) (k:Nat) (σ:St):Prop :=
 ∃ (j n:Nat),j≤l.length∧k = l.length - j∧σ.T 0 = .sl l∧σ.T 1 = .int .i64 most∧σ.T 5 = .int .i64 n∧σ.T 6 = .int .i64 j∧n≤900000000000000∧decide (((n + rest j:Nat):Int)≤most) = r
/-! ### percolate/percolateref09.Long -/
def zea:Reg:=⟨[],[⟨.mv (.c (.bool false)),some 4,none,[],[]⟩],[],[],false⟩
def ze9:Reg:=⟨[],[⟨.mv (.c (.int .i64 0)),some 5,none,[],[]⟩],[],[],false⟩
def ze8:Reg:=⟨[],[⟨.mv (.c (.int .i64 0)),some 6,none,[],[]⟩],[],[],false⟩
def z89:List ROp:=[⟨.mv (.t 6),some 7,none,[],[]⟩,⟨.mv (.t 0),some 8,none,[],[]⟩,⟨.len false (.t 8),some 9,none,[],[]⟩,⟨.bin .lss (.t 7) (.t 9),some 10,none,[],[]⟩,⟨.mv (.t 10),some 11,none,[],[]⟩,⟨.mv (.t 5),some 12,(some (11,true)),[],[]⟩,⟨.mv (.t 1),some 13,(some (11,true)),[],[]⟩,⟨.bin .leq (.t 12) (.t 13),some 14,(some (11,true)),[],[]⟩,⟨.pick (.t 11) (.t 14) (.c (.bool false)),some 15,none,[],[]⟩]
def ze7:Reg:=⟨[],z89,[],[],false⟩
def z97:List ROp:=[⟨.mv (.t 5),some 18,none,[],[]⟩,⟨.mv (.t 0),some 19,none,[],[]⟩,⟨.mv (.t 6),some 20,none,[],[]⟩,⟨.iaddr 2 (.t 19) (.t 20),some 21,none,[],[]⟩,⟨.faddr 0 (.t 21),some 22,none,[],[]⟩,⟨.load 1 false (.t 22),some 23,none,[],[]⟩,⟨.len true (.t 23),some 24,none,[],[]⟩,⟨.bin .add (.c (.int .i64 1)) (.t 24),some 25,none,[],[]⟩,⟨.mv (.t 0),some 26,none,[],[]⟩,⟨.mv (.t 6),some 27,none,[],[]⟩,⟨.iaddr 2 (.t 26) (.t 27),some 28,none,[],[]⟩,⟨.faddr 1 (.t 28),some 29,none,[],[]⟩,⟨.load 1 false (.t 29),some 30,none,[],[]⟩,⟨.len true (.t 30),some 31,none,[],[]⟩,⟨.bin .add (.t 25) (.t 31),some 32,none,[],[]⟩]
def ze6:Reg:=⟨z97,[⟨.bin .add (.t 18) (.t 32),some 33,none,[],[]⟩,⟨.mv (.t 33),some 5,none,[],[]⟩],[],[],true⟩
def z88:List ROp:=[⟨.mv (.t 6),some 16,none,[],[]⟩,⟨.bin .add (.t 16) (.c (.int .i64 1)),some 17,none,[],[]⟩,⟨.mv (.t 17),some 6,none,[],[]⟩]
def ze5:Reg:=⟨[],z88,[],[],false⟩
def zbi:IR:=(.seq (.seq (.reg ze7)
 (.cond (.t 15) .skip
 (.exit 0)))
 (.seq (.block 1 (.reg ze6))
 (.reg ze5)))
def z87:List ROp:=[⟨.mv (.t 5),some 34,none,[],[]⟩,⟨.mv (.t 1),some 35,none,[],[]⟩,⟨.bin .leq (.t 34) (.t 35),some 36,none,[],[]⟩,⟨.mv (.t 36),some 4,none,[],[]⟩]
def ze4:Reg:=⟨[],z87,[],[],false⟩
def zm1:IR:=(.seq (.reg zea)
 (.seq (.reg ze9)
 (.seq (.seq (.reg ze8)
 (.block 0 (.loop zbi)))
 (.seq (.reg ze4)
 .ret))))
def zdr:List RDesc:=[(.tmp 4)]
theorem e_rLong9_0:EqR zea [⟨.mv (.c (.bool false)),some 4,none,[],[]⟩] []:=fun _ _ _=>rfl
theorem e_rLong9_1:EqR ze9 [⟨.mv (.c (.int .i64 0)),some 5,none,[],[]⟩] []:=fun _ _ _=>rfl
theorem e_rLong9_2:EqR ze8 [⟨.mv (.c (.int .i64 0)),some 6,none,[],[]⟩] []:=fun _ _ _=>rfl
theorem e_rLong9_3:EqR ze7 z89 []:=fun _ _ _=>rfl
theorem e_rLong9_4 (C:FuncId->List AV->AV->Prop) (σ:St) (K:St->Prop):z0l C ze6 σ K = z0a C [] [⟨.bin .add (.t 18) (.t 32),some 33,none,[],[]⟩,⟨.mv (.t 33),some 5,none,[],[]⟩] z97 (σ.kills []) K:=rfl
theorem e_rLong9_5:EqR ze5 z88 []:=fun _ _ _=>rfl
theorem e_rLong9_7:EqR ze4 z87 []:=fun _ _ _=>rfl
theorem fn_rLong9 {args:List AV} {r:AV} (ha:args.length.ble Try.f28.ntmps = true) (h:run (AFn Try.prog) zm1 (endQ zdr r) (z0b args)):AFn Try.prog 28 args r :=
 AFn.of_code (pv:=false) (hint:=fun _=>[]) (c:=Try.f28.body.getD .skip) (by kernel_rfl) (by kernel_rfl) Try.func28 (by kernel_rfl) (by kernel_rfl) (by kernel_rfl) (of_decide_eq_true (by kernel_rfl)) (Nat.le_of_ble_eq_true ha) (Nat.le_of_ble_eq_true (by kernel_rfl)) (z09 h)
attribute [local go_sem ↓] zm1
attribute [local go_sem] zdr e_rLong9_0 e_rLong9_1 e_rLong9_2 e_rLong9_3 z89 e_rLong9_4 z97 e_rLong9_5 z88 e_rLong9_7 z87
theorem rLong9_ok (l:List Par) (most:Int) (h1:0≤most) (h2:most≤1000000) (hs:∀ m,m ∈ l->m.key.size≤281474976710656∧m.val.size≤281474976710656) (hl:l.length≤281474976710656) :
  AFn Try.prog 28 [.sl (l.map Par.a),.int .i64 most] (.bool (decide ((sumN Par.bulk l:Int)≤most))):=by
 refine fn_rLong9 rfl ?_
 simp (maxSteps:=9^7) only [go_sem,↓reduceIte,reduceCtorEq,Nat.reduceEqDiff,Nat.reduceBEq,Nat.reduceAdd,Nat.reduceSub,Nat.reduceMul,Nat.reduceLT,Nat.reduceLeDiff,Nat.reduceBNe,Int.reduceBEq,Int.reduceBNe,Int.reduceLT,Int.reduceLE,Msg.a,Par.a,Nd.a]
 refine z0f (longInv (l.map Par.a) most (fun j=>sumN Par.bulk (l.drop j)) (decide ((sumN Par.bulk l:Int)≤most))) (k:=(l.map Par.a).length) ⟨0,0,by omega,rfl,rfl,rfl,rfl,rfl,by omega,?_⟩ ?_
 ·simp
 rintro k σ ⟨j,n,hj,rfl,t0,t1,t5,t6,hn2,hr⟩
 rw [List.length_map] at hj
 simp only [zbi]
 by_cases hlt:j < l.length
 ·have hlt':(j:Int) < (l.length:Int):=by omega
  by_cases hm:(n:Int)≤most
  ·obtain ⟨x,hx⟩:=z1w hlt
   have hgj:=z1b (f:=Par.a) hx
   simp only [Par.a] at hgj
   have hw:=z5s (j:=j) (by omega)
   obtain ⟨s1,s3⟩:=hs x (List.mem_of_getElem? hx)
   have w1:IntKind.i64.wrap (1 + (x.key.size:Int)) = 1 + (x.key.size:Int):=IntWalk.i64_in _ (by omega)
   have w3:IntKind.i64.wrap (1 + (x.key.size:Int) + (x.val.size:Int)) = 1 + (x.key.size:Int) + (x.val.size:Int):=IntWalk.i64_in _ (by omega)
   have w4:IntKind.i64.wrap ((n:Int) + (1 + (x.key.size:Int) + (x.val.size:Int))) = ((n + x.bulk:Nat):Int):=by
    rw [IntWalk.i64_in _ (by omega)]; unfold Par.bulk; omega
   simp only [sumN_at hx] at hr
   simp (maxSteps:=9^7) only [go_sem,↓reduceIte,reduceCtorEq,Nat.reduceEqDiff,Nat.reduceBEq,Nat.reduceAdd,Nat.reduceSub,Nat.reduceMul,Nat.reduceLT,Nat.reduceLeDiff,Nat.reduceBNe,Int.reduceBEq,Int.reduceBNe,Int.reduceLT,Int.reduceLE,Msg.a,Par.a,Nd.a,t0,t1,t5,t6,hlt',hm,hgj,List.length_map,Int.toNat_natCast,w1,w3,w4,hw]
   (repeat refine And.intro (by omega) ?_)
   refine ⟨l.length - (j + 1),by omega,j + 1,n + x.bulk,by rw [List.length_map]; omega,by rw [List.length_map],?_,?_,?_,?_,by unfold Par.bulk; omega,?_⟩
   iterate 4 focus ((simp (maxSteps:=9^7) only [go_sem,↓reduceIte,reduceCtorEq,Nat.reduceEqDiff,Nat.reduceBEq,Nat.reduceAdd,Nat.reduceSub,Nat.reduceMul,Nat.reduceLT,Nat.reduceLeDiff,Nat.reduceBNe,Int.reduceBEq,Int.reduceBNe,Int.reduceLT,Int.reduceLE,Msg.a,Par.a,Nd.a,t0,t1,t5,t6]) <;> rfl)
   ·rw [← hr,Nat.add_assoc]
  ·simp (maxSteps:=9^7) only [go_sem,↓reduceIte,reduceCtorEq,Nat.reduceEqDiff,Nat.reduceBEq,Nat.reduceAdd,Nat.reduceSub,Nat.reduceMul,Nat.reduceLT,Nat.reduceLeDiff,Nat.reduceBNe,Int.reduceBEq,Int.reduceBNe,Int.reduceLT,Int.reduceLE,Msg.a,Par.a,Nd.a,t0,t1,t5,t6,hlt',hm,List.length_map]
   have:¬ ((n + sumN Par.bulk (l.drop j):Nat):Int)≤most:=by omega
   simp only [decide_eq_false this] at hr
   exact of_decide_eq_false hr.symm
 ·have hlt':¬ (j:Int) < (l.length:Int):=by omega
  simp (maxSteps:=9^7) only [go_sem,↓reduceIte,reduceCtorEq,Nat.reduceEqDiff,Nat.reduceBEq,Nat.reduceAdd,Nat.reduceSub,Nat.reduceMul,Nat.reduceLT,Nat.reduceLeDiff,Nat.reduceBNe,Int.reduceBEq,Int.reduceBNe,Int.reduceLT,Int.reduceLE,Msg.a,Par.a,Nd.a,t0,t1,t5,t6,hlt',List.length_map]
  rw [← hr]
  show decide (((n + sumN Par.bulk (l.drop j):Nat):Int)≤most) = _
  rw [List.drop_eq_nil_of_le (by omega)]
  exact decide_eq_decide.2 Iff.rfl
/-! ### Light -/
def Nd.light (most:Int) (x:Nd):Bool:=decide ((sumN Par.bulk x.rows:Int)≤most) && decide ((sumN strBulk x.pivots:Int)≤most) && decide ((x.kids.length:Int)≤most) && decide ((sumN Msg.bulkN x.msgs:Int)≤most) && decide ((x.high.size:Int)≤most)
end
end Go.Proofs.Ytolocaankfcjiaa
