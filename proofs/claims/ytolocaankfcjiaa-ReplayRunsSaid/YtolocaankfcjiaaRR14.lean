/-
  Part 14 of a proof: StH, StI, StJ, StK, StL, StM.
-/
import Derived.Test.YtolocaankfcjiaaRR13
set_option linter.unusedVariables false
set_option linter.unusedSimpArgs false
set_option maxRecDepth 100000
namespace Go.Proofs.Ytolocaankfcjiaa
attribute [local go_sem] evW retM
section
/-
 Merging two halves in place: where one of them is one element,this moves to its place: the library's code,walked.
-/
open Go.RowKit
attribute [local go_sem ↓] z0s z0g
attribute [local go_sem ↓] z76
attribute [local go_sem] z59 z6k z4h z4k z52 z51 z2o z2y z50 z4z z2n z2x z5i z5h z5g z5f z5e z5d z5c z5b z47 z46 z45 z44 z43 z42 z41 z40 z3z z3y z3x z3w z3v z3u z3t z3s z3r z3q z3p z3o z3n z3m z3l z3k z3j z2v z2u z2t z2s z2r z2q z2p
theorem zxa {α:Type} (L U:List α) (x:α) (W:List α):(L ++ U ++ x :: W)[L.length + U.length]? = some x:=by
 rw [← List.length_append,List.getElem?_append_right (Nat.le_refl _),Nat.sub_self]; rfl
theorem mid_set {α:Type} (L U:List α) (x y:α) (W:List α):(L ++ U ++ x :: W).set (L.length + U.length) y = L ++ U ++ y :: W:=by
 rw [← List.length_append,List.set_append_right _ _ (Nat.le_refl _),Nat.sub_self,List.set_cons_zero]
theorem mid_at1 {α:Type} (L U:List α) (x z:α) (W:List α):(L ++ U ++ x :: z :: W)[L.length + U.length + 1]? = some z:=by
 rw [← List.length_append,List.getElem?_append_right (by omega),show (L ++ U).length + 1 - (L ++ U).length = 1 by omega]; rfl
theorem zx9 {α:Type} (L U:List α) (x z y:α) (W:List α):(L ++ U ++ x :: z :: W).set (L.length + U.length + 1) y = L ++ U ++ x :: y :: W:=by
 rw [← List.length_append,List.set_append_right _ _ (by omega),show (L ++ U).length + 1 - (L ++ U).length = 1 by omega]; rfl
section
variable {α:Type} (K:Kind15 α)
def f1I (H:Nat->Option Arr) (r f:Nat) (a m b:Int) (L M R:List α) (x:α) (k:Nat) (σ:St):Prop :=
 ∃ U V:List α,U ++ V = M∧k = V.length∧σ.T 10 = .int .i64 ((L.length + M.length + 1:Nat):Int)∧σ.T 13 = .int .i64 ((L.length + U.length:Nat):Int)∧SymF K H r f a m b (L ++ U ++ x :: (V ++ R)) σ
set_option maxHeartbeats 8000000 in
theorem f1_loop (f:FuncId) (H:Nat->Option Arr) (r:Nat) (a m b:Int) (L M R:List α) (x:α) (hb:L.length + M.length + 1 + R.length≤1000000) (Q:XK->St->Prop)
  (hEnd:∀ σ,SymF K H r f a m b (L ++ M ++ x :: R) σ->Q (.exit 2) σ) (k:Nat) (σ:St) (hI:f1I K H r f a m b L M R x k σ) :
  run (AFn Try.prog) (z90 Try.prog) (z2d (fun σ'=>∃ m',m' < k∧f1I K H r f a m b L M R x m' σ') Q) σ:=by
 obtain ⟨U,V,hUV,rfl,t10,t13,⟨t0,t1,t2,t3,t4,hH⟩⟩:=hI
 simp only [z90]
 have hl:=congrArg List.length hUV
 rw [List.length_append] at hl
 have w1:IntKind.i64.wrap (((L.length + M.length + 1:Nat):Int) - 1) = ((L.length + M.length:Nat):Int):=by rw [z0t (by omega)]; omega
 cases V with
 | nil =>
  have hlt':¬ ((L.length + U.length:Nat):Int) < ((L.length + M.length:Nat):Int):=by simp at hl; omega
  rw [List.append_nil] at hUV
  subst hUV
  have hlt':¬ ((L.length + U.length:Nat):Int) < ((L.length + U.length:Nat):Int):=by omega
  simp (maxSteps:=9^7) only [go_sem,↓reduceIte,reduceCtorEq,Nat.reduceEqDiff,Nat.reduceBEq,Nat.reduceAdd,Nat.reduceSub,Nat.reduceMul,Nat.reduceLT,Nat.reduceLeDiff,Nat.reduceBNe,Int.reduceBEq,Int.reduceBNe,Int.reduceLT,Int.reduceLE,t10,t13,w1,hlt']
  refine hEnd _ ⟨?_,?_,?_,?_,?_,?_⟩
  iterate 5 focus ((simp (maxSteps:=9^7) only [go_sem,↓reduceIte,reduceCtorEq,Nat.reduceEqDiff,Nat.reduceBEq,Nat.reduceAdd,Nat.reduceSub,Nat.reduceMul,Nat.reduceLT,Nat.reduceLeDiff,Nat.reduceBNe,Int.reduceBEq,Int.reduceBNe,Int.reduceLT,Int.reduceLE,t0,List.nil_append,t1,t2,t3,t4]) <;> rfl)
  ·exact hH
 | cons z V =>
  rw [List.length_cons] at hl
  have hlt':((L.length + U.length:Nat):Int) < ((L.length + M.length:Nat):Int):=by omega
  have ga:=zxa L U x (z :: V ++ R)
  have gb:=mid_at1 L U x z (V ++ R)
  have hX2:=hH.2
  have hlen:(L ++ U ++ x :: (z :: V ++ R)).length = L.length + M.length + 1 + R.length:=by simp only [List.length_append,List.length_cons]; omega
  have hset:(((L ++ U ++ x :: (z :: V ++ R)).set (L.length + U.length) z).set (L.length + U.length + 1) x) = L ++ (U ++ [z]) ++ x :: (V ++ R):=by
   rw [mid_set]
   show (L ++ U ++ z :: z :: (V ++ R)).set _ x = _
   rw [zx9]; simp
  have gb:(L ++ U ++ x :: (z :: V ++ R))[L.length + U.length + 1]? = some z:=gb
  have hlen2:(L ++ (U ++ [z]) ++ x :: (V ++ R)).length = L.length + M.length + 1 + R.length:=by simp only [List.length_append,List.length_cons,List.length_nil]; omega
  generalize hY:L ++ U ++ x :: (z :: V ++ R) = Y at *
  generalize hY2:L ++ (U ++ [z]) ++ x :: (V ++ R) = Y2 at *
  obtain ⟨ha,hb',s1,hc,s2,la',lb',lc'⟩:=Swp.of K ga gb (by omega)
  have w2:IntKind.i64.wrap (((L.length + U.length:Nat):Int) + 1) = ((L.length + U.length + 1:Nat):Int):=by rw [z0t (by omega)]; rfl
  generalize hja:L.length + U.length = ja at *
  have la:(ja:Int) < (Y.length:Int):=by omega
  have lb:((ja + 1:Nat):Int) < (Y.length:Int):=by omega
  have z0:∀ x:Nat,(0:Int)≤(x:Int):=fun x=>Int.natCast_nonneg x
  have hX2':=hX2
  unfold ObjE Kind15.f at hX2'
  have hk1:=K.take
  have hk2:=K.drop
  have hk3:=K.len
  have hk4:=K.one
  rw [hset] at s2
  simp (maxSteps:=9^7) only [go_sem,↓reduceIte,reduceCtorEq,Nat.reduceEqDiff,Nat.reduceBEq,Nat.reduceAdd,Nat.reduceSub,Nat.reduceMul,Nat.reduceLT,Nat.reduceLeDiff,Nat.reduceBNe,Int.reduceBEq,Int.reduceBNe,Int.reduceLT,Int.reduceLE,t0,t10,t13,hX2',w1,w2,hlt',la,lb,ha,hb',s1,hc,s2,la',lb',lc',hk1,hk2,hk3,hk4,z0,Int.toNat_natCast,List.length_map]
  have eY:L ++ (U ++ [z]) ++ x :: (V ++ R) = Y2:=hY2
  refine ⟨V.length,by simp,U ++ [z],V,by rw [← hUV]; simp,rfl,?_,?_,?_,?_,?_,?_,?_,?_⟩
  ·simp (maxSteps:=9^7) only [go_sem,↓reduceIte,reduceCtorEq,Nat.reduceEqDiff,Nat.reduceBEq,Nat.reduceAdd,Nat.reduceSub,Nat.reduceMul,Nat.reduceLT,Nat.reduceLeDiff,Nat.reduceBNe,Int.reduceBEq,Int.reduceBNe,Int.reduceLT,Int.reduceLE,t10]
  ·have:L.length + (U ++ [z]).length = ja + 1:=by rw [List.length_append,← hja]; simp; omega
   simp (maxSteps:=9^7) only [go_sem,↓reduceIte,reduceCtorEq,Nat.reduceEqDiff,Nat.reduceBEq,Nat.reduceAdd,Nat.reduceSub,Nat.reduceMul,Nat.reduceLT,Nat.reduceLeDiff,Nat.reduceBNe,Int.reduceBEq,Int.reduceBNe,Int.reduceLT,Int.reduceLE,this]
  ·rw [eY]
   have:Y.length = Y2.length:=by omega
   simp (maxSteps:=9^7) only [go_sem,↓reduceIte,reduceCtorEq,Nat.reduceEqDiff,Nat.reduceBEq,Nat.reduceAdd,Nat.reduceSub,Nat.reduceMul,Nat.reduceLT,Nat.reduceLeDiff,Nat.reduceBNe,Int.reduceBEq,Int.reduceBNe,Int.reduceLT,Int.reduceLE,t0,this]
  iterate 4 focus ((simp (maxSteps:=9^7) only [go_sem,↓reduceIte,reduceCtorEq,Nat.reduceEqDiff,Nat.reduceBEq,Nat.reduceAdd,Nat.reduceSub,Nat.reduceMul,Nat.reduceLT,Nat.reduceLeDiff,Nat.reduceBNe,Int.reduceBEq,Int.reduceBNe,Int.reduceLT,Int.reduceLE,t1,t2,t3,t4]) <;> rfl)
  ·rw [eY]
   refine ⟨fun q hq=>?_,?_⟩
   ·have hq':q + 1000 ≠ r + 1000:=by omega
    have:=hH.1 q hq
    simp (maxSteps:=9^7) only [go_sem,↓reduceIte,reduceCtorEq,Nat.reduceEqDiff,Nat.reduceBEq,Nat.reduceAdd,Nat.reduceSub,Nat.reduceMul,Nat.reduceLT,Nat.reduceLeDiff,Nat.reduceBNe,Int.reduceBEq,Int.reduceBNe,Int.reduceLT,Int.reduceLE,hq',this]
   ·unfold ObjE Kind15.f
    simp (maxSteps:=9^7) only [go_sem,↓reduceIte,reduceCtorEq,Nat.reduceEqDiff,Nat.reduceBEq,Nat.reduceAdd,Nat.reduceSub,Nat.reduceMul,Nat.reduceLT,Nat.reduceLeDiff,Nat.reduceBNe,Int.reduceBEq,Int.reduceBNe,Int.reduceLT,Int.reduceLE]
def f2I (H:Nat->Option Arr) (r f:Nat) (a m b:Int) (L M R:List α) (x:α) (k:Nat) (σ:St):Prop :=
 ∃ U V:List α,U ++ V = M∧k = U.length∧σ.T 14 = .int .i64 L.length∧σ.T 17 = .int .i64 ((L.length + U.length:Nat):Int)∧SymF K H r f a m b (L ++ U ++ x :: (V ++ R)) σ
set_option maxHeartbeats 8000000 in
theorem f2_loop (f:FuncId) (H:Nat->Option Arr) (r:Nat) (a m b:Int) (L M R:List α) (x:α) (hb:L.length + M.length + 1 + R.length≤1000000) (Q:XK->St->Prop)
  (hEnd:∀ σ,SymF K H r f a m b (L ++ x :: (M ++ R)) σ->Q (.exit 6) σ) (k:Nat) (σ:St) (hI:f2I K H r f a m b L M R x k σ) :
  run (AFn Try.prog) (z8y Try.prog) (z2d (fun σ'=>∃ m',m' < k∧f2I K H r f a m b L M R x m' σ') Q) σ:=by
 obtain ⟨U,V,hUV,rfl,t14,t17,⟨t0,t1,t2,t3,t4,hH⟩⟩:=hI
 simp only [z8y]
 have hl:=congrArg List.length hUV
 rw [List.length_append] at hl
 by_cases hnil:U = []
 case pos =>
  subst hnil
  rw [List.nil_append] at hUV
  subst hUV
  have hlt':¬ (L.length:Int) < (L.length:Int):=by omega
  rw [List.append_nil] at t0 hH
  rw [List.length_nil,Nat.add_zero] at t17
  simp (maxSteps:=9^7) only [go_sem,↓reduceIte,reduceCtorEq,Nat.reduceEqDiff,Nat.reduceBEq,Nat.reduceAdd,Nat.reduceSub,Nat.reduceMul,Nat.reduceLT,Nat.reduceLeDiff,Nat.reduceBNe,Int.reduceBEq,Int.reduceBNe,Int.reduceLT,Int.reduceLE,t14,t17,hlt']
  refine hEnd _ ⟨?_,?_,?_,?_,?_,?_⟩
  iterate 5 focus ((simp (maxSteps:=9^7) only [go_sem,↓reduceIte,reduceCtorEq,Nat.reduceEqDiff,Nat.reduceBEq,Nat.reduceAdd,Nat.reduceSub,Nat.reduceMul,Nat.reduceLT,Nat.reduceLeDiff,Nat.reduceBNe,Int.reduceBEq,Int.reduceBNe,Int.reduceLT,Int.reduceLE,t0,t1,t2,t3,t4]) <;> rfl)
  ·exact hH
 obtain ⟨W,z,rfl⟩:=zxd U hnil
 have hl1:(W ++ [z]).length = W.length + 1:=by simp
 rw [hl1] at hl
 have hlt':(L.length:Int) < ((L.length + W.length + 1:Nat):Int):=by omega
 have e0:L ++ (W ++ [z]) ++ x :: (V ++ R) = L ++ W ++ z :: x :: (V ++ R):=by simp
 rw [hl1] at t17
 rw [e0] at t0 hH
 have gb:=zxa L W z (x :: (V ++ R))
 have ga:=mid_at1 L W z x (V ++ R)
 have hX2:=hH.2
 have hlen:(L ++ W ++ z :: x :: (V ++ R)).length = L.length + M.length + 1 + R.length:=by simp only [List.length_append,List.length_cons]; omega
 have hset:(((L ++ W ++ z :: x :: (V ++ R)).set (L.length + W.length + 1) z).set (L.length + W.length) x) = L ++ W ++ x :: (z :: V ++ R):=by
  rw [zx9,mid_set]; rfl
 have hlen2:(L ++ W ++ x :: (z :: V ++ R)).length = L.length + M.length + 1 + R.length:=by simp only [List.length_append,List.length_cons]; omega
 generalize hY:L ++ W ++ z :: x :: (V ++ R) = Y at *
 generalize hY2:L ++ W ++ x :: (z :: V ++ R) = Y2 at *
 obtain ⟨ha,hb',s1,hc,s2,la',lb',lc'⟩:=Swp.of K ga gb (by omega)
 have w2:IntKind.i64.wrap (((L.length + W.length + 1:Nat):Int) - 1) = ((L.length + W.length:Nat):Int):=by rw [z0t (by omega)]; omega
 rw [← Nat.add_assoc] at t17
 generalize hja:L.length + W.length = ja at *
 have la:((ja + 1:Nat):Int) < (Y.length:Int):=by omega
 have lb:(ja:Int) < (Y.length:Int):=by omega
 have z0:∀ x:Nat,(0:Int)≤(x:Int):=fun x=>Int.natCast_nonneg x
 have hX2':=hX2
 unfold ObjE Kind15.f at hX2'
 have hk1:=K.take
 have hk2:=K.drop
 have hk3:=K.len
 have hk4:=K.one
 rw [hset] at s2
 simp (maxSteps:=9^7) only [go_sem,↓reduceIte,reduceCtorEq,Nat.reduceEqDiff,Nat.reduceBEq,Nat.reduceAdd,Nat.reduceSub,Nat.reduceMul,Nat.reduceLT,Nat.reduceLeDiff,Nat.reduceBNe,Int.reduceBEq,Int.reduceBNe,Int.reduceLT,Int.reduceLE,t0,t14,t17,hX2',w2,hlt',la,lb,ha,hb',s1,hc,s2,la',lb',lc',hk1,hk2,hk3,hk4,z0,Int.toNat_natCast,List.length_map]
 have eY:L ++ W ++ x :: (z :: V ++ R) = Y2:=hY2
 refine ⟨W.length,by rw [hl1]; omega,W,z :: V,by rw [← hUV]; simp,rfl,?_,?_,?_,?_,?_,?_,?_,?_⟩
 iterate 2 focus ((simp (maxSteps:=9^7) only [go_sem,↓reduceIte,reduceCtorEq,Nat.reduceEqDiff,Nat.reduceBEq,Nat.reduceAdd,Nat.reduceSub,Nat.reduceMul,Nat.reduceLT,Nat.reduceLeDiff,Nat.reduceBNe,Int.reduceBEq,Int.reduceBNe,Int.reduceLT,Int.reduceLE,t14,hja]) <;> rfl)
 ·rw [eY]
  have:Y.length = Y2.length:=by omega
  simp (maxSteps:=9^7) only [go_sem,↓reduceIte,reduceCtorEq,Nat.reduceEqDiff,Nat.reduceBEq,Nat.reduceAdd,Nat.reduceSub,Nat.reduceMul,Nat.reduceLT,Nat.reduceLeDiff,Nat.reduceBNe,Int.reduceBEq,Int.reduceBNe,Int.reduceLT,Int.reduceLE,t0,this]
 iterate 4 focus ((simp (maxSteps:=9^7) only [go_sem,↓reduceIte,reduceCtorEq,Nat.reduceEqDiff,Nat.reduceBEq,Nat.reduceAdd,Nat.reduceSub,Nat.reduceMul,Nat.reduceLT,Nat.reduceLeDiff,Nat.reduceBNe,Int.reduceBEq,Int.reduceBNe,Int.reduceLT,Int.reduceLE,t1,t2,t3,t4]) <;> rfl)
 ·rw [eY]
  refine ⟨fun q hq=>?_,?_⟩
  ·have hq':q + 1000 ≠ r + 1000:=by omega
   have:=hH.1 q hq
   simp (maxSteps:=9^7) only [go_sem,↓reduceIte,reduceCtorEq,Nat.reduceEqDiff,Nat.reduceBEq,Nat.reduceAdd,Nat.reduceSub,Nat.reduceMul,Nat.reduceLT,Nat.reduceLeDiff,Nat.reduceBNe,Int.reduceBEq,Int.reduceBNe,Int.reduceLT,Int.reduceLE,hq',this]
  ·unfold ObjE Kind15.f
   simp (maxSteps:=9^7) only [go_sem,↓reduceIte,reduceCtorEq,Nat.reduceEqDiff,Nat.reduceBEq,Nat.reduceAdd,Nat.reduceSub,Nat.reduceMul,Nat.reduceLT,Nat.reduceLeDiff,Nat.reduceBNe,Int.reduceBEq,Int.reduceBNe,Int.reduceLT,Int.reduceLE]
end
end
section
/-
 Merging two halves in place: the turn,and the two merges behind it: the library's code,walked.
-/
open Go.RowKit
attribute [local go_sem ↓] z0s z0g
attribute [local go_sem ↓] z76
attribute [local go_sem] z59 z6k z4h z4k z52 z51 z2o z2y z50 z4z z2n z2x z5i z5h z5g z5f z5e z5d z5c z5b z47 z46 z45 z44 z43 z42 z41 z40 z3z z3y z3x z3w z3v z3u z3t z3s z3r z3q z3p z3o z3n z3m z3l z3k z3j z2v z2u z2t z2s z2r z2q z2p
section
variable {α:Type} (K:Kind15 α) (key:α->Int)
/-- what merging two halves does -/
def zrm (f n:Nat):Prop:=∀ (H:Nat->Option Arr) (r:Nat) (P A B R:List α),A.length + B.length < n->0 < A.length->0 < B.length->Rise key A->Rise key B->(P ++ A ++ B ++ R).length≤1000000->H r = ObjE K (P ++ A ++ B ++ R) ->
 MFn Try.prog 54 [.rs r 0 (P ++ A ++ B ++ R).length,.int .i64 P.length,.int .i64 ((P.length + A.length:Nat):Int),.int .i64 ((P.length + A.length + B.length:Nat):Int),.clo f [] []] H (.tup []) (upd H r (ObjE K (P ++ srt key (A ++ B) ++ R)))
theorem zrm.at {f n:Nat} (h:zrm K key f n) (H:Nat->Option Arr) (r:Nat) {X X' P A B R:List α} {N:Nat} {a m b:Int} (hX:X = P ++ A ++ B ++ R) (hX':X' = P ++ srt key (A ++ B) ++ R) (hn:A.length + B.length < n) (hA:0 < A.length) (hB:0 < B.length) (rA:Rise key A) (rB:Rise key B) (hb:X.length≤1000000) (hN:N = X.length)
  (ha:a = P.length) (hm:m = ((P.length + A.length:Nat):Int)) (hb':b = ((P.length + A.length + B.length:Nat):Int)) (hr:H r = ObjE K X) :
  MFn Try.prog 54 [.rs r 0 N,.int .i64 a,.int .i64 m,.int .i64 b,.clo f [] []] H (.tup []) (upd H r (ObjE K X')):=by
 subst hX hX' hN ha hm hb'
 exact h H r P A B R hn hA hB rA rB hb hr
theorem rotE_at (H:Nat->Option Arr) (r f:Nat) {X X' P A B R:List α} {N:Nat} {a m b:Int} (hX:X = P ++ A ++ B ++ R) (hX':X' = P ++ B ++ A ++ R) (hA:0 < A.length) (hB:0 < B.length) (hb:X.length≤1000000) (hN:N = X.length)
  (ha:a = P.length) (hm:m = ((P.length + A.length:Nat):Int)) (hb':b = ((P.length + A.length + B.length:Nat):Int)) (hr:H r = ObjE K X) :
  MFn Try.prog 72 [.rs r 0 N,.int .i64 a,.int .i64 m,.int .i64 b,.clo f [] []] H (.tup []) (upd H r (ObjE K X')):=by
 subst hX hX' hN ha hm hb'
 exact rotE_ok K H r f P A B R hA hB hb hr
structure SymG (H:Nat->Option Arr) (r f:Nat) (a m b mid s e:Int) (X:List α) (σ:St):Prop where
 f:SymF K H r f a m b X σ
 t18:σ.T 18 = .int .i64 mid
 t20:σ.T 20 = .int .i64 s
 t24:σ.T 24 = .int .i64 e
theorem z4y {l:List α} (h:¬ 0 < l.length):l = []:=List.length_eq_zero_iff.1 (by omega)
def symT1 (P:Program):IR:=(.seq (.regx P z2u)
 (.cond (.t 185) (.regx P z2t)
 .skip))
def symT2 (P:Program):IR:=(.seq (.regx P z2s)
 (.cond (.t 199) (.regx P z2r)
 .skip))
def symT3 (P:Program):IR:=(.seq (.regx P z2q)
 (.cond (.t 213) (.regx P z2p)
 .skip))
set_option maxHeartbeats 8000000 in
theorem symT1_ok (H:Nat->Option Arr) (r f:Nat) {a m b mid s e:Int} (P A1 A2 B1 B2 R:List α) (hs:s = ((P.length + A1.length:Nat):Int)) (hm:m = ((P.length + A1.length + A2.length:Nat):Int)) (he:e = ((P.length + A1.length + A2.length + B1.length:Nat):Int)) (hb:(P ++ (A1 ++ A2) ++ (B1 ++ B2) ++ R).length≤1000000)
  (Q:XK->St->Prop) (σ:St) (hG:SymG K H r f a m b mid s e (P ++ (A1 ++ A2) ++ (B1 ++ B2) ++ R) σ) (hQ:∀ σ',SymG K H r f a m b mid s e (P ++ (A1 ++ B1) ++ (A2 ++ B2) ++ R) σ'->Q .normal σ'):run (AFn Try.prog) (symT1 Try.prog) Q σ:=by
 obtain ⟨⟨t0,t1,t2,t3,t4,hH⟩,t18,t20,t24⟩:=hG
 have hlen:(P ++ (A1 ++ B1) ++ (A2 ++ B2) ++ R).length = (P ++ (A1 ++ A2) ++ (B1 ++ B2) ++ R).length:=by simp only [List.length_append]; omega
 simp only [symT1]
 by_cases h1:0 < A2.length
 case neg =>
  have e1:=z4y h1
  subst e1
  have d1:¬ s < m:=by rw [hs,hm]; simp
  simp (maxSteps:=9^7) only [go_sem,↓reduceIte,reduceCtorEq,Nat.reduceEqDiff,Nat.reduceBEq,Nat.reduceAdd,Nat.reduceSub,Nat.reduceMul,Nat.reduceLT,Nat.reduceLeDiff,Nat.reduceBNe,Int.reduceBEq,Int.reduceBNe,Int.reduceLT,Int.reduceLE,t0,t1,t2,t3,t4,t18,t20,t24,d1]
  refine hQ _ ⟨⟨?_,?_,?_,?_,?_,?_⟩,?_,?_,?_⟩
  ·rw [hlen]; simp (maxSteps:=9^7) only [go_sem,↓reduceIte,reduceCtorEq,Nat.reduceEqDiff,Nat.reduceBEq,Nat.reduceAdd,Nat.reduceSub,Nat.reduceMul,Nat.reduceLT,Nat.reduceLeDiff,Nat.reduceBNe,Int.reduceBEq,Int.reduceBNe,Int.reduceLT,Int.reduceLE,t0]
  iterate 4 focus ((simp (maxSteps:=9^7) only [go_sem,↓reduceIte,reduceCtorEq,Nat.reduceEqDiff,Nat.reduceBEq,Nat.reduceAdd,Nat.reduceSub,Nat.reduceMul,Nat.reduceLT,Nat.reduceLeDiff,Nat.reduceBNe,Int.reduceBEq,Int.reduceBNe,Int.reduceLT,Int.reduceLE,t1,t2,t3,t4]) <;> rfl)
  ·have:P ++ (A1 ++ B1) ++ ([] ++ B2) ++ R = P ++ (A1 ++ []) ++ (B1 ++ B2) ++ R:=by simp
   rw [this]; exact hH
  iterate 3 focus ((simp (maxSteps:=9^7) only [go_sem,↓reduceIte,reduceCtorEq,Nat.reduceEqDiff,Nat.reduceBEq,Nat.reduceAdd,Nat.reduceSub,Nat.reduceMul,Nat.reduceLT,Nat.reduceLeDiff,Nat.reduceBNe,Int.reduceBEq,Int.reduceBNe,Int.reduceLT,Int.reduceLE,t18,t20,t24]) <;> rfl)
 have d1:s < m:=by omega
 by_cases h2:0 < B1.length
 case neg =>
  have e1:=z4y h2
  subst e1
  have d2:¬ m < e:=by rw [he,hm]; simp
  simp (maxSteps:=9^7) only [go_sem,↓reduceIte,reduceCtorEq,Nat.reduceEqDiff,Nat.reduceBEq,Nat.reduceAdd,Nat.reduceSub,Nat.reduceMul,Nat.reduceLT,Nat.reduceLeDiff,Nat.reduceBNe,Int.reduceBEq,Int.reduceBNe,Int.reduceLT,Int.reduceLE,t0,t1,t2,t3,t4,t18,t20,t24,d1,d2]
  refine hQ _ ⟨⟨?_,?_,?_,?_,?_,?_⟩,?_,?_,?_⟩
  ·rw [hlen]; simp (maxSteps:=9^7) only [go_sem,↓reduceIte,reduceCtorEq,Nat.reduceEqDiff,Nat.reduceBEq,Nat.reduceAdd,Nat.reduceSub,Nat.reduceMul,Nat.reduceLT,Nat.reduceLeDiff,Nat.reduceBNe,Int.reduceBEq,Int.reduceBNe,Int.reduceLT,Int.reduceLE,t0]
  iterate 4 focus ((simp (maxSteps:=9^7) only [go_sem,↓reduceIte,reduceCtorEq,Nat.reduceEqDiff,Nat.reduceBEq,Nat.reduceAdd,Nat.reduceSub,Nat.reduceMul,Nat.reduceLT,Nat.reduceLeDiff,Nat.reduceBNe,Int.reduceBEq,Int.reduceBNe,Int.reduceLT,Int.reduceLE,t1,t2,t3,t4]) <;> rfl)
  ·have:P ++ (A1 ++ []) ++ (A2 ++ B2) ++ R = P ++ (A1 ++ A2) ++ ([] ++ B2) ++ R:=by simp
   rw [this]; exact hH
  iterate 3 focus ((simp (maxSteps:=9^7) only [go_sem,↓reduceIte,reduceCtorEq,Nat.reduceEqDiff,Nat.reduceBEq,Nat.reduceAdd,Nat.reduceSub,Nat.reduceMul,Nat.reduceLT,Nat.reduceLeDiff,Nat.reduceBNe,Int.reduceBEq,Int.reduceBNe,Int.reduceLT,Int.reduceLE,t18,t20,t24]) <;> rfl)
 have d2:m < e:=by omega
 simp (maxSteps:=9^7) only [go_sem,↓reduceIte,reduceCtorEq,Nat.reduceEqDiff,Nat.reduceBEq,Nat.reduceAdd,Nat.reduceSub,Nat.reduceMul,Nat.reduceLT,Nat.reduceLeDiff,Nat.reduceBNe,Int.reduceBEq,Int.reduceBNe,Int.reduceLT,Int.reduceLE,t0,t1,t2,t3,t4,t18,t20,t24,d1,d2,z10]
 refine z17 (rotE_at K _ (r + 1000) f (X:=P ++ (A1 ++ A2) ++ (B1 ++ B2) ++ R) (X':=P ++ (A1 ++ B1) ++ (A2 ++ B2) ++ R) (P:=P ++ A1) (A:=A2) (B:=B1) (R:=B2 ++ R) (by simp) (by simp) h1 h2 hb rfl (by rw [hs,List.length_append]) (by rw [hm,List.length_append]) (by rw [he,List.length_append]) ?_) ?_
 ·exact hH.2
 have c2:=z34 K (X':=P ++ (A1 ++ B1) ++ (A2 ++ B2) ++ R) hH
 simp (maxSteps:=9^7) only [go_sem,↓reduceIte,reduceCtorEq,Nat.reduceEqDiff,Nat.reduceBEq,Nat.reduceAdd,Nat.reduceSub,Nat.reduceMul,Nat.reduceLT,Nat.reduceLeDiff,Nat.reduceBNe,Int.reduceBEq,Int.reduceBNe,Int.reduceLT,Int.reduceLE,z10]
 refine hQ _ ⟨⟨?_,?_,?_,?_,?_,?_⟩,?_,?_,?_⟩
 ·rw [hlen]; simp (maxSteps:=9^7) only [go_sem,↓reduceIte,reduceCtorEq,Nat.reduceEqDiff,Nat.reduceBEq,Nat.reduceAdd,Nat.reduceSub,Nat.reduceMul,Nat.reduceLT,Nat.reduceLeDiff,Nat.reduceBNe,Int.reduceBEq,Int.reduceBNe,Int.reduceLT,Int.reduceLE,t0]
 iterate 4 focus ((simp (maxSteps:=9^7) only [go_sem,↓reduceIte,reduceCtorEq,Nat.reduceEqDiff,Nat.reduceBEq,Nat.reduceAdd,Nat.reduceSub,Nat.reduceMul,Nat.reduceLT,Nat.reduceLeDiff,Nat.reduceBNe,Int.reduceBEq,Int.reduceBNe,Int.reduceLT,Int.reduceLE,t1,t2,t3,t4]) <;> rfl)
 ·exact c2
 iterate 3 focus ((simp (maxSteps:=9^7) only [go_sem,↓reduceIte,reduceCtorEq,Nat.reduceEqDiff,Nat.reduceBEq,Nat.reduceAdd,Nat.reduceSub,Nat.reduceMul,Nat.reduceLT,Nat.reduceLeDiff,Nat.reduceBNe,Int.reduceBEq,Int.reduceBNe,Int.reduceLT,Int.reduceLE,t18,t20,t24]) <;> rfl)
set_option maxHeartbeats 8000000 in
theorem symT2_ok (H:Nat->Option Arr) (r f n:Nat) (hI:zrm K key f n) {a m b mid s e:Int} (P A1 A2 B1 B2 R:List α) (hn:A1.length + B1.length < n) (hA:Rise key A1) (hB:Rise key B1) (ha:a = P.length) (hs:s = ((P.length + A1.length:Nat):Int)) (hm:mid = ((P.length + A1.length + B1.length:Nat):Int)) (hb:(P ++ (A1 ++ B1) ++ (A2 ++ B2) ++ R).length≤1000000)
  (Q:XK->St->Prop) (σ:St) (hG:SymG K H r f a m b mid s e (P ++ (A1 ++ B1) ++ (A2 ++ B2) ++ R) σ) (hQ:∀ σ',SymG K H r f a m b mid s e (P ++ srt key (A1 ++ B1) ++ (A2 ++ B2) ++ R) σ'->Q .normal σ'):run (AFn Try.prog) (symT2 Try.prog) Q σ:=by
 obtain ⟨⟨t0,t1,t2,t3,t4,hH⟩,t18,t20,t24⟩:=hG
 have hlen:(P ++ srt key (A1 ++ B1) ++ (A2 ++ B2) ++ R).length = (P ++ (A1 ++ B1) ++ (A2 ++ B2) ++ R).length:=by simp only [List.length_append,z0d]
 simp only [symT2]
 by_cases h1:0 < A1.length
 case neg =>
  have e1:=z4y h1
  subst e1
  have d1:¬ a < s:=by rw [hs,ha]; simp
  have e2:srt key ([] ++ B1) = [] ++ B1:=by rw [List.nil_append]; exact z6c key hB
  rw [e2] at hQ
  simp (maxSteps:=9^7) only [go_sem,↓reduceIte,reduceCtorEq,Nat.reduceEqDiff,Nat.reduceBEq,Nat.reduceAdd,Nat.reduceSub,Nat.reduceMul,Nat.reduceLT,Nat.reduceLeDiff,Nat.reduceBNe,Int.reduceBEq,Int.reduceBNe,Int.reduceLT,Int.reduceLE,t0,t1,t2,t3,t4,t18,t20,t24,d1]
  refine hQ _ ⟨⟨?_,?_,?_,?_,?_,?_⟩,?_,?_,?_⟩
  iterate 5 focus ((simp (maxSteps:=9^7) only [go_sem,↓reduceIte,reduceCtorEq,Nat.reduceEqDiff,Nat.reduceBEq,Nat.reduceAdd,Nat.reduceSub,Nat.reduceMul,Nat.reduceLT,Nat.reduceLeDiff,Nat.reduceBNe,Int.reduceBEq,Int.reduceBNe,Int.reduceLT,Int.reduceLE,t0,t1,t2,t3,t4]) <;> rfl)
  ·exact hH
  iterate 3 focus ((simp (maxSteps:=9^7) only [go_sem,↓reduceIte,reduceCtorEq,Nat.reduceEqDiff,Nat.reduceBEq,Nat.reduceAdd,Nat.reduceSub,Nat.reduceMul,Nat.reduceLT,Nat.reduceLeDiff,Nat.reduceBNe,Int.reduceBEq,Int.reduceBNe,Int.reduceLT,Int.reduceLE,t18,t20,t24]) <;> rfl)
 have d1:a < s:=by omega
 by_cases h2:0 < B1.length
 case neg =>
  have e1:=z4y h2
  subst e1
  have d2:¬ s < mid:=by rw [hs,hm]; simp
  have e2:srt key (A1 ++ []) = A1 ++ []:=by rw [List.append_nil]; exact z6c key hA
  rw [e2] at hQ
  simp (maxSteps:=9^7) only [go_sem,↓reduceIte,reduceCtorEq,Nat.reduceEqDiff,Nat.reduceBEq,Nat.reduceAdd,Nat.reduceSub,Nat.reduceMul,Nat.reduceLT,Nat.reduceLeDiff,Nat.reduceBNe,Int.reduceBEq,Int.reduceBNe,Int.reduceLT,Int.reduceLE,t0,t1,t2,t3,t4,t18,t20,t24,d1,d2]
  refine hQ _ ⟨⟨?_,?_,?_,?_,?_,?_⟩,?_,?_,?_⟩
  iterate 5 focus ((simp (maxSteps:=9^7) only [go_sem,↓reduceIte,reduceCtorEq,Nat.reduceEqDiff,Nat.reduceBEq,Nat.reduceAdd,Nat.reduceSub,Nat.reduceMul,Nat.reduceLT,Nat.reduceLeDiff,Nat.reduceBNe,Int.reduceBEq,Int.reduceBNe,Int.reduceLT,Int.reduceLE,t0,t1,t2,t3,t4]) <;> rfl)
  ·exact hH
  iterate 3 focus ((simp (maxSteps:=9^7) only [go_sem,↓reduceIte,reduceCtorEq,Nat.reduceEqDiff,Nat.reduceBEq,Nat.reduceAdd,Nat.reduceSub,Nat.reduceMul,Nat.reduceLT,Nat.reduceLeDiff,Nat.reduceBNe,Int.reduceBEq,Int.reduceBNe,Int.reduceLT,Int.reduceLE,t18,t20,t24]) <;> rfl)
 have d2:s < mid:=by omega
 simp (maxSteps:=9^7) only [go_sem,↓reduceIte,reduceCtorEq,Nat.reduceEqDiff,Nat.reduceBEq,Nat.reduceAdd,Nat.reduceSub,Nat.reduceMul,Nat.reduceLT,Nat.reduceLeDiff,Nat.reduceBNe,Int.reduceBEq,Int.reduceBNe,Int.reduceLT,Int.reduceLE,t0,t1,t2,t3,t4,t18,t20,t24,d1,d2,z10]
 refine z17 (hI.at K key _ (r + 1000) (X:=P ++ (A1 ++ B1) ++ (A2 ++ B2) ++ R) (X':=P ++ srt key (A1 ++ B1) ++ (A2 ++ B2) ++ R) (P:=P) (A:=A1) (B:=B1) (R:=(A2 ++ B2) ++ R) (by simp) (by simp) hn h1 h2 hA hB hb rfl ha hs hm ?_) ?_
 ·exact hH.2
 have c2:=z34 K (X':=P ++ srt key (A1 ++ B1) ++ (A2 ++ B2) ++ R) hH
 simp (maxSteps:=9^7) only [go_sem,↓reduceIte,reduceCtorEq,Nat.reduceEqDiff,Nat.reduceBEq,Nat.reduceAdd,Nat.reduceSub,Nat.reduceMul,Nat.reduceLT,Nat.reduceLeDiff,Nat.reduceBNe,Int.reduceBEq,Int.reduceBNe,Int.reduceLT,Int.reduceLE,z10]
 refine hQ _ ⟨⟨?_,?_,?_,?_,?_,?_⟩,?_,?_,?_⟩
 ·rw [hlen]; simp (maxSteps:=9^7) only [go_sem,↓reduceIte,reduceCtorEq,Nat.reduceEqDiff,Nat.reduceBEq,Nat.reduceAdd,Nat.reduceSub,Nat.reduceMul,Nat.reduceLT,Nat.reduceLeDiff,Nat.reduceBNe,Int.reduceBEq,Int.reduceBNe,Int.reduceLT,Int.reduceLE,t0]
 iterate 4 focus ((simp (maxSteps:=9^7) only [go_sem,↓reduceIte,reduceCtorEq,Nat.reduceEqDiff,Nat.reduceBEq,Nat.reduceAdd,Nat.reduceSub,Nat.reduceMul,Nat.reduceLT,Nat.reduceLeDiff,Nat.reduceBNe,Int.reduceBEq,Int.reduceBNe,Int.reduceLT,Int.reduceLE,t1,t2,t3,t4]) <;> rfl)
 ·exact c2
 iterate 3 focus ((simp (maxSteps:=9^7) only [go_sem,↓reduceIte,reduceCtorEq,Nat.reduceEqDiff,Nat.reduceBEq,Nat.reduceAdd,Nat.reduceSub,Nat.reduceMul,Nat.reduceLT,Nat.reduceLeDiff,Nat.reduceBNe,Int.reduceBEq,Int.reduceBNe,Int.reduceLT,Int.reduceLE,t18,t20,t24]) <;> rfl)
set_option maxHeartbeats 8000000 in
theorem symT3_ok (H:Nat->Option Arr) (r f n:Nat) (hI:zrm K key f n) {a m b mid s e:Int} (P A2 B2 R:List α) (hn:A2.length + B2.length < n) (hA:Rise key A2) (hB:Rise key B2) (hm:mid = P.length) (he:e = ((P.length + A2.length:Nat):Int)) (hb':b = ((P.length + A2.length + B2.length:Nat):Int)) (hb:(P ++ A2 ++ B2 ++ R).length≤1000000)
  (Q:XK->St->Prop) (σ:St) (hG:SymG K H r f a m b mid s e (P ++ A2 ++ B2 ++ R) σ) (hQ:∀ σ',only K H σ'.H r (P ++ srt key (A2 ++ B2) ++ R)->Q .normal σ'):run (AFn Try.prog) (symT3 Try.prog) Q σ:=by
 obtain ⟨⟨t0,t1,t2,t3,t4,hH⟩,t18,t20,t24⟩:=hG
 simp only [symT3]
 by_cases h1:0 < A2.length
 case neg =>
  have e1:=z4y h1
  subst e1
  have d1:¬ mid < e:=by rw [he,hm]; simp
  have e2:P ++ srt key ([] ++ B2) ++ R = P ++ [] ++ B2 ++ R:=by rw [List.nil_append,z6c key hB,List.append_nil]
  rw [e2] at hQ
  simp (maxSteps:=9^7) only [go_sem,↓reduceIte,reduceCtorEq,Nat.reduceEqDiff,Nat.reduceBEq,Nat.reduceAdd,Nat.reduceSub,Nat.reduceMul,Nat.reduceLT,Nat.reduceLeDiff,Nat.reduceBNe,Int.reduceBEq,Int.reduceBNe,Int.reduceLT,Int.reduceLE,t0,t1,t2,t3,t4,t18,t20,t24,d1]
  exact hQ _ hH
 have d1:mid < e:=by omega
 by_cases h2:0 < B2.length
 case neg =>
  have e1:=z4y h2
  subst e1
  have d2:¬ e < b:=by rw [he,hb']; simp
  have e2:P ++ srt key (A2 ++ []) ++ R = P ++ A2 ++ [] ++ R:=by rw [List.append_nil,z6c key hA,List.append_nil]
  rw [e2] at hQ
  simp (maxSteps:=9^7) only [go_sem,↓reduceIte,reduceCtorEq,Nat.reduceEqDiff,Nat.reduceBEq,Nat.reduceAdd,Nat.reduceSub,Nat.reduceMul,Nat.reduceLT,Nat.reduceLeDiff,Nat.reduceBNe,Int.reduceBEq,Int.reduceBNe,Int.reduceLT,Int.reduceLE,t0,t1,t2,t3,t4,t18,t20,t24,d1,d2]
  exact hQ _ hH
 have d2:e < b:=by omega
 simp (maxSteps:=9^7) only [go_sem,↓reduceIte,reduceCtorEq,Nat.reduceEqDiff,Nat.reduceBEq,Nat.reduceAdd,Nat.reduceSub,Nat.reduceMul,Nat.reduceLT,Nat.reduceLeDiff,Nat.reduceBNe,Int.reduceBEq,Int.reduceBNe,Int.reduceLT,Int.reduceLE,t0,t1,t2,t3,t4,t18,t20,t24,d1,d2,z10]
 refine z17 (hI.at K key _ (r + 1000) (X:=P ++ A2 ++ B2 ++ R) (X':=P ++ srt key (A2 ++ B2) ++ R) (P:=P) (A:=A2) (B:=B2) (R:=R) rfl rfl hn h1 h2 hA hB hb rfl hm he hb' ?_) ?_
 ·exact hH.2
 have c2:=z34 K (X':=P ++ srt key (A2 ++ B2) ++ R) hH
 simp (maxSteps:=9^7) only [go_sem,↓reduceIte,reduceCtorEq,Nat.reduceEqDiff,Nat.reduceBEq,Nat.reduceAdd,Nat.reduceSub,Nat.reduceMul,Nat.reduceLT,Nat.reduceLeDiff,Nat.reduceBNe,Int.reduceBEq,Int.reduceBNe,Int.reduceLT,Int.reduceLE,z10]
 exact hQ _ c2
end
end
section
/-
 Merging two halves in place: the whole: the library's code,walked.
-/
open Go.RowKit
attribute [local go_sem ↓] z0s z0g
attribute [local go_sem ↓] z76
attribute [local go_sem] z59 z6k z4h z4k z52 z51 z2o z2y z50 z4z z2n z2x z5i z5h z5g z5f z5e z5d z5c z5b z47 z46 z45 z44 z43 z42 z41 z40 z3z z3y z3x z3w z3v z3u z3t z3s z3r z3q z3p z3o z3n z3m z3l z3k z3j z2v z2u z2t z2s z2r z2q z2p
section
variable {α:Type} (K:Kind15 α) (key:α->Int)
set_option maxHeartbeats 8000000 in
theorem sym_one {f:FuncId} {c:α->α->Int} (hc:z82 K key f c) (H:Nat->Option Arr) (r:Nat) (P:List α) (x:α) (B R:List α) (hB0:0 < B.length) (hB:Rise key B) (hb:(P ++ [x] ++ B ++ R).length≤1000000) (hr:H r = ObjE K (P ++ [x] ++ B ++ R)) :
  MFn Try.prog 54 [.rs r 0 (P ++ [x] ++ B ++ R).length,.int .i64 P.length,.int .i64 ((P.length + 1:Nat):Int),.int .i64 ((P.length + 1 + B.length:Nat):Int),.clo f [] []] H (.tup []) (upd H r (ObjE K (P ++ srt key ([x] ++ B) ++ R))):=by
 refine zhv rfl ?_
 have hl:(P ++ [x] ++ B ++ R).length = P.length + 1 + B.length + R.length:=by simp only [List.length_append,List.length_cons,List.length_nil]
 have hb4:P.length + 1 + B.length + R.length≤1000000:=by omega
 have w1:IntKind.i64.wrap (((P.length + 1:Nat):Int) - (P.length:Int)) = 1:=by rw [z0t (by omega)]; omega
 have hmono:=fun u v=>z6h key (X:=P ++ [x] ++ B ++ R) rfl hB (u:=u) (v:=v)
 have hx:(P ++ [x] ++ B ++ R)[P.length]? = some x:=by
  have:=zxa P [] x (B ++ R)
  simp
 have o0:((1:Int) == 1) = true:=rfl
 have hPl:(P ++ [x]).length = P.length + 1:=by simp
 simp (maxSteps:=9^7) only [go_sem,↓reduceIte,reduceCtorEq,Nat.reduceEqDiff,Nat.reduceBEq,Nat.reduceAdd,Nat.reduceSub,Nat.reduceMul,Nat.reduceLT,Nat.reduceLeDiff,Nat.reduceBNe,Int.reduceBEq,Int.reduceBNe,Int.reduceLT,Int.reduceLE,sh,w1,o0]
 refine z0f (s1I K key H r f P.length (P.length + 1) (P.length + 1 + B.length) (P ++ [x] ++ B ++ R) x) (k:=P.length + 1 + B.length - (P.length + 1)) ⟨P.length + 1,P.length + 1 + B.length,Cut.start _ (by omega),rfl,?_,?_,?_,?_,?_,?_,?_,?_⟩ (s1_loop K key hc H r P.length (P.length + 1) (P.length + 1 + B.length) (P ++ [x] ++ B ++ R) x hb (by omega) (by omega) hx (fun u v h1 h2 h3 g1 g2=>g1 (by have:=hmono u v (by omega) h2 (by omega); omega)) _ ?_)
 iterate 7 focus ((simp (maxSteps:=9^7) only [go_sem,↓reduceIte,reduceCtorEq,Nat.reduceEqDiff,Nat.reduceBEq,Nat.reduceAdd,Nat.reduceSub,Nat.reduceMul,Nat.reduceLT,Nat.reduceLeDiff,Nat.reduceBNe,Int.reduceBEq,Int.reduceBNe,Int.reduceLT,Int.reduceLE,sh]) <;> rfl)
 ·refine ⟨fun q hq=>?_,?_⟩
  iterate 2 focus ((simp (maxSteps:=9^7) only [go_sem,↓reduceIte,reduceCtorEq,Nat.reduceEqDiff,Nat.reduceBEq,Nat.reduceAdd,Nat.reduceSub,Nat.reduceMul,Nat.reduceLT,Nat.reduceLeDiff,Nat.reduceBNe,Int.reduceBEq,Int.reduceBNe,Int.reduceLT,Int.reduceLE,hr]) <;> rfl)
 rintro σ2 s hC t10 ⟨t0,t1,t2,t3,t4,hH⟩
 have c1:=hC.l0
 have c3:=hC.r0
 obtain ⟨B1,B2,hB12,hB1⟩:∃ B1 B2,B = B1 ++ B2∧B1.length = s - (P.length + 1):=⟨B.take (s - (P.length + 1)),B.drop (s - (P.length + 1)),(List.take_append_drop ..).symm,by rw [List.length_take]; omega⟩
 subst hB12
 rw [List.length_append] at c3 hC
 have g1:∀ y,y ∈ B1->key y < key x:=fun y hy=>by
  obtain ⟨u,a1,a2,a3⟩:=z9o key (X:=P ++ [x] ++ (B1 ++ B2) ++ R) (L:=P ++ [x]) (B:=B1) (R:=B2 ++ R) (by simp) hy
  have:=hC.no u (by omega) (by omega)
  rw [a3] at this
  exact Decidable.not_not.1 this
 have g2:∀ y,y ∈ B2->key x≤key y:=fun y hy=>by
  obtain ⟨u,a1,a2,a3⟩:=z9o key (X:=P ++ [x] ++ (B1 ++ B2) ++ R) (L:=P ++ [x] ++ B1) (B:=B2) (R:=R) (by simp) hy
  rw [List.length_append,hPl] at a1 a2
  have:=hC.yes u (by omega) (by omega)
  rw [a3] at this
  omega
 have e1:P ++ [x] ++ (B1 ++ B2) ++ R = P ++ [] ++ x :: (B1 ++ (B2 ++ R)):=by simp
 have e2:P ++ srt key ([x] ++ (B1 ++ B2)) ++ R = P ++ B1 ++ x :: (B2 ++ R):=by
  rw [← zda key hB g1 g2]; simp
 have hs:s = P.length + B1.length + 1:=by omega
 subst hs
 rw [e1] at hH t0
 simp only [List.length_append] at hb4
 simp (maxSteps:=9^7) only [go_sem,↓reduceIte,reduceCtorEq,Nat.reduceEqDiff,Nat.reduceBEq,Nat.reduceAdd,Nat.reduceSub,Nat.reduceMul,Nat.reduceLT,Nat.reduceLeDiff,Nat.reduceBNe,Int.reduceBEq,Int.reduceBNe,Int.reduceLT,Int.reduceLE,t10,t1]
 refine z0f (f1I K H r f P.length ((P.length + 1:Nat):Int) ((P.length + 1 + (B1 ++ B2).length:Nat):Int) P B1 (B2 ++ R) x) (k:=B1.length) ⟨[],B1,rfl,rfl,?_,?_,?_,?_,?_,?_,?_,?_⟩ (f1_loop K f H r _ _ _ P B1 (B2 ++ R) x (by simp only [List.length_append]; omega) _ ?_)
 iterate 7 focus ((simp (maxSteps:=9^7) only [go_sem,↓reduceIte,reduceCtorEq,Nat.reduceEqDiff,Nat.reduceBEq,Nat.reduceAdd,Nat.reduceSub,Nat.reduceMul,Nat.reduceLT,Nat.reduceLeDiff,Nat.reduceBNe,Int.reduceBEq,Int.reduceBNe,Int.reduceLT,Int.reduceLE,t10,t0,t1,t2,t3,t4]) <;> rfl)
 ·exact hH
 rintro σ3 ⟨_,_,_,_,_,hH3⟩
 rw [← e2] at hH3
 have hf:=z5j K hH3
 simp (maxSteps:=9^7) only [go_sem,↓reduceIte,reduceCtorEq,Nat.reduceEqDiff,Nat.reduceBEq,Nat.reduceAdd,Nat.reduceSub,Nat.reduceMul,Nat.reduceLT,Nat.reduceLeDiff,Nat.reduceBNe,Int.reduceBEq,Int.reduceBNe,Int.reduceLT,Int.reduceLE]
 exact hf
set_option maxHeartbeats 8000000 in
theorem sym_one2 {f:FuncId} {c:α->α->Int} (hc:z82 K key f c) (H:Nat->Option Arr) (r:Nat) (P A:List α) (y:α) (R:List α) (hA0:1 < A.length) (hA:Rise key A) (hb:(P ++ A ++ [y] ++ R).length≤1000000) (hr:H r = ObjE K (P ++ A ++ [y] ++ R)) :
  MFn Try.prog 54 [.rs r 0 (P ++ A ++ [y] ++ R).length,.int .i64 P.length,.int .i64 ((P.length + A.length:Nat):Int),.int .i64 ((P.length + A.length + 1:Nat):Int),.clo f [] []] H (.tup []) (upd H r (ObjE K (P ++ srt key (A ++ [y]) ++ R))):=by
 refine zhv rfl ?_
 have hl:(P ++ A ++ [y] ++ R).length = P.length + A.length + 1 + R.length:=by simp only [List.length_append,List.length_cons,List.length_nil]
 have hb4:P.length + A.length + 1 + R.length≤1000000:=by omega
 have w1:IntKind.i64.wrap (((P.length + A.length:Nat):Int) - (P.length:Int)) = (A.length:Int):=by rw [z0t (by omega)]; omega
 have w2:IntKind.i64.wrap (((P.length + A.length + 1:Nat):Int) - ((P.length + A.length:Nat):Int)) = 1:=by rw [z0t (by omega)]; omega
 have hmono:=fun u v=>z6h key (X:=P ++ A ++ [y] ++ R) (L:=P) (B:=A) (R:=[y] ++ R) (by simp) hA (u:=u) (v:=v)
 have hx:(P ++ A ++ [y] ++ R)[P.length + A.length]? = some y:=by
  have:=zxa P A y R
  simp
 have o1:((A.length:Int) == 1) = false:=by simp; omega
 have o0:((1:Int) == 1) = true:=rfl
 simp (maxSteps:=9^7) only [go_sem,↓reduceIte,reduceCtorEq,Nat.reduceEqDiff,Nat.reduceBEq,Nat.reduceAdd,Nat.reduceSub,Nat.reduceMul,Nat.reduceLT,Nat.reduceLeDiff,Nat.reduceBNe,Int.reduceBEq,Int.reduceBNe,Int.reduceLT,Int.reduceLE,sh,w1,w2,o0,o1]
 refine z0f (s2I K key H r f P.length (P.length + A.length) (P.length + A.length + 1) (P ++ A ++ [y] ++ R) y) (k:=P.length + A.length - P.length) ⟨P.length,P.length + A.length,Cut.start _ (by omega),rfl,?_,?_,?_,?_,?_,?_,?_,?_⟩ (s2_loop K key hc H r P.length (P.length + A.length) (P.length + A.length + 1) (P ++ A ++ [y] ++ R) y hb (by omega) hx (fun u v h1 h2 h3 g1=>by have:=hmono u v (by omega) h2 (by omega); omega) _ ?_)
 iterate 7 focus ((simp (maxSteps:=9^7) only [go_sem,↓reduceIte,reduceCtorEq,Nat.reduceEqDiff,Nat.reduceBEq,Nat.reduceAdd,Nat.reduceSub,Nat.reduceMul,Nat.reduceLT,Nat.reduceLeDiff,Nat.reduceBNe,Int.reduceBEq,Int.reduceBNe,Int.reduceLT,Int.reduceLE,sh]) <;> rfl)
 ·refine ⟨fun q hq=>?_,?_⟩
  iterate 2 focus ((simp (maxSteps:=9^7) only [go_sem,↓reduceIte,reduceCtorEq,Nat.reduceEqDiff,Nat.reduceBEq,Nat.reduceAdd,Nat.reduceSub,Nat.reduceMul,Nat.reduceLT,Nat.reduceLeDiff,Nat.reduceBNe,Int.reduceBEq,Int.reduceBNe,Int.reduceLT,Int.reduceLE,hr]) <;> rfl)
 rintro σ2 s hC t14 ⟨t0,t1,t2,t3,t4,hH⟩
 have c1:=hC.l0
 have c3:=hC.r0
 obtain ⟨A1,A2,hA12,hA1⟩:∃ A1 A2,A = A1 ++ A2∧A1.length = s - P.length:=⟨A.take (s - P.length),A.drop (s - P.length),(List.take_append_drop ..).symm,by rw [List.length_take]; omega⟩
 subst hA12
 rw [List.length_append] at c3
 have g1:∀ a,a ∈ A1->key a≤key y:=fun a ha=>by
  obtain ⟨u,a1,a2,a3⟩:=z9o key (X:=P ++ (A1 ++ A2) ++ [y] ++ R) (L:=P) (B:=A1) (R:=A2 ++ [y] ++ R) (by simp) ha
  have:=hC.no u (by omega) (by omega)
  rw [a3] at this
  omega
 have g2:∀ a,a ∈ A2->key y < key a:=fun a ha=>by
  obtain ⟨u,a1,a2,a3⟩:=z9o key (X:=P ++ (A1 ++ A2) ++ [y] ++ R) (L:=P ++ A1) (B:=A2) (R:=[y] ++ R) (by simp) ha
  rw [List.length_append] at a1 a2
  have:=hC.yes u (by omega) (by rw [List.length_append]; omega)
  rw [a3] at this
  exact this
 have e1:P ++ (A1 ++ A2) ++ [y] ++ R = (P ++ A1) ++ A2 ++ y :: ([] ++ R):=by simp
 have e2:P ++ srt key ((A1 ++ A2) ++ [y]) ++ R = (P ++ A1) ++ y :: (A2 ++ R):=by
  rw [← z48 key hA g1 g2]; simp
 have hs:s = (P ++ A1).length:=by rw [List.length_append]; omega
 subst hs
 rw [e1] at hH t0
 simp only [List.length_append] at hb4
 have hl2:P.length + (A1 ++ A2).length = (P ++ A1).length + A2.length:=by simp only [List.length_append]; omega
 simp (maxSteps:=9^7) only [go_sem,↓reduceIte,reduceCtorEq,Nat.reduceEqDiff,Nat.reduceBEq,Nat.reduceAdd,Nat.reduceSub,Nat.reduceMul,Nat.reduceLT,Nat.reduceLeDiff,Nat.reduceBNe,Int.reduceBEq,Int.reduceBNe,Int.reduceLT,Int.reduceLE,t14,t2]
 refine z0f (f2I K H r f P.length ((P.length + (A1 ++ A2).length:Nat):Int) ((P.length + (A1 ++ A2).length + 1:Nat):Int) (P ++ A1) A2 R y) (k:=A2.length) ⟨A2,[],by simp,rfl,?_,?_,?_,?_,?_,?_,?_,?_⟩ (f2_loop K f H r _ _ _ (P ++ A1) A2 R y (by simp only [List.length_append]; omega) _ ?_)
 iterate 7 focus ((simp (maxSteps:=9^7) only [go_sem,↓reduceIte,reduceCtorEq,Nat.reduceEqDiff,Nat.reduceBEq,Nat.reduceAdd,Nat.reduceSub,Nat.reduceMul,Nat.reduceLT,Nat.reduceLeDiff,Nat.reduceBNe,Int.reduceBEq,Int.reduceBNe,Int.reduceLT,Int.reduceLE,t14,hl2,t0,t1,t2,t3,t4]) <;> rfl)
 ·exact hH
 rintro σ3 ⟨_,_,_,_,_,hH3⟩
 rw [← e2] at hH3
 have hf:=z5j K hH3
 simp (maxSteps:=9^7) only [go_sem,↓reduceIte,reduceCtorEq,Nat.reduceEqDiff,Nat.reduceBEq,Nat.reduceAdd,Nat.reduceSub,Nat.reduceMul,Nat.reduceLT,Nat.reduceLeDiff,Nat.reduceBNe,Int.reduceBEq,Int.reduceBNe,Int.reduceLT,Int.reduceLE]
 exact hf
end
end
section
/-
 Merging two halves in place: the whole: the library's code,walked.
-/
open Go.RowKit
attribute [local go_sem ↓] z0s z0g
attribute [local go_sem ↓] z76
attribute [local go_sem] z59 z6k z4h z4k z52 z51 z2o z2y z50 z4z z2n z2x z5i z5h z5g z5f z5e z5d z5c z5b z47 z46 z45 z44 z43 z42 z41 z40 z3z z3y z3x z3w z3v z3u z3t z3s z3r z3q z3p z3o z3n z3m z3l z3k z3j z2v z2u z2t z2s z2r z2q z2p
section
variable {α:Type} (K:Kind15 α) (key:α->Int)
theorem sym_plain {P A B R X:List α} (hX:X = P ++ A ++ B ++ R) (rA:Rise key A) (rB:Rise key B) {mid n lo hi s:Nat} (hn:n = mid + (P.length + A.length)) (g1:P.length≤lo) (g2:hi≤P.length + A.length) (g3:hi≤mid) (g4:n≤lo + (P.length + A.length + B.length))
  (e1:n = lo + (P.length + A.length + B.length)∨lo = P.length) (e2:hi = mid∨hi = P.length + A.length) (hC:Cut (fun c=>kAt key X (n - 1 - c) < kAt key X c) lo hi s s) :
  ∃ A1 A2 B1 B2,A = A1 ++ A2∧B = B1 ++ B2∧P.length + A1.length = s∧s + B1.length = mid∧(∀ a,a ∈ A1->∀ b,b ∈ B2->key a≤key b)∧(∀ a,a ∈ A2->∀ b,b ∈ B1->key b < key a):=by
 have c1:=hC.l0
 have c3:=hC.r0
 have hA1:(A.take (s - P.length)).length = s - P.length:=by rw [List.length_take]; omega
 have hB1:(B.take (mid - s)).length = mid - s:=by rw [List.length_take]; omega
 have tA:=List.take_append_drop (s - P.length) A
 have tB:=List.take_append_drop (mid - s) B
 have hlA:=congrArg List.length tA
 have hlB:=congrArg List.length tB
 rw [List.length_append] at hlA hlB
 have mA:=fun u v=>z6h key (X:=X) (L:=P) (B:=A) (R:=B ++ R) (by rw [hX]; simp) rA (u:=u) (v:=v)
 have mB:=fun u v=>z6h key (X:=X) (L:=P ++ A) (B:=B) (R:=R) hX rB (u:=u) (v:=v)
 have hPA:(P ++ A).length = P.length + A.length:=List.length_append
 have xA:X = P ++ (A.take (s - P.length) ++ A.drop (s - P.length)) ++ B ++ R:=by rw [tA]; exact hX
 have xB:X = P ++ A ++ (B.take (mid - s) ++ B.drop (mid - s)) ++ R:=by rw [tB]; exact hX
 refine ⟨A.take (s - P.length),A.drop (s - P.length),B.take (mid - s),B.drop (mid - s),tA.symm,tB.symm,by omega,by omega,fun a ha b hb=>?_,fun a ha b hb=>?_⟩
 ·obtain ⟨u,a1,a2,a3⟩:=z9o key (X:=X) (L:=P) (B:=A.take (s - P.length)) (R:=A.drop (s - P.length) ++ B ++ R) (by rw [xA]; simp only [List.append_assoc]) ha
  obtain ⟨v,b1,b2,b3⟩:=z9o key (X:=X) (L:=P ++ A ++ B.take (mid - s)) (B:=B.drop (mid - s)) (R:=R) (by rw [xB]; simp only [List.append_assoc]) hb
  rw [List.length_append,hPA] at b1 b2
  rw [← a3,← b3]
  have hlt:lo < s:=by omega
  have hno:=hC.no (s - 1) (by omega) (by omega)
  have q1:=mA u (s - 1) (by omega) (by omega) (by omega)
  have q2:=mB (n - 1 - (s - 1)) v (by omega) (by omega) (by omega)
  omega
 ·obtain ⟨u,a1,a2,a3⟩:=z9o key (X:=X) (L:=P ++ A.take (s - P.length)) (B:=A.drop (s - P.length)) (R:=B ++ R) (by rw [xA]; simp only [List.append_assoc]) ha
  obtain ⟨v,b1,b2,b3⟩:=z9o key (X:=X) (L:=P ++ A) (B:=B.take (mid - s)) (R:=B.drop (mid - s) ++ R) (by rw [xB]; simp only [List.append_assoc]) hb
  rw [hPA] at b1 b2
  rw [List.length_append] at a1 a2
  rw [← a3,← b3]
  have hlt:s < hi:=by omega
  have hyes:=hC.yes s (by omega) hlt
  have q1:=mA s u (by omega) (by omega) (by omega)
  have q2:=mB v (n - 1 - s) (by omega) (by omega) (by omega)
  omega
def symT0 (P:Program):IR:=.regx P z2v
theorem symT0_ok (H:Nat->Option Arr) (r f:Nat) {a m b mid s e n:Int} (X:List α) (hw:IntKind.i64.wrap (n - s) = e) (Q:XK->St->Prop) (σ:St) (hF:SymF K H r f a m b X σ) (t18:σ.T 18 = .int .i64 mid) (t19:σ.T 19 = .int .i64 n) (t20:σ.T 20 = .int .i64 s)
  (hQ:∀ σ',SymG K H r f a m b mid s e X σ'->Q .normal σ'):run (AFn Try.prog) (symT0 Try.prog) Q σ:=by
 obtain ⟨t0,t1,t2,t3,t4,hH⟩:=hF
 simp only [symT0]
 simp (maxSteps:=9^7) only [go_sem,↓reduceIte,reduceCtorEq,Nat.reduceEqDiff,Nat.reduceBEq,Nat.reduceAdd,Nat.reduceSub,Nat.reduceMul,Nat.reduceLT,Nat.reduceLeDiff,Nat.reduceBNe,Int.reduceBEq,Int.reduceBNe,Int.reduceLT,Int.reduceLE,t18,t19,t20,hw]
 refine hQ _ ⟨⟨?_,?_,?_,?_,?_,?_⟩,?_,?_,?_⟩
 iterate 5 focus ((simp (maxSteps:=9^7) only [go_sem,↓reduceIte,reduceCtorEq,Nat.reduceEqDiff,Nat.reduceBEq,Nat.reduceAdd,Nat.reduceSub,Nat.reduceMul,Nat.reduceLT,Nat.reduceLeDiff,Nat.reduceBNe,Int.reduceBEq,Int.reduceBNe,Int.reduceLT,Int.reduceLE,t0,t1,t2,t3,t4]) <;> rfl)
 ·exact hH
 iterate 3 focus ((simp (maxSteps:=9^7) only [go_sem,↓reduceIte,reduceCtorEq,Nat.reduceEqDiff,Nat.reduceBEq,Nat.reduceAdd,Nat.reduceSub,Nat.reduceMul,Nat.reduceLT,Nat.reduceLeDiff,Nat.reduceBNe,Int.reduceBEq,Int.reduceBNe,Int.reduceLT,Int.reduceLE,t18,t20]) <;> rfl)
def symTl (P:Program):IR:=.seq (symT0 P) (.seq (symT1 P) (.seq (symT2 P) (symT3 P)))
theorem zry (H:Nat->Option Arr) (r f N:Nat) (hI:zrm K key f N) {P A B R:List α} (rA:Rise key A) (rB:Rise key B) (hb:(P ++ A ++ B ++ R).length≤1000000) (hA:0 < A.length) (hB:0 < B.length) (hN:A.length + B.length≤N) {mid n lo hi s:Nat} (hmid:mid = (P.length + (P.length + A.length + B.length)) / 2) (h2:2≤A.length + B.length) (hn:n = mid + (P.length + A.length)) (g1:P.length≤lo) (g2:hi≤P.length + A.length) (g3:hi≤mid) (g4:n≤lo + (P.length + A.length + B.length))
  (e1:n = lo + (P.length + A.length + B.length)∨lo = P.length) (e2:hi = mid∨hi = P.length + A.length) (hC:Cut (fun c=>kAt key (P ++ A ++ B ++ R) (n - 1 - c) < kAt key (P ++ A ++ B ++ R) c) lo hi s s)
  (Q:XK->St->Prop) (σ:St) (hF:SymF K H r f P.length ((P.length + A.length:Nat):Int) ((P.length + A.length + B.length:Nat):Int) (P ++ A ++ B ++ R) σ) (t18:σ.T 18 = .int .i64 mid) (t19:σ.T 19 = .int .i64 n) (t20:σ.T 20 = .int .i64 s)
  (hQ:∀ σ',only K H σ'.H r (P ++ srt key (A ++ B) ++ R)->Q .normal σ'):run (AFn Try.prog) (symTl Try.prog) Q σ:=by
 have hl:(P ++ A ++ B ++ R).length = P.length + A.length + B.length + R.length:=by simp only [List.length_append]
 obtain ⟨A1,A2,B1,B2,hA12,hB12,q1,q2,m1,m2⟩:=sym_plain key rfl rA rB hn g1 g2 g3 g4 e1 e2 hC
 have c1:=hC.l0
 have c3:=hC.r0
 subst hA12 hB12
 simp only [List.length_append] at hmid hn hA hB hN h2
 have hw:IntKind.i64.wrap ((n:Int) - (s:Int)) = ((P.length + A1.length + A2.length + B1.length:Nat):Int):=by rw [z0t (by omega)]; omega
 unfold symTl
 rw [zhe]
 refine symT0_ok K H r f (P ++ (A1 ++ A2) ++ (B1 ++ B2) ++ R) hw _ σ hF t18 t19 t20 fun σ1 hG=>?_
 rw [z25,zhe]
 refine symT1_ok K H r f P A1 A2 B1 B2 R (by omega) (by rw [List.length_append]; omega) rfl hb _ σ1 hG fun σ2 hG2=>?_
 have hb2:(P ++ (A1 ++ B1) ++ (A2 ++ B2) ++ R).length≤1000000:=by
  rw [List.length_append] at hl hb ⊢
  simp only [List.length_append] at hb ⊢
  omega
 rw [z25,zhe]
 refine symT2_ok K key H r f N hI P A1 A2 B1 B2 R (by omega) (Rise.left rA) (Rise.left rB) rfl (by omega) (by omega) hb2 _ σ2 hG2 fun σ3 hG3=>?_
 rw [z25]
 have e3:P ++ srt key (A1 ++ B1) ++ (A2 ++ B2) ++ R = (P ++ srt key (A1 ++ B1)) ++ A2 ++ B2 ++ R:=by simp
 rw [e3] at hG3
 have hsl:(P ++ srt key (A1 ++ B1)).length = P.length + A1.length + B1.length:=by rw [List.length_append,z0d,List.length_append]; omega
 refine symT3_ok K key H r f N hI (P ++ srt key (A1 ++ B1)) A2 B2 R (by omega) (Rise.right rA) (Rise.right rB) (by rw [hsl]; omega) (by rw [hsl]; omega) (by rw [hsl]; simp only [List.length_append]; omega) (by
  have:((P ++ srt key (A1 ++ B1)) ++ A2 ++ B2 ++ R).length = (P ++ (A1 ++ B1) ++ (A2 ++ B2) ++ R).length:=by simp only [List.length_append,z0d]; omega
  rw [this]; exact hb2) _ σ3 hG3 fun σ4 h4=>?_
 refine hQ _ ?_
 rw [← zlm key rA rB m1 m2]
 have:P ++ (srt key (A1 ++ B1) ++ srt key (A2 ++ B2)) ++ R = P ++ srt key (A1 ++ B1) ++ srt key (A2 ++ B2) ++ R:=by simp
 rw [this]; exact h4
end
end
section
/-
 Merging two halves in place: the library's code,walked.
-/
open Go.RowKit
attribute [local go_sem ↓] z0s z0g
attribute [local go_sem ↓] z76
attribute [local go_sem] z59 z6k z4h z4k z52 z51 z2o z2y z50 z4z z2n z2x z5i z5h z5g z5f z5e z5d z5c z5b z47 z46 z45 z44 z43 z42 z41 z40 z3z z3y z3x z3w z3v z3u z3t z3s z3r z3q z3p z3o z3n z3m z3l z3k z3j z2v z2u z2t z2s z2r z2q z2p
section
variable {α:Type} (K:Kind15 α) (key:α->Int)
set_option maxHeartbeats 8000000 in
theorem sym_gen {f:FuncId} {c:α->α->Int} (hc:z82 K key f c) (N:Nat) (hI:zrm K key f N) (H:Nat->Option Arr) (r:Nat) (P A B R:List α) (hA:1 < A.length) (hB:1 < B.length) (hN:A.length + B.length≤N) (rA:Rise key A) (rB:Rise key B) (hb:(P ++ A ++ B ++ R).length≤1000000) (hr:H r = ObjE K (P ++ A ++ B ++ R)) :
  MFn Try.prog 54 [.rs r 0 (P ++ A ++ B ++ R).length,.int .i64 P.length,.int .i64 ((P.length + A.length:Nat):Int),.int .i64 ((P.length + A.length + B.length:Nat):Int),.clo f [] []] H (.tup []) (upd H r (ObjE K (P ++ srt key (A ++ B) ++ R))):=by
 refine zhv rfl ?_
 have hl:(P ++ A ++ B ++ R).length = P.length + A.length + B.length + R.length:=by simp only [List.length_append]
 have w1:IntKind.i64.wrap (((P.length + A.length:Nat):Int) - (P.length:Int)) = (A.length:Int):=by rw [z0t (by omega)]; omega
 have w2:IntKind.i64.wrap (((P.length + A.length + B.length:Nat):Int) - ((P.length + A.length:Nat):Int)) = (B.length:Int):=by rw [z0t (by omega)]; omega
 have o1:((A.length:Int) == 1) = false:=by simp; omega
 have o2:((B.length:Int) == 1) = false:=by simp; omega
 have w3:IntKind.i64.wrap ((P.length:Int) + ((P.length + A.length + B.length:Nat):Int)) = (P.length:Int) + ((P.length + A.length + B.length:Nat):Int):=z0t (by omega)
 have w4:IntKind.u64.wrap ((P.length:Int) + ((P.length + A.length + B.length:Nat):Int)) = (P.length:Int) + ((P.length + A.length + B.length:Nat):Int):=wrapU (by omega)
 have fh:=halfI P.length (P.length + A.length + B.length)
 obtain ⟨mid,hmid⟩:∃ mid,mid = (P.length + (P.length + A.length + B.length)) / 2:=⟨_,rfl⟩
 rw [← hmid] at fh
 have w5:IntKind.i64.wrap (mid:Int) = (mid:Int):=z0t (by omega)
 obtain ⟨n,hn⟩:∃ n,n = mid + (P.length + A.length):=⟨_,rfl⟩
 have w6:IntKind.i64.wrap ((mid:Int) + ((P.length + A.length:Nat):Int)) = (n:Int):=by rw [z0t (by omega)]; omega
 have w7:IntKind.i64.wrap ((n:Int) - 1) = ((n - 1:Nat):Int):=by rw [z0t (by omega)]; omega
 have w8:IntKind.i64.wrap ((n:Int) - ((P.length + A.length + B.length:Nat):Int)) = (n:Int) - ((P.length + A.length + B.length:Nat):Int):=z0t (by omega)
 have mA:=fun u v=>z6h key (X:=P ++ A ++ B ++ R) (L:=P) (B:=A) (R:=B ++ R) (by simp) rA (u:=u) (v:=v)
 have mB:=fun u v=>z6h key (X:=P ++ A ++ B ++ R) (L:=P ++ A) (B:=B) (R:=R) rfl rB (u:=u) (v:=v)
 have hPA:(P ++ A).length = P.length + A.length:=List.length_append
 by_cases hm:mid < P.length + A.length
 case pos =>
  have d1:(mid:Int) < ((P.length + A.length:Nat):Int):=by omega
  have w10:IntKind.i64.wrap ((n - (P.length + A.length + B.length):Nat):Int) = ((n - (P.length + A.length + B.length):Nat):Int):=z0t (by omega)
  have w9:(n:Int) - ((P.length + A.length + B.length:Nat):Int) = ((n - (P.length + A.length + B.length):Nat):Int):=by omega
  simp (maxSteps:=9^7) only [go_sem,↓reduceIte,reduceCtorEq,Nat.reduceEqDiff,Nat.reduceBEq,Nat.reduceAdd,Nat.reduceSub,Nat.reduceMul,Nat.reduceLT,Nat.reduceLeDiff,Nat.reduceBNe,Int.reduceBEq,Int.reduceBNe,Int.reduceLT,Int.reduceLE,sh,w1,w2,o1,o2,w3,w4,fh,w5,w6,w7,w8,w9,w10,d1]
  refine z0f (s3I K key H r f P.length (P.length + A.length) (P.length + A.length + B.length) (n - (P.length + A.length + B.length)) mid mid n (P ++ A ++ B ++ R)) (k:=mid - (n - (P.length + A.length + B.length))) ⟨n - (P.length + A.length + B.length),mid,Cut.start _ (by omega),rfl,?_,?_,?_,?_,?_,?_,?_,?_,?_,?_,?_⟩
   (s3_loop K key hc H r P.length (P.length + A.length) (P.length + A.length + B.length) (n - (P.length + A.length + B.length)) mid mid n (P ++ A ++ B ++ R) hb (by omega) (fun u h1 h2=>⟨by omega,by omega,by omega⟩) (by omega) (fun u v h1 h2 h3 h4=>by have q1:=mA u v (by omega) h2 (by omega); have q2:=mB (n - 1 - v) (n - 1 - u) (by omega) (by omega) (by omega); omega) _ ?_)
  iterate 10 focus ((simp (maxSteps:=9^7) only [go_sem,↓reduceIte,reduceCtorEq,Nat.reduceEqDiff,Nat.reduceBEq,Nat.reduceAdd,Nat.reduceSub,Nat.reduceMul,Nat.reduceLT,Nat.reduceLeDiff,Nat.reduceBNe,Int.reduceBEq,Int.reduceBNe,Int.reduceLT,Int.reduceLE,sh]) <;> rfl)
  ·refine ⟨fun q hq=>?_,?_⟩
   iterate 2 focus ((simp (maxSteps:=9^7) only [go_sem,↓reduceIte,reduceCtorEq,Nat.reduceEqDiff,Nat.reduceBEq,Nat.reduceAdd,Nat.reduceSub,Nat.reduceMul,Nat.reduceLT,Nat.reduceLeDiff,Nat.reduceBNe,Int.reduceBEq,Int.reduceBNe,Int.reduceLT,Int.reduceLE,hr]) <;> rfl)
  intro σ2 s hC t20 t18 t19 hF
  rw [z7b,if_pos rfl,z25]
  refine zry K key H r f N hI rA rB hb (by omega) (by omega) hN hmid (by omega) hn (by omega) (by omega) (by omega) (by omega) (.inl (by omega)) (.inl rfl) hC _ σ2 hF t18 t19 t20 fun σ4 h4=>?_
  have hf:=z5j K h4
  simp (maxSteps:=9^7) only [go_sem,↓reduceIte,reduceCtorEq,Nat.reduceEqDiff,Nat.reduceBEq,Nat.reduceAdd,Nat.reduceSub,Nat.reduceMul,Nat.reduceLT,Nat.reduceLeDiff,Nat.reduceBNe,Int.reduceBEq,Int.reduceBNe,Int.reduceLT,Int.reduceLE]
  exact hf
 have d1:¬ (mid:Int) < ((P.length + A.length:Nat):Int):=by omega
 simp (maxSteps:=9^7) only [go_sem,↓reduceIte,reduceCtorEq,Nat.reduceEqDiff,Nat.reduceBEq,Nat.reduceAdd,Nat.reduceSub,Nat.reduceMul,Nat.reduceLT,Nat.reduceLeDiff,Nat.reduceBNe,Int.reduceBEq,Int.reduceBNe,Int.reduceLT,Int.reduceLE,sh,w1,w2,o1,o2,w3,w4,fh,w5,w6,w7,d1]
 refine z0f (s3I K key H r f P.length (P.length + A.length) (P.length + A.length + B.length) P.length (P.length + A.length) mid n (P ++ A ++ B ++ R)) (k:=P.length + A.length - P.length) ⟨P.length,P.length + A.length,Cut.start _ (by omega),rfl,?_,?_,?_,?_,?_,?_,?_,?_,?_,?_,?_⟩
  (s3_loop K key hc H r P.length (P.length + A.length) (P.length + A.length + B.length) P.length (P.length + A.length) mid n (P ++ A ++ B ++ R) hb (by omega) (fun u h1 h2=>⟨by omega,by omega,by omega⟩) (by omega) (fun u v h1 h2 h3 h4=>by have q1:=mA u v (by omega) h2 (by omega); have q2:=mB (n - 1 - v) (n - 1 - u) (by omega) (by omega) (by omega); omega) _ ?_)
 iterate 10 focus ((simp (maxSteps:=9^7) only [go_sem,↓reduceIte,reduceCtorEq,Nat.reduceEqDiff,Nat.reduceBEq,Nat.reduceAdd,Nat.reduceSub,Nat.reduceMul,Nat.reduceLT,Nat.reduceLeDiff,Nat.reduceBNe,Int.reduceBEq,Int.reduceBNe,Int.reduceLT,Int.reduceLE,sh]) <;> rfl)
 ·refine ⟨fun q hq=>?_,?_⟩
  iterate 2 focus ((simp (maxSteps:=9^7) only [go_sem,↓reduceIte,reduceCtorEq,Nat.reduceEqDiff,Nat.reduceBEq,Nat.reduceAdd,Nat.reduceSub,Nat.reduceMul,Nat.reduceLT,Nat.reduceLeDiff,Nat.reduceBNe,Int.reduceBEq,Int.reduceBNe,Int.reduceLT,Int.reduceLE,hr]) <;> rfl)
 intro σ2 s hC t20 t18 t19 hF
 rw [z7b,if_pos rfl,z25]
 refine zry K key H r f N hI rA rB hb (by omega) (by omega) hN hmid (by omega) hn (by omega) (by omega) (by omega) (by omega) (.inr rfl) (.inr rfl) hC _ σ2 hF t18 t19 t20 fun σ4 h4=>?_
 have hf:=z5j K h4
 simp (maxSteps:=9^7) only [go_sem,↓reduceIte,reduceCtorEq,Nat.reduceEqDiff,Nat.reduceBEq,Nat.reduceAdd,Nat.reduceSub,Nat.reduceMul,Nat.reduceLT,Nat.reduceLeDiff,Nat.reduceBNe,Int.reduceBEq,Int.reduceBNe,Int.reduceLT,Int.reduceLE]
 exact hf
/-- MERGING TWO HALVES IN PLACE -/
theorem zpa {f:FuncId} {c:α->α->Int} (hc:z82 K key f c):∀ n,zrm K key f n
 | 0=>fun H r P A B R hn=>by omega
 | n + 1=>fun H r P A B R hn hA hB rA rB hb hr=>by
  by_cases h1:A.length = 1
  ·obtain ⟨x,rfl⟩:=List.length_eq_one_iff.1 h1
   exact sym_one K key hc H r P x B R hB rB hb hr
  by_cases h2:B.length = 1
  ·obtain ⟨y,rfl⟩:=List.length_eq_one_iff.1 h2
   exact sym_one2 K key hc H r P A y R (by omega) rA hb hr
  exact sym_gen K key hc n (zpa hc n) H r P A B R (by omega) (by omega) (by omega) rA rB hb hr
end
end
section
/-
 A stable sort: blocks,and these merged: plain; the library's code,walked.
-/
open Go.RowKit
attribute [local go_sem ↓] z0s z0g
/-! ### slices.stableCmpFunc[percolate/api.Event] -/
def zt8:List XOp:=[(.op [] ⟨.mv (.c (.int .i64 20)),some 6,none,[],[]⟩)]
def zt7:List XOp:=[(.op [] ⟨.mv (.t 6),some 10,none,[],[]⟩),(.op [] ⟨.mv (.c (.int .i64 0)),some 7,none,[],[]⟩),(.op [] ⟨.mv (.t 10),some 8,none,[],[]⟩)]
def zt6:List XOp:=[(.op [] ⟨.mv (.t 8),some 11,none,[],[]⟩),(.op [] ⟨.mv (.t 1),some 12,none,[],[]⟩),(.op [] ⟨.bin .leq (.t 11) (.t 12),some 13,none,[],[]⟩)]
def zt5:List XOp:=[(.op [] ⟨.mv (.t 0),some 14,none,[],[]⟩),(.op [] ⟨.mv (.t 7),some 15,none,[],[]⟩),(.op [] ⟨.mv (.t 8),some 16,none,[],[]⟩),(.op [] ⟨.mv (.t 2),some 17,none,[],[]⟩),(.wcall 18 (.c (.clo 53 [] [])) [(.t 14),(.t 15),(.t 16),(.t 17)])]
def zt4:List XOp:=[(.op [] ⟨.mv (.t 8),some 19,none,[],[]⟩),(.op [] ⟨.mv (.t 19),some 7,none,[],[]⟩)]
def zt3:List XOp:=[(.op [] ⟨.mv (.t 8),some 20,none,[],[]⟩),(.op [] ⟨.mv (.t 6),some 21,none,[],[]⟩),(.op [] ⟨.bin .add (.t 20) (.t 21),some 22,none,[],[]⟩),(.op [] ⟨.mv (.t 22),some 8,none,[],[]⟩)]
def zbe (P:Program):IR:=(.seq (.seq (.regx P zt6)
 (.cond (.t 13) .skip
 (.exit 0)))
 (.block 1 (.seq (.regx P zt5)
 (.seq (.regx P zt4)
 (.regx P zt3)))))
def zt2:List XOp:=[(.op [] ⟨.mv (.t 0),some 23,none,[],[]⟩),(.op [] ⟨.mv (.t 7),some 24,none,[],[]⟩),(.op [] ⟨.mv (.t 1),some 25,none,[],[]⟩),(.op [] ⟨.mv (.t 2),some 26,none,[],[]⟩),(.wcall 27 (.c (.clo 53 [] [])) [(.t 23),(.t 24),(.t 25),(.t 26)])]
def zt1:List XOp:=[(.op [] ⟨.mv (.t 6),some 28,none,[],[]⟩),(.op [] ⟨.mv (.t 1),some 29,none,[],[]⟩),(.op [] ⟨.bin .lss (.t 28) (.t 29),some 30,none,[],[]⟩)]
def zt0:List XOp:=[(.op [] ⟨.mv (.t 6),some 31,none,[],[]⟩),(.op [] ⟨.bin .mul (.c (.int .i64 2)) (.t 31),some 32,none,[],[]⟩),(.op [] ⟨.mv (.c (.int .i64 0)),some 7,none,[],[]⟩),(.op [] ⟨.mv (.t 32),some 8,none,[],[]⟩)]
def zjl:List XOp:=[(.op [] ⟨.mv (.t 8),some 33,none,[],[]⟩),(.op [] ⟨.mv (.t 1),some 34,none,[],[]⟩),(.op [] ⟨.bin .leq (.t 33) (.t 34),some 35,none,[],[]⟩)]
def zjk:List XOp:=[(.op [] ⟨.mv (.t 0),some 36,none,[],[]⟩),(.op [] ⟨.mv (.t 7),some 37,none,[],[]⟩),(.op [] ⟨.mv (.t 7),some 38,none,[],[]⟩),(.op [] ⟨.mv (.t 6),some 39,none,[],[]⟩),(.op [] ⟨.bin .add (.t 38) (.t 39),some 40,none,[],[]⟩),(.op [] ⟨.mv (.t 8),some 41,none,[],[]⟩),(.op [] ⟨.mv (.t 2),some 42,none,[],[]⟩),(.wcall 43 (.c (.clo 54 [] [])) [(.t 36),(.t 37),(.t 40),(.t 41),(.t 42)])]
def zjj:List XOp:=[(.op [] ⟨.mv (.t 8),some 44,none,[],[]⟩),(.op [] ⟨.mv (.t 44),some 7,none,[],[]⟩)]
def zji:List XOp:=[(.op [] ⟨.mv (.t 8),some 45,none,[],[]⟩),(.op [] ⟨.mv (.t 6),some 46,none,[],[]⟩),(.op [] ⟨.bin .mul (.c (.int .i64 2)) (.t 46),some 47,none,[],[]⟩),(.op [] ⟨.bin .add (.t 45) (.t 47),some 48,none,[],[]⟩),(.op [] ⟨.mv (.t 48),some 8,none,[],[]⟩)]
def z91 (P:Program):IR:=(.seq (.seq (.regx P zjl)
 (.cond (.t 35) .skip
 (.exit 4)))
 (.block 5 (.seq (.regx P zjk)
 (.seq (.regx P zjj)
 (.regx P zji)))))
def zjh:List XOp:=[(.op [] ⟨.mv (.t 7),some 49,none,[],[]⟩),(.op [] ⟨.mv (.t 6),some 50,none,[],[]⟩),(.op [] ⟨.bin .add (.t 49) (.t 50),some 51,none,[],[]⟩),(.op [] ⟨.mv (.t 51),some 9,none,[],[]⟩)]
def zjg:List XOp:=[(.op [] ⟨.mv (.t 9),some 52,none,[],[]⟩),(.op [] ⟨.mv (.t 1),some 53,none,[],[]⟩),(.op [] ⟨.bin .lss (.t 52) (.t 53),some 54,none,[],[]⟩)]
def zjf:List XOp:=[(.op [] ⟨.mv (.t 0),some 55,none,[],[]⟩),(.op [] ⟨.mv (.t 7),some 56,none,[],[]⟩),(.op [] ⟨.mv (.t 9),some 57,none,[],[]⟩),(.op [] ⟨.mv (.t 1),some 58,none,[],[]⟩),(.op [] ⟨.mv (.t 2),some 59,none,[],[]⟩),(.wcall 60 (.c (.clo 54 [] [])) [(.t 55),(.t 56),(.t 57),(.t 58),(.t 59)])]
def zje:List XOp:=[(.op [] ⟨.mv (.t 6),some 61,none,[],[]⟩),(.op [] ⟨.bin .mul (.t 61) (.c (.int .i64 2)),some 62,none,[],[]⟩),(.op [] ⟨.mv (.t 62),some 6,none,[],[]⟩)]
def zdv (P:Program):IR:=(.seq (.seq (.regx P zt1)
 (.cond (.t 30) .skip
 (.exit 2)))
 (.block 3 (.seq (.regx P zt0)
 (.seq (.block 4 (.loop (z91 P)))
 (.seq (.seq (.regx P zjh)
 (.seq (.regx P zjg)
 (.cond (.t 54) (.regx P zjf)
 .skip)))
 (.regx P zje))))))
def ir_stbE (P:Program):IR:=(.seq (.regx P zt8)
 (.seq (.regx P zt7)
 (.seq (.block 0 (.loop (zbe P)))
 (.seq (.regx P zt2)
 (.block 2 (.loop (zdv P)))))))
def zs7:List RDesc:=[]
theorem fnm_stbE {args:List AV} {r:AV} {H H':Nat->Option Arr} (ha:args.length.ble Try.f39.ntmps = true) (h:run (AFn Try.prog) (ir_stbE Try.prog) (endM zs7 r H') (z77 args H)):MFn Try.prog 39 args H r H' :=
 MFn.of_code (pv:=false) (hint:=fun _=>[1]) (c:=Try.f39.body.getD .skip) (by kernel_rfl) (by kernel_rfl) Try.func39 (by kernel_rfl) (by kernel_rfl) (by kernel_rfl) (of_decide_eq_true (by kernel_rfl)) (Nat.le_of_ble_eq_true ha) (Nat.le_of_ble_eq_true (by kernel_rfl)) (z09 h)
attribute [local go_sem ↓] ir_stbE
attribute [local go_sem] zs7 zt8 zt7 zt6 zt5 zt4 zt3 zt2 zt1 zt0 zjl zjk zjj zji zjh zjg zjf zje
section
variable {α:Type} (K:Kind15 α) (key:α->Int)
theorem zy4 {s:Nat} (hs:0 < s):∀ (n:Nat) (X:List α) (f g:Nat),X.length≤n->X.length≤f->X.length≤g->blk key s f X = blk key s g X
 | n,[],f,g,_,_,_=>by cases f <;> cases g <;> rfl
 | 0,x :: l,f,g,h,_,_=>by simp at h
 | n + 1,x :: l,0,g,_,h,_=>by simp at h
 | n + 1,x :: l,f + 1,0,_,_,h=>by simp at h
 | n + 1,x :: l,f + 1,g + 1,h,hf,hg=>by
  have hl:((x :: l).drop s).length = (x :: l).length - s:=List.length_drop
  rw [List.length_cons] at h hf hg hl
  show srt key ((x :: l).take s) ++ blk key s f ((x :: l).drop s) = srt key ((x :: l).take s) ++ blk key s g ((x :: l).drop s)
  rw [zy4 hs n _ f g (by omega) (by omega) (by omega)]
/-- all blocks of one length in order -/
def blks (s:Nat) (X:List α):List α:=blk key s X.length X
theorem z3f {s:Nat} {X:List α} (h:X.length≤s):blks key s X = srt key X:=by
 unfold blks
 cases X with
 | nil=>rfl
 | cons x l=>exact blk_all key h _ (by simp)
theorem z55 {s:Nat} (hs:0 < s) {A X:List α} (hA:A.length = s):blks key s (A ++ X) = srt key A ++ blks key s X:=by
 unfold blks
 cases A with
 | nil=>simp at hA; omega
 | cons a A =>
  have e:((a :: A) ++ X).length = (A.length + X.length) + 1:=by rw [List.length_append,List.length_cons]; omega
  rw [e]
  show srt key (((a :: A) ++ X).take s) ++ blk key s (A.length + X.length) (((a :: A) ++ X).drop s) = _
  rw [List.take_append_of_le_length (by omega),List.take_of_length_le (by omega),List.drop_append_of_le_length (by omega),List.drop_eq_nil_of_le (by omega),List.nil_append]
  rw [zy4 key hs (X.length) X _ X.length (Nat.le_refl _) (by omega) (Nat.le_refl _)]
theorem z7c {s:Nat} (hs:0 < s):∀ (n:Nat) (X:List α),X.length≤n->(blks key s X).length = X.length
 | 0,X,h=>by
  have:X = []:=List.length_eq_zero_iff.1 (by omega)
  subst this; rfl
 | n + 1,X,h=>by
  by_cases hx:X.length≤s
  ·rw [z3f key hx,z0d]
  ·have ht:(X.take s).length = s:=by rw [List.length_take]; omega
   have hd:(X.drop s).length = X.length - s:=List.length_drop
   have:=z55 key hs (A:=X.take s) (X:=X.drop s) ht
   rw [List.take_append_drop] at this
   rw [this,List.length_append,z0d,z7c hs n _ (by omega)]
   omega
theorem insS_at {f:FuncId} {c:α->α->Int} (hc:z82 K key f c) (H:Nat->Option Arr) (r:Nat) {X X' P B R:List α} {N:Nat} {a b:Int} (hX:X = P ++ B ++ R) (hX':X' = P ++ srt key B ++ R) (hb:X.length≤1000000) (hN:N = X.length) (ha:a = P.length) (hb':b = ((P.length + B.length:Nat):Int)) (hr:H r = ObjE K X) :
  MFn Try.prog 53 [.rs r 0 N,.int .i64 a,.int .i64 b,.clo f [] []] H (.tup []) (upd H r (ObjE K X')):=by
 subst hX hX' hN ha hb'
 exact insS_ok K key hc H r P B R hb hr
structure StbF (H:Nat->Option Arr) (r f:Nat) (N:Nat) (X:List α) (σ:St):Prop where
 t0:σ.T 0 = .rs (r + 1000) 0 N
 t1:σ.T 1 = .int .i64 N
 t2:σ.T 2 = .clo f [] []
 h:only K H σ.H r X
def b1I (H:Nat->Option Arr) (r f:Nat) (X:List α) (k:Nat) (σ:St):Prop :=
 ∃ D Y:List α,D ++ blks key 20 Y = blks key 20 X∧D.length + Y.length = X.length∧k = Y.length∧σ.T 6 = .int .i64 20∧σ.T 7 = .int .i64 D.length∧σ.T 8 = .int .i64 ((D.length + 20:Nat):Int)∧StbF K H r f X.length (D ++ Y) σ
set_option maxHeartbeats 8000000 in
theorem b1_loop {f:FuncId} {c:α->α->Int} (hc:z82 K key f c) (H:Nat->Option Arr) (r:Nat) (X:List α) (hb:X.length≤1000000) (Q:XK->St->Prop)
  (hEnd:∀ σ (D Y:List α),Y.length < 20->D ++ blks key 20 Y = blks key 20 X->D.length + Y.length = X.length->σ.T 6 = .int .i64 20->σ.T 7 = .int .i64 D.length->StbF K H r f X.length (D ++ Y) σ->Q (.exit 0) σ) (k:Nat) (σ:St) (hI:b1I K key H r f X k σ) :
  run (AFn Try.prog) (zbe Try.prog) (z2d (fun σ'=>∃ m',m' < k∧b1I K key H r f X m' σ') Q) σ:=by
 obtain ⟨D,Y,e1,e2,rfl,t6,t7,t8,⟨t0,t1,t2,hH⟩⟩:=hI
 simp only [zbe]
 by_cases hlt:D.length + 20≤X.length
 case neg =>
  have hlt':¬ ((D.length + 20:Nat):Int)≤(X.length:Int):=by omega
  simp (maxSteps:=9^7) only [go_sem,↓reduceIte,reduceCtorEq,Nat.reduceEqDiff,Nat.reduceBEq,Nat.reduceAdd,Nat.reduceSub,Nat.reduceMul,Nat.reduceLT,Nat.reduceLeDiff,Nat.reduceBNe,Int.reduceBEq,Int.reduceBNe,Int.reduceLT,Int.reduceLE,t1,t8,hlt']
  refine hEnd _ D Y (by omega) e1 e2 ?_ ?_ ⟨?_,?_,?_,?_⟩
  iterate 5 focus ((simp (maxSteps:=9^7) only [go_sem,↓reduceIte,reduceCtorEq,Nat.reduceEqDiff,Nat.reduceBEq,Nat.reduceAdd,Nat.reduceSub,Nat.reduceMul,Nat.reduceLT,Nat.reduceLeDiff,Nat.reduceBNe,Int.reduceBEq,Int.reduceBNe,Int.reduceLT,Int.reduceLE,t6,t7,t0,t1,t2]) <;> rfl)
  ·exact hH
 have hlt':((D.length + 20:Nat):Int)≤(X.length:Int):=by omega
 have tA:=List.take_append_drop 20 Y
 have hA:(Y.take 20).length = 20:=by rw [List.length_take]; omega
 have hY:(Y.drop 20).length = Y.length - 20:=List.length_drop
 have hD:(D ++ Y).length = X.length:=by rw [List.length_append]; omega
 have e3:=z55 key (s:=20) (by omega) (A:=Y.take 20) (X:=Y.drop 20) hA
 rw [tA] at e3
 have w1:IntKind.i64.wrap (((D.length + 20:Nat):Int) + 20) = ((D.length + 20 + 20:Nat):Int):=by rw [z0t (by omega)]; omega
 simp (maxSteps:=9^7) only [go_sem,↓reduceIte,reduceCtorEq,Nat.reduceEqDiff,Nat.reduceBEq,Nat.reduceAdd,Nat.reduceSub,Nat.reduceMul,Nat.reduceLT,Nat.reduceLeDiff,Nat.reduceBNe,Int.reduceBEq,Int.reduceBNe,Int.reduceLT,Int.reduceLE,t0,t1,t2,t6,t7,t8,hlt',z10]
 refine z17 (insS_at K key hc _ (r + 1000) (X:=D ++ Y) (X':=D ++ srt key (Y.take 20) ++ Y.drop 20) (P:=D) (B:=Y.take 20) (R:=Y.drop 20) (by rw [List.append_assoc,tA]) rfl (by omega) hD.symm rfl (by rw [hA]) ?_) ?_
 ·exact hH.2
 have c2:=z34 K (X':=D ++ srt key (Y.take 20) ++ Y.drop 20) hH
 simp (maxSteps:=9^7) only [go_sem,↓reduceIte,reduceCtorEq,Nat.reduceEqDiff,Nat.reduceBEq,Nat.reduceAdd,Nat.reduceSub,Nat.reduceMul,Nat.reduceLT,Nat.reduceLeDiff,Nat.reduceBNe,Int.reduceBEq,Int.reduceBNe,Int.reduceLT,Int.reduceLE,t6,t7,t8,w1,z10]
 have hsl:(D ++ srt key (Y.take 20)).length = D.length + 20:=by rw [List.length_append,z0d,hA]
 refine ⟨(Y.drop 20).length,by omega,D ++ srt key (Y.take 20),Y.drop 20,by rw [List.append_assoc,← e3]; exact e1,by omega,rfl,?_,?_,?_,?_,?_,?_,?_⟩
 iterate 6 focus ((simp (maxSteps:=9^7) only [go_sem,↓reduceIte,reduceCtorEq,Nat.reduceEqDiff,Nat.reduceBEq,Nat.reduceAdd,Nat.reduceSub,Nat.reduceMul,Nat.reduceLT,Nat.reduceLeDiff,Nat.reduceBNe,Int.reduceBEq,Int.reduceBNe,Int.reduceLT,Int.reduceLE,t6,t8,hsl,t0,t1,t2]) <;> rfl)
 ·exact c2
def b2I (H:Nat->Option Arr) (r f s:Nat) (X:List α) (k:Nat) (σ:St):Prop :=
 ∃ D Y:List α,D ++ blks key (2 * s) Y = blks key (2 * s) X∧D.length + Y.length = X.length∧k = Y.length∧σ.T 6 = .int .i64 s∧σ.T 7 = .int .i64 D.length∧σ.T 8 = .int .i64 ((D.length + 2 * s:Nat):Int)∧StbF K H r f X.length (D ++ blks key s Y) σ
set_option maxHeartbeats 8000000 in
theorem b2_loop {f:FuncId} {c:α->α->Int} (hc:z82 K key f c) (H:Nat->Option Arr) (r s:Nat) (X:List α) (hb:X.length≤1000000) (hs:0 < s) (hs2:s≤1000000) (Q:XK->St->Prop)
  (hEnd:∀ σ (D Y:List α),Y.length < 2 * s->D ++ blks key (2 * s) Y = blks key (2 * s) X->D.length + Y.length = X.length->σ.T 6 = .int .i64 s->σ.T 7 = .int .i64 D.length->StbF K H r f X.length (D ++ blks key s Y) σ->Q (.exit 4) σ) (k:Nat) (σ:St) (hI:b2I K key H r f s X k σ) :
  run (AFn Try.prog) (z91 Try.prog) (z2d (fun σ'=>∃ m',m' < k∧b2I K key H r f s X m' σ') Q) σ:=by
 obtain ⟨D,Y,e1,e2,rfl,t6,t7,t8,⟨t0,t1,t2,hH⟩⟩:=hI
 simp only [z91]
 by_cases hlt:D.length + 2 * s≤X.length
 case neg =>
  have hlt':¬ ((D.length + 2 * s:Nat):Int)≤(X.length:Int):=by omega
  simp (maxSteps:=9^7) only [go_sem,↓reduceIte,reduceCtorEq,Nat.reduceEqDiff,Nat.reduceBEq,Nat.reduceAdd,Nat.reduceSub,Nat.reduceMul,Nat.reduceLT,Nat.reduceLeDiff,Nat.reduceBNe,Int.reduceBEq,Int.reduceBNe,Int.reduceLT,Int.reduceLE,t1,t8,hlt']
  refine hEnd _ D Y (by omega) e1 e2 ?_ ?_ ⟨?_,?_,?_,?_⟩
  iterate 5 focus ((simp (maxSteps:=9^7) only [go_sem,↓reduceIte,reduceCtorEq,Nat.reduceEqDiff,Nat.reduceBEq,Nat.reduceAdd,Nat.reduceSub,Nat.reduceMul,Nat.reduceLT,Nat.reduceLeDiff,Nat.reduceBNe,Int.reduceBEq,Int.reduceBNe,Int.reduceLT,Int.reduceLE,t6,t7,t0,t1,t2]) <;> rfl)
  ·exact hH
 have hlt':((D.length + 2 * s:Nat):Int)≤(X.length:Int):=by omega
 obtain ⟨A1,A2,Z,hY,h1,h2⟩:∃ A1 A2 Z,Y = A1 ++ (A2 ++ Z)∧A1.length = s∧A2.length = s :=
  ⟨Y.take s,(Y.drop s).take s,(Y.drop s).drop s,by rw [List.take_append_drop,List.take_append_drop],by rw [List.length_take]; omega,by rw [List.length_take,List.length_drop]; omega⟩
 subst hY
 have e3:blks key s (A1 ++ (A2 ++ Z)) = srt key A1 ++ (srt key A2 ++ blks key s Z):=by rw [z55 key hs h1,z55 key hs h2]
 have e4:blks key (2 * s) (A1 ++ (A2 ++ Z)) = srt key (A1 ++ A2) ++ blks key (2 * s) Z:=by rw [← List.append_assoc,z55 key (by omega) (by rw [List.length_append]; omega)]
 have hz:=z7c key hs Z.length Z (Nat.le_refl _)
 simp only [List.length_append] at e2
 have hD:(D ++ blks key s (A1 ++ (A2 ++ Z))).length = X.length:=by rw [e3]; simp only [List.length_append,z0d]; omega
 have wm:IntKind.i64.wrap ((D.length:Int) + (s:Int)) = ((D.length + s:Nat):Int):=by rw [z0t (by omega)]; omega
 have w2:IntKind.i64.wrap (2 * (s:Int)) = 2 * (s:Int):=z0t (by omega)
 have w1:IntKind.i64.wrap (((D.length + 2 * s:Nat):Int) + 2 * (s:Int)) = ((D.length + 2 * s + 2 * s:Nat):Int):=by rw [z0t (by omega)]; omega
 simp (maxSteps:=9^7) only [go_sem,↓reduceIte,reduceCtorEq,Nat.reduceEqDiff,Nat.reduceBEq,Nat.reduceAdd,Nat.reduceSub,Nat.reduceMul,Nat.reduceLT,Nat.reduceLeDiff,Nat.reduceBNe,Int.reduceBEq,Int.reduceBNe,Int.reduceLT,Int.reduceLE,t0,t1,t2,t6,t7,t8,hlt',wm,z10]
 refine z17 ((zpa K key hc (s + s + 1)).at K key _ (r + 1000) (X:=D ++ blks key s (A1 ++ (A2 ++ Z))) (X':=D ++ srt key (A1 ++ A2) ++ blks key s Z) (P:=D) (A:=srt key A1) (B:=srt key A2) (R:=blks key s Z) (by rw [e3]; simp) (by rw [zh9]) (by rw [z0d,z0d]; omega) (by rw [z0d]; omega) (by rw [z0d]; omega) (z2k key _) (z2k key _) (by omega) hD.symm rfl (by rw [z0d,h1]) (by rw [z0d,z0d,h1,h2]; omega) ?_) ?_
 ·exact hH.2
 have c2:=z34 K (X':=D ++ srt key (A1 ++ A2) ++ blks key s Z) hH
 simp (maxSteps:=9^7) only [go_sem,↓reduceIte,reduceCtorEq,Nat.reduceEqDiff,Nat.reduceBEq,Nat.reduceAdd,Nat.reduceSub,Nat.reduceMul,Nat.reduceLT,Nat.reduceLeDiff,Nat.reduceBNe,Int.reduceBEq,Int.reduceBNe,Int.reduceLT,Int.reduceLE,t6,t7,t8,w2,w1,z10]
 have hsl:(D ++ srt key (A1 ++ A2)).length = D.length + 2 * s:=by rw [List.length_append,z0d,List.length_append]; omega
 refine ⟨Z.length,by simp only [List.length_append]; omega,D ++ srt key (A1 ++ A2),Z,by rw [List.append_assoc,← e4]; exact e1,by omega,rfl,?_,?_,?_,?_,?_,?_,?_⟩
 iterate 6 focus ((simp (maxSteps:=9^7) only [go_sem,↓reduceIte,reduceCtorEq,Nat.reduceEqDiff,Nat.reduceBEq,Nat.reduceAdd,Nat.reduceSub,Nat.reduceMul,Nat.reduceLT,Nat.reduceLeDiff,Nat.reduceBNe,Int.reduceBEq,Int.reduceBNe,Int.reduceLT,Int.reduceLE,t6,hsl,t0,t1,t2]) <;> rfl)
 ·exact c2
def b3I (H:Nat->Option Arr) (r f:Nat) (X:List α) (k:Nat) (σ:St):Prop :=
 ∃ s:Nat,0 < s∧s≤2000000∧k = X.length - s∧σ.T 6 = .int .i64 s∧StbF K H r f X.length (blks key s X) σ
set_option maxHeartbeats 8000000 in
theorem stbE_ok {f:FuncId} {c:α->α->Int} (hc:z82 K key f c) (H:Nat->Option Arr) (r:Nat) (X:List α) (hb:X.length≤1000000) (hr:H r = ObjE K X) :
  MFn Try.prog 39 [.rs r 0 X.length,.int .i64 X.length,.clo f [] []] H (.tup []) (upd H r (ObjE K (srt key X))):=by
 refine fnm_stbE rfl ?_
 simp (maxSteps:=9^7) only [go_sem,↓reduceIte,reduceCtorEq,Nat.reduceEqDiff,Nat.reduceBEq,Nat.reduceAdd,Nat.reduceSub,Nat.reduceMul,Nat.reduceLT,Nat.reduceLeDiff,Nat.reduceBNe,Int.reduceBEq,Int.reduceBNe,Int.reduceLT,Int.reduceLE,sh]
 refine z0f (b1I K key H r f X) (k:=X.length) ⟨[],X,rfl,by simp,rfl,?_,?_,?_,?_,?_,?_,?_⟩ (b1_loop K key hc H r X hb _ ?_)
 iterate 6 focus ((simp (maxSteps:=9^7) only [go_sem,↓reduceIte,reduceCtorEq,Nat.reduceEqDiff,Nat.reduceBEq,Nat.reduceAdd,Nat.reduceSub,Nat.reduceMul,Nat.reduceLT,Nat.reduceLeDiff,Nat.reduceBNe,Int.reduceBEq,Int.reduceBNe,Int.reduceLT,Int.reduceLE,sh]) <;> rfl)
 ·refine ⟨fun q hq=>?_,?_⟩
  ·simp (maxSteps:=9^7) only [go_sem,↓reduceIte,reduceCtorEq,Nat.reduceEqDiff,Nat.reduceBEq,Nat.reduceAdd,Nat.reduceSub,Nat.reduceMul,Nat.reduceLT,Nat.reduceLeDiff,Nat.reduceBNe,Int.reduceBEq,Int.reduceBNe,Int.reduceLT,Int.reduceLE]
  ·rw [List.nil_append]
   simp (maxSteps:=9^7) only [go_sem,↓reduceIte,reduceCtorEq,Nat.reduceEqDiff,Nat.reduceBEq,Nat.reduceAdd,Nat.reduceSub,Nat.reduceMul,Nat.reduceLT,Nat.reduceLeDiff,Nat.reduceBNe,Int.reduceBEq,Int.reduceBNe,Int.reduceLT,Int.reduceLE,hr]
 rintro σ D Y hY e1 e2 t6 t7 ⟨t0,t1,t2,hH⟩
 have hD:(D ++ Y).length = X.length:=by rw [List.length_append]; omega
 rw [z3f key (by omega)] at e1
 simp (maxSteps:=9^7) only [go_sem,↓reduceIte,reduceCtorEq,Nat.reduceEqDiff,Nat.reduceBEq,Nat.reduceAdd,Nat.reduceSub,Nat.reduceMul,Nat.reduceLT,Nat.reduceLeDiff,Nat.reduceBNe,Int.reduceBEq,Int.reduceBNe,Int.reduceLT,Int.reduceLE,t0,t1,t2,t6,t7,z10]
 refine z17 (insS_at K key hc _ (r + 1000) (X:=D ++ Y) (X':=blks key 20 X) (P:=D) (B:=Y) (R:=[]) (by simp) (by rw [← e1]; simp) (by omega) hD.symm rfl (by rw [← hD,List.length_append]) ?_) ?_
 ·exact hH.2
 have c2:=z34 K (X':=blks key 20 X) hH
 simp (maxSteps:=9^7) only [go_sem,↓reduceIte,reduceCtorEq,Nat.reduceEqDiff,Nat.reduceBEq,Nat.reduceAdd,Nat.reduceSub,Nat.reduceMul,Nat.reduceLT,Nat.reduceLeDiff,Nat.reduceBNe,Int.reduceBEq,Int.reduceBNe,Int.reduceLT,Int.reduceLE,z10]
 refine z0f (b3I K key H r f X) (k:=X.length - 20) ⟨20,by omega,by omega,rfl,?_,?_,?_,?_,?_⟩ ?_
 iterate 4 focus ((simp (maxSteps:=9^7) only [go_sem,↓reduceIte,reduceCtorEq,Nat.reduceEqDiff,Nat.reduceBEq,Nat.reduceAdd,Nat.reduceSub,Nat.reduceMul,Nat.reduceLT,Nat.reduceLeDiff,Nat.reduceBNe,Int.reduceBEq,Int.reduceBNe,Int.reduceLT,Int.reduceLE,t6,t0,t1,t2]) <;> rfl)
 ·exact c2
 clear c2 t0 t1 t2 t6 t7 hH e1 e2 hD hY D Y
 rintro k σ ⟨s,hs,hs2,rfl,t6,⟨t0,t1,t2,hH⟩⟩
 simp only [zdv]
 by_cases hlt:s < X.length
 case neg =>
  have hlt':¬ (s:Int) < (X.length:Int):=by omega
  rw [z3f key (by omega)] at hH
  have hf:=z5j K hH
  simp (maxSteps:=9^7) only [go_sem,↓reduceIte,reduceCtorEq,Nat.reduceEqDiff,Nat.reduceBEq,Nat.reduceAdd,Nat.reduceSub,Nat.reduceMul,Nat.reduceLT,Nat.reduceLeDiff,Nat.reduceBNe,Int.reduceBEq,Int.reduceBNe,Int.reduceLT,Int.reduceLE,t1,t6,hlt']
  exact hf
 have hlt':(s:Int) < (X.length:Int):=by omega
 have w2:IntKind.i64.wrap (2 * (s:Int)) = ((2 * s:Nat):Int):=by rw [z0t (by omega)]; omega
 have w2':IntKind.i64.wrap ((s:Int) * 2) = ((2 * s:Nat):Int):=by rw [z0t (by omega)]; omega
 simp (maxSteps:=9^7) only [go_sem,↓reduceIte,reduceCtorEq,Nat.reduceEqDiff,Nat.reduceBEq,Nat.reduceAdd,Nat.reduceSub,Nat.reduceMul,Nat.reduceLT,Nat.reduceLeDiff,Nat.reduceBNe,Int.reduceBEq,Int.reduceBNe,Int.reduceLT,Int.reduceLE,t0,t1,t2,t6,hlt',w2]
 refine z0f (b2I K key H r f s X) (k:=X.length) ⟨[],X,rfl,by simp,rfl,?_,?_,?_,?_,?_,?_,?_⟩ (b2_loop K key hc H r s X hb hs (by omega) _ ?_)
 iterate 2 focus ((simp (maxSteps:=9^7) only [go_sem,↓reduceIte,reduceCtorEq,Nat.reduceEqDiff,Nat.reduceBEq,Nat.reduceAdd,Nat.reduceSub,Nat.reduceMul,Nat.reduceLT,Nat.reduceLeDiff,Nat.reduceBNe,Int.reduceBEq,Int.reduceBNe,Int.reduceLT,Int.reduceLE,t6]) <;> rfl)
 ·(simp (maxSteps:=9^7) only [go_sem,↓reduceIte,reduceCtorEq,Nat.reduceEqDiff,Nat.reduceBEq,Nat.reduceAdd,Nat.reduceSub,Nat.reduceMul,Nat.reduceLT,Nat.reduceLeDiff,Nat.reduceBNe,Int.reduceBEq,Int.reduceBNe,Int.reduceLT,Int.reduceLE]) <;> simp
 iterate 3 focus ((simp (maxSteps:=9^7) only [go_sem,↓reduceIte,reduceCtorEq,Nat.reduceEqDiff,Nat.reduceBEq,Nat.reduceAdd,Nat.reduceSub,Nat.reduceMul,Nat.reduceLT,Nat.reduceLeDiff,Nat.reduceBNe,Int.reduceBEq,Int.reduceBNe,Int.reduceLT,Int.reduceLE,t0,t1,t2]) <;> rfl)
 ·exact hH
 clear t0 t1 t2 t6 hH
 rintro σ D Y hY e1 e2 t6 t7 ⟨t0,t1,t2,hH⟩
 have hz:=z7c key hs Y.length Y (Nat.le_refl _)
 have hD:(D ++ blks key s Y).length = X.length:=by rw [List.length_append]; omega
 have wm:IntKind.i64.wrap ((D.length:Int) + (s:Int)) = ((D.length + s:Nat):Int):=by rw [z0t (by omega)]; omega
 rw [z3f key (s:=2 * s) (X:=Y) (by omega)] at e1
 by_cases hgt:D.length + s < X.length
 case neg =>
  have hgt':¬ ((D.length + s:Nat):Int) < (X.length:Int):=by omega
  rw [z3f key (s:=s) (X:=Y) (by omega),e1] at hH
  simp (maxSteps:=9^7) only [go_sem,↓reduceIte,reduceCtorEq,Nat.reduceEqDiff,Nat.reduceBEq,Nat.reduceAdd,Nat.reduceSub,Nat.reduceMul,Nat.reduceLT,Nat.reduceLeDiff,Nat.reduceBNe,Int.reduceBEq,Int.reduceBNe,Int.reduceLT,Int.reduceLE,t0,t1,t2,t6,t7,wm,hgt',w2']
  refine ⟨X.length - 2 * s,by omega,2 * s,by omega,by omega,rfl,?_,?_,?_,?_,?_⟩
  iterate 4 focus ((simp (maxSteps:=9^7) only [go_sem,↓reduceIte,reduceCtorEq,Nat.reduceEqDiff,Nat.reduceBEq,Nat.reduceAdd,Nat.reduceSub,Nat.reduceMul,Nat.reduceLT,Nat.reduceLeDiff,Nat.reduceBNe,Int.reduceBEq,Int.reduceBNe,Int.reduceLT,Int.reduceLE,t0,t1,t2]) <;> rfl)
  ·exact hH
 have hgt':((D.length + s:Nat):Int) < (X.length:Int):=by omega
 have hA1:(Y.take s).length = s:=by rw [List.length_take]; omega
 have hA2:(Y.drop s).length = Y.length - s:=List.length_drop
 have e3:=z55 key hs (X:=Y.drop s) hA1
 rw [List.take_append_drop,z3f key (s:=s) (X:=Y.drop s) (by omega)] at e3
 simp (maxSteps:=9^7) only [go_sem,↓reduceIte,reduceCtorEq,Nat.reduceEqDiff,Nat.reduceBEq,Nat.reduceAdd,Nat.reduceSub,Nat.reduceMul,Nat.reduceLT,Nat.reduceLeDiff,Nat.reduceBNe,Int.reduceBEq,Int.reduceBNe,Int.reduceLT,Int.reduceLE,t0,t1,t2,t6,t7,wm,hgt',z10]
 refine z17 ((zpa K key hc (Y.length + 1)).at K key _ (r + 1000) (X:=D ++ blks key s Y) (X':=blks key (2 * s) X) (P:=D) (A:=srt key (Y.take s)) (B:=srt key (Y.drop s)) (R:=[]) (by rw [e3]; simp) (by rw [zh9,List.take_append_drop,e1,List.append_nil]) (by rw [z0d,z0d]; omega) (by rw [z0d]; omega) (by rw [z0d]; omega) (z2k key _) (z2k key _) (by omega) hD.symm rfl (by rw [z0d,hA1]) (by rw [z0d,z0d,hA1,hA2]; omega) ?_) ?_
 ·exact hH.2
 have c2:=z34 K (X':=blks key (2 * s) X) hH
 simp (maxSteps:=9^7) only [go_sem,↓reduceIte,reduceCtorEq,Nat.reduceEqDiff,Nat.reduceBEq,Nat.reduceAdd,Nat.reduceSub,Nat.reduceMul,Nat.reduceLT,Nat.reduceLeDiff,Nat.reduceBNe,Int.reduceBEq,Int.reduceBNe,Int.reduceLT,Int.reduceLE,t6,w2',z10]
 refine ⟨X.length - 2 * s,by omega,2 * s,by omega,by omega,rfl,?_,?_,?_,?_,?_⟩
 iterate 4 focus ((simp (maxSteps:=9^7) only [go_sem,↓reduceIte,reduceCtorEq,Nat.reduceEqDiff,Nat.reduceBEq,Nat.reduceAdd,Nat.reduceSub,Nat.reduceMul,Nat.reduceLT,Nat.reduceLeDiff,Nat.reduceBNe,Int.reduceBEq,Int.reduceBNe,Int.reduceLT,Int.reduceLE,t0,t1,t2]) <;> rfl)
 ·exact c2
end
end
end Go.Proofs.Ytolocaankfcjiaa
