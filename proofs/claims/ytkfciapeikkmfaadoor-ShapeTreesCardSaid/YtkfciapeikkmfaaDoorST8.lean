/-
  Part 8 of a proof: SqA, SqB, SqC, SqD, SqE, SqF, NdA.
-/
import Derived.IntWalk
import Derived.Test.YtkfciapeikkmfaaDoorST7
set_option linter.unusedVariables false
set_option linter.unusedSimpArgs false
set_option maxRecDepth 100000
namespace Go.Proofs.YtkfciapeikkmfaaDoor
attribute [local go_sem] ev0 ev1 ev2 ev3 ev4 evA zhx.eq_1 zhx.eq_2 zhw.eq_1 zhw.eq_2 okV valV fzV okF valF okBld zfq mxOk.eq_1 mxOk.eq_2 y3k.eq_1 y3k.eq_2 z1s.eq_1 z1s.eq_2 z1s.eq_3 z4n.eq_1 z4n.eq_2 z4n.eq_3 upd_at AV.flatB AV.flatBs zu1 binIV zu0 binSV z2d.eq_1 z2d.eq_2 z26.eq_1 z26.eq_2 z09.eq_1 z09.eq_2 objZ.eq_1 objZ.eq_2 z1b.eq_1 z1b.eq_2 zlc zd4.eq_1 zd4.eq_2 zd4.eq_3 z0w.eq_1 z0w.eq_2 z0w.eq_3 z8t.eq_1 z8t.eq_2 z8t.eq_3 z8t.eq_4 z3t.eq_1 z3t.eq_2 z3t.eq_3 z3t.eq_4 faOk.eq_1 faOk.eq_2 faOk.eq_3 zmd.eq_1 zmd.eq_2 zmd.eq_3 iaOk.eq_1 iaOk.eq_2 iaOk.eq_3 zm1.eq_1 zm1.eq_2 zm1.eq_3 z2j.eq_1 z2j.eq_2 z2j.eq_3 z2j.eq_4 bdOk.eq_1 bdOk.eq_2 z6m.eq_1 z6m.eq_2 z5g.eq_1 z5g.eq_2 z5g.eq_3 z5g.eq_4 z5g.eq_5 zhz.eq_1 zhz.eq_2 zhz.eq_3 z41.eq_1 z41.eq_2 z41.eq_3 z41.eq_4 zvy.eq_1 zvy.eq_2 loK.eq_1 loK.eq_2 loK.eq_3 zcw.eq_1 zcw.eq_2 zcw.eq_3 byOk.eq_1 byOk.eq_2 byOk.eq_3 byOk.eq_4 byOk.eq_5 byOk.eq_6 byOk.eq_7 byOk.eq_8 z1c.eq_1 z1c.eq_2 z1c.eq_3 byFz.eq_1 byFz.eq_2 byFz.eq_3 z5b z19 z6l zmx z6x.eq_1 z6x.eq_2 z1d.eq_1 z1d.eq_2 stOk.eq_1 stOk.eq_2 zn2.eq_1 zn2.eq_2 stSt.eq_1 stSt.eq_2 AV.patch z8p gB.eq_1 gB.eq_2 gB.eq_3 gIs.eq_1 gIs.eq_2 gIs.eq_3 retV resV zwr z06 z2q St.byval List.getD_cons_zero List.getD_cons_succ List.getD_nil List.map_cons List.map_nil List.length_cons List.length_nil List.take_succ_cons List.take_zero List.drop_succ_cons List.drop_zero List.headD_cons List.set_cons_zero List.append_nil List.nil_append List.cons_append List.contains_cons List.contains_nil List.elem_cons List.elem_nil List.all_cons List.all_nil List.getElem?_cons_zero List.getElem?_cons_succ List.filterMap_cons List.filterMap_nil Option.isSome_some Option.isSome_none Option.map_some Option.map_none Option.some.injEq AV.int.injEq AV.bool.injEq AV.str.injEq AV.tup.injEq AV.agg.injEq AV.sl.injEq List.cons.injEq Bool.false_eq_true Bool.true_eq_false Bool.not_true Bool.not_false Bool.and_true Bool.true_and Bool.or_false Bool.or_true Bool.false_or Bool.true_or Bool.or_self Bool.and_self Bool.not_eq_true' Bool.not_eq_false' Bool.not_not beq_self_eq_true true_and and_true false_and and_false and_self not_true_eq_false not_false_eq_true forall_const true_implies false_implies implies_true imp_self Nat.lt_add_one Nat.le_refl Nat.zero_le Nat.add_zero Nat.zero_add decide_true decide_false decide_eq_true_eq decide_eq_false_iff_not exists_eq_left exists_eq_left' ge_iff_le gt_iff_lt zdc z8v zv8.eq_1 zv8.eq_2 z9m.eq_1 z9m.eq_2 AV.isSl.eq_1 z9l.eq_1 z9l.eq_2 apSt.eq_1 y2i.eq_1 y2i.eq_2 y2h.eq_1 y2h.eq_2 apSt2.eq_1 zf1.eq_1 zf1.eq_2 slOf.eq_1 y3v List.mem_cons List.not_mem_nil Bool.false_and Bool.and_false z1z.eq_1 z1z.eq_2 z1z.eq_3 z1z.eq_4 z1z.eq_5 z0o.eq_1 z0o.eq_2 z0o.eq_3 z0o.eq_4 z0o.eq_5 mOk.eq_1 mOk.eq_2 mVal.eq_1 mVal.eq_2 mFz.eq_1 mFz.eq_2 mOks zvb mFzs z9o.eq_1 z9o.eq_2 mFn.eq_1 mFn.eq_2 zvc.eq_1 zvc.eq_2 ckOk.eq_1 ckOk.eq_2 cloOk.eq_1 ptrAt.eq_1 sh.eq_1 sh.eq_2 sh.eq_3 sh.eq_4 sh.eq_5 sh.eq_6 retM zi1 evM z0l.eq_1 z0l.eq_2 ents.eq_1 ents.eq_2 kI.eq_1 mpOk.eq_1 mpR.eq_1 lkV.eq_1 lkV.eq_2 remp.eq_2 evP pvOk.eq_1 pvOk.eq_2 zv2.eq_1 zv2.eq_2 plOk.eq_1 plOk.eq_2 plOk.eq_3 plV.eq_1 plV.eq_2 plF.eq_1 plF.eq_2 zn5.eq_1 zn5.eq_2 plFz.eq_1 plFz.eq_2 lpOk.eq_1 lpOk.eq_2 y0t.eq_1 y0t.eq_2 lpFz.eq_1 lpFz.eq_2 zn1.eq_1 zn1.eq_2 zf2.eq_1 zf2.eq_2 zhv.eq_1 zn8.eq_1 zn8.eq_2 evCl
section
open Go.RowKit
attribute [local go_sem ↓] z1m z0h
structure Spn where
 lo:ByteArray
 hi:ByteArray
 op:Bool
deriving DecidableEq
def Spn.a (s:Spn):AV:=.agg [.str s.lo,.str s.hi,.bool s.op]
def lt (a b:ByteArray):Bool:=Op.bytesLess a.toList b.toList
def Spn.has (s:Spn) (k:ByteArray):Bool:=!lt k s.lo && (s.op || lt k s.hi)
def Spn.empty (s:Spn):Bool:=!s.op && !lt s.lo s.hi
def Spn.none:Spn:=⟨⟨#[]⟩,⟨#[]⟩,false⟩
def Spn.norm (s:Spn):Spn:=if s.empty then Spn.none else if s.op then ⟨s.lo,⟨#[]⟩,true⟩ else s
def maxS (a b:ByteArray):ByteArray:=if lt a b then b else a
def minS (a b:ByteArray):ByteArray:=if lt b a then b else a
def Spn.cut (a b:Spn):Spn:=⟨maxS a.lo b.lo,if a.op then b.hi else if b.op then a.hi else minS a.hi b.hi,a.op && b.op⟩
def Spn.meet (a b:Spn):Spn:=(a.cut b).norm
def Spn.within (a b:Spn):Bool:=decide ((a.meet b).norm = a.norm)
def Spn.touch (a b:Spn):Bool:=!(a.meet b).empty
def zir:Reg:=⟨[],[⟨.box 3 29 (.t 0),some 1,none,[],[]⟩,⟨.mv (.c (.bool false)),some 2,none,[],[]⟩],[1],[],false⟩
def z7h:List ROp:=[⟨.faddr 2 (.t 1),some 3,none,[],[]⟩,⟨.load 1 false (.t 3),some 4,none,[],[]⟩,⟨.un .not (.t 4),some 5,none,[],[]⟩,⟨.mv (.t 5),some 6,none,[],[]⟩,⟨.faddr 0 (.t 1),some 7,(some (6,true)),[],[]⟩,⟨.load 1 false (.t 7),some 8,(some (6,true)),[],[]⟩,⟨.faddr 1 (.t 1),some 9,(some (6,true)),[],[]⟩,⟨.load 1 false (.t 9),some 10,(some (6,true)),[],[]⟩,⟨.bin .geq (.t 8) (.t 10),some 11,(some (6,true)),[],[]⟩,⟨.pick (.t 6) (.t 11) (.c (.bool false)),some 12,none,[],[]⟩,⟨.mv (.t 12),some 2,none,[],[]⟩]
def ziq:Reg:=⟨[],z7h,[],[],false⟩
def zth:IR:=(.seq (.reg zir)
 (.seq (.reg ziq)
 .ret))
def zi6:List RDesc:=[(.tmp 2)]
theorem y49:EqR zir [⟨.box 3 29 (.t 0),some 1,none,[],[]⟩,⟨.mv (.c (.bool false)),some 2,none,[],[]⟩] [1]:=fun _ _ _=>rfl
theorem y48:EqR ziq z7h []:=fun _ _ _=>rfl
theorem fn_spEmpty {args:List AV} {r:AV} (ha:args.length.ble Tryd.f81.ntmps = true) (h:run (AFn Tryd.prog) zth (endQ zi6 r) (z0a args)):AFn Tryd.prog 81 args r :=
 AFn.of_code (pv:=false) (hint:=fun _=>[]) (c:=Tryd.f81.body.getD .skip) (by kernel_rfl) (by kernel_rfl) Tryd.func81 (by kernel_rfl) (by kernel_rfl) (by kernel_rfl) (of_decide_eq_true (by kernel_rfl)) (Nat.le_of_ble_eq_true ha) (Nat.le_of_ble_eq_true (by kernel_rfl)) (z0b h)
def zah:List ROp:=[⟨.box 3 29 (.t 0),some 1,none,[2],[]⟩,⟨.alloc 3 29 (.agg [(.str ⟨#[]⟩),(.str ⟨#[]⟩),(.bool false)]),some 2,none,[],[]⟩]
def zou:Reg:=⟨[],zah,[1,2],[],false⟩
def zag:List ROp:=[⟨.load 3 true (.t 1),some 4,none,[5],[]⟩,⟨.callv (.c (.clo 81 [] [])) [(.t 4)],some 5,none,[],[]⟩,⟨.mv (.t 5),some 3,none,[],[]⟩]
def zot:Reg:=⟨[],zag,[5],[],false⟩
def zaf:List ROp:=[⟨.bld [(.str ⟨#[]⟩),(.str ⟨#[]⟩),(.bool false)] [],some 6,none,[],[]⟩,⟨.store 3 (.t 2) (.t 6),none,none,[],[]⟩]
def zos:Reg:=⟨[],zaf,[],[],false⟩
def zae:List ROp:=[⟨.faddr 2 (.t 1),some 8,none,[],[]⟩,⟨.load 1 false (.t 8),some 9,none,[],[]⟩,⟨.mv (.t 9),some 7,none,[],[]⟩]
def zor:Reg:=⟨[],zae,[],[],false⟩
def zoq:Reg:=⟨[],[⟨.faddr 1 (.t 1),some 10,none,[],[]⟩,⟨.store 1 (.t 10) (.c (.str ⟨#[]⟩)),none,none,[],[]⟩],[],[],false⟩
def zop:Reg:=⟨[],[⟨.load 3 true (.t 1),some 11,none,[],[]⟩,⟨.store 3 (.t 2) (.t 11),none,none,[],[]⟩],[],[],false⟩
def y14:IR:=(.seq (.reg zou)
 (.seq (.block 0 (.seq (.reg zot)
 (.cond (.t 3) (.seq (.reg zos)
 .ret)
 (.seq (.reg zor)
 (.cond (.t 7) (.reg zoq)
 .skip)))))
 (.seq (.reg zop)
 .ret)))
def znp:List RDesc:=[(.cell 2 3 true)]
theorem e_spNorm_0:EqR zou zah [1,2]:=fun _ _ _=>rfl
theorem e_spNorm_1:EqR zot zag [5]:=fun _ _ _=>rfl
theorem e_spNorm_2:EqR zos zaf []:=fun _ _ _=>rfl
theorem e_spNorm_3:EqR zor zae []:=fun _ _ _=>rfl
theorem e_spNorm_4:EqR zoq [⟨.faddr 1 (.t 1),some 10,none,[],[]⟩,⟨.store 1 (.t 10) (.c (.str ⟨#[]⟩)),none,none,[],[]⟩] []:=fun _ _ _=>rfl
theorem e_spNorm_5:EqR zop [⟨.load 3 true (.t 1),some 11,none,[],[]⟩,⟨.store 3 (.t 2) (.t 11),none,none,[],[]⟩] []:=fun _ _ _=>rfl
theorem fn_spNorm {args:List AV} {r:AV} (ha:args.length.ble Tryd.f70.ntmps = true) (h:run (AFn Tryd.prog) y14 (endQ znp r) (z0a args)):AFn Tryd.prog 70 args r :=
 AFn.of_code (pv:=false) (hint:=fun _=>[]) (c:=Tryd.f70.body.getD .skip) (by kernel_rfl) (by kernel_rfl) Tryd.func70 (by kernel_rfl) (by kernel_rfl) (by kernel_rfl) (of_decide_eq_true (by kernel_rfl)) (Nat.le_of_ble_eq_true ha) (Nat.le_of_ble_eq_true (by kernel_rfl)) (z0b h)
def zap:List ROp:=[⟨.box 3 29 (.t 0),some 2,none,[3,4],[]⟩,⟨.box 3 29 (.t 1),some 3,none,[4],[]⟩,⟨.alloc 3 29 (.agg [(.str ⟨#[]⟩),(.str ⟨#[]⟩),(.bool false)]),some 4,none,[],[]⟩]
def zp2:Reg:=⟨[],zap,[2,3,4],[],false⟩
def zao:List ROp:=[⟨.faddr 0 (.t 2),some 6,none,[5],[]⟩,⟨.load 1 false (.t 6),some 7,none,[5],[]⟩,⟨.faddr 0 (.t 3),some 8,none,[5],[]⟩,⟨.load 1 false (.t 8),some 9,none,[5],[]⟩,⟨.mx true (.t 7) (.t 9),some 10,none,[5],[]⟩,⟨.faddr 2 (.t 2),some 11,none,[5],[]⟩,⟨.load 1 false (.t 11),some 12,none,[5],[]⟩,⟨.mv (.t 12),some 13,none,[5],[]⟩,⟨.faddr 2 (.t 3),some 14,(some (13,true)),[5],[]⟩,⟨.load 1 false (.t 14),some 15,(some (13,true)),[5],[]⟩,⟨.pick (.t 13) (.t 15) (.c (.bool false)),some 16,none,[5],[]⟩,⟨.bld [(.str ⟨#[]⟩),(.str ⟨#[]⟩),(.bool false)] [⟨0,1,(.t 10)⟩,⟨2,1,(.t 16)⟩],some 17,none,[5],[]⟩,⟨.alloc 3 29 (.agg [(.str ⟨#[]⟩),(.str ⟨#[]⟩),(.bool false)]),some 5,none,[],[]⟩,⟨.store 3 (.t 5) (.t 17),none,none,[],[]⟩]
def zp1:Reg:=⟨[],zao,[5],[],false⟩
def zan:List ROp:=[⟨.faddr 2 (.t 2),some 25,none,[],[]⟩,⟨.load 1 false (.t 25),some 26,none,[],[]⟩,⟨.mv (.t 26),some 24,none,[],[]⟩]
def zp0:Reg:=⟨[],zan,[],[],false⟩
def zam:List ROp:=[⟨.faddr 1 (.t 3),some 27,none,[],[]⟩,⟨.load 1 false (.t 27),some 28,none,[],[]⟩,⟨.faddr 1 (.t 5),some 29,none,[],[]⟩,⟨.store 1 (.t 29) (.t 28),none,none,[],[]⟩]
def zoz:Reg:=⟨[],zam,[],[],false⟩
def zal:List ROp:=[⟨.faddr 2 (.t 3),some 31,none,[],[]⟩,⟨.load 1 false (.t 31),some 32,none,[],[]⟩,⟨.mv (.t 32),some 30,none,[],[]⟩]
def zoy:Reg:=⟨[],zal,[],[],false⟩
def zak:List ROp:=[⟨.faddr 1 (.t 2),some 33,none,[],[]⟩,⟨.load 1 false (.t 33),some 34,none,[],[]⟩,⟨.faddr 1 (.t 5),some 35,none,[],[]⟩,⟨.store 1 (.t 35) (.t 34),none,none,[],[]⟩]
def zox:Reg:=⟨[],zak,[],[],false⟩
def zaj:List ROp:=[⟨.faddr 1 (.t 2),some 18,none,[],[]⟩,⟨.load 1 false (.t 18),some 19,none,[],[]⟩,⟨.faddr 1 (.t 3),some 20,none,[],[]⟩,⟨.load 1 false (.t 20),some 21,none,[],[]⟩,⟨.mx false (.t 19) (.t 21),some 22,none,[],[]⟩,⟨.faddr 1 (.t 5),some 23,none,[],[]⟩,⟨.store 1 (.t 23) (.t 22),none,none,[],[]⟩]
def zow:Reg:=⟨[],zaj,[],[],false⟩
def zai:List ROp:=[⟨.load 3 true (.t 5),some 36,none,[37],[]⟩,⟨.callv (.c (.clo 70 [] [])) [(.t 36)],some 37,none,[],[]⟩,⟨.store 3 (.t 4) (.t 37),none,none,[],[]⟩]
def zov:Reg:=⟨[],zai,[37],[],false⟩
def y15:IR:=(.seq (.reg zp2)
 (.seq (.reg zp1)
 (.seq (.block 0 (.seq (.reg zp0)
 (.cond (.t 24) (.reg zoz)
 (.seq (.reg zoy)
 (.cond (.t 30) (.reg zox)
 (.reg zow))))))
 (.seq (.reg zov)
 .ret))))
def znq:List RDesc:=[(.cell 4 3 true)]
theorem e_spMeet_0:EqR zp2 zap [2,3,4]:=fun _ _ _=>rfl
theorem e_spMeet_1:EqR zp1 zao [5]:=fun _ _ _=>rfl
theorem e_spMeet_2:EqR zp0 zan []:=fun _ _ _=>rfl
theorem e_spMeet_3:EqR zoz zam []:=fun _ _ _=>rfl
theorem e_spMeet_4:EqR zoy zal []:=fun _ _ _=>rfl
theorem e_spMeet_5:EqR zox zak []:=fun _ _ _=>rfl
theorem e_spMeet_6:EqR zow zaj []:=fun _ _ _=>rfl
theorem e_spMeet_7:EqR zov zai [37]:=fun _ _ _=>rfl
theorem fn_spMeet {args:List AV} {r:AV} (ha:args.length.ble Tryd.f56.ntmps = true) (h:run (AFn Tryd.prog) y15 (endQ znq r) (z0a args)):AFn Tryd.prog 56 args r :=
 AFn.of_code (pv:=false) (hint:=fun _=>[]) (c:=Tryd.f56.body.getD .skip) (by kernel_rfl) (by kernel_rfl) Tryd.func56 (by kernel_rfl) (by kernel_rfl) (by kernel_rfl) (of_decide_eq_true (by kernel_rfl)) (Nat.le_of_ble_eq_true ha) (Nat.le_of_ble_eq_true (by kernel_rfl)) (z0b h)
attribute [local go_sem ↓] zth
attribute [local go_sem] zi6 y49 y48 z7h
attribute [local go_sem ↓] y14
attribute [local go_sem] znp e_spNorm_0 zah e_spNorm_1 zag e_spNorm_2 zaf e_spNorm_3 zae e_spNorm_4 e_spNorm_5
attribute [local go_sem ↓] y15
attribute [local go_sem] znq e_spMeet_0 zap e_spMeet_1 zao e_spMeet_2 zan e_spMeet_3 zam e_spMeet_4 zal e_spMeet_5 zak e_spMeet_6 zaj e_spMeet_7 zai
theorem zvx (s:Spn):AFn Tryd.prog 81 [s.a] (.bool s.empty):=by
 refine fn_spEmpty rfl ?_
 simp (maxSteps:=9^7) only [go_sem,↓reduceIte,reduceCtorEq,Nat.reduceEqDiff,Nat.reduceBEq,Nat.reduceAdd,Nat.reduceSub,Nat.reduceMul,Nat.reduceLT,Nat.reduceLeDiff,Nat.reduceBNe,Int.reduceBEq,Int.reduceBNe,Int.reduceLT,Int.reduceLE,Spn.a]
 refine ⟨fun h=>?_,fun h=>?_⟩ <;> simp [Spn.empty,lt,h]
theorem z6o (s:Spn):AFn Tryd.prog 70 [s.a] s.norm.a:=by
 refine fn_spNorm rfl ?_
 simp (maxSteps:=9^7) only [go_sem,↓reduceIte,reduceCtorEq,Nat.reduceEqDiff,Nat.reduceBEq,Nat.reduceAdd,Nat.reduceSub,Nat.reduceMul,Nat.reduceLT,Nat.reduceLeDiff,Nat.reduceBNe,Int.reduceBEq,Int.reduceBNe,Int.reduceLT,Int.reduceLE,Spn.a]
 (first | refine z01 (zvx s) ?_ | refine z00 (zvx s) ?_)
 simp (maxSteps:=9^7) only [go_sem,↓reduceIte,reduceCtorEq,Nat.reduceEqDiff,Nat.reduceBEq,Nat.reduceAdd,Nat.reduceSub,Nat.reduceMul,Nat.reduceLT,Nat.reduceLeDiff,Nat.reduceBNe,Int.reduceBEq,Int.reduceBNe,Int.reduceLT,Int.reduceLE,Spn.a]
 refine ⟨fun h=>?_,fun h=>⟨fun h2=>?_,fun h2=>?_⟩⟩ <;> simp [Spn.norm,Spn.none, *]
theorem mxS_eq (a b:ByteArray):mxS a b = maxS a b:=rfl
theorem mnS_eq (a b:ByteArray):mnS a b = minS a b:=by
 unfold mnS minS lt
 cases h:Op.bytesLess a.toList b.toList <;> cases h2:Op.bytesLess b.toList a.toList
 ·have:=kp.less_total _ _ h h2
  simp [this]
 ·have:(a.toList == b.toList) = false:=by
   rw [beq_eq_false_iff_ne]
   intro e
   rw [e,← e] at h2; rw [e] at h
   rw [e] at h2
   rw [h] at h2; cases h2
  simp [this]
 ·simp
 ·rw [kp.less_asymm _ _ h] at h2; cases h2
attribute [local irreducible] mxS mnS
theorem spanMeet (s t : Spn) : AFn Tryd.prog 56 [s.a, t.a] (s.meet t).a := by
  obtain ⟨sl, sh, so⟩ := s
  obtain ⟨tl, th, tp⟩ := t
  cases so <;> cases tp <;> refine fn_spMeet rfl ?_ <;>
    (simp (maxSteps:=9^7) only [go_sem,↓reduceIte,reduceCtorEq,Nat.reduceEqDiff,Nat.reduceBEq,Nat.reduceAdd,Nat.reduceSub,Nat.reduceMul,Nat.reduceLT,Nat.reduceLeDiff,Nat.reduceBNe,Int.reduceBEq,Int.reduceBNe,Int.reduceLT,Int.reduceLE,Spn.a]
     (first | refine z01 (z6o ⟨_, _, _⟩) ?_ | refine z00 (z6o ⟨_, _, _⟩) ?_)
     simp (maxSteps:=9^7) only [go_sem,↓reduceIte,reduceCtorEq,Nat.reduceEqDiff,Nat.reduceBEq,Nat.reduceAdd,Nat.reduceSub,Nat.reduceMul,Nat.reduceLT,Nat.reduceLeDiff,Nat.reduceBNe,Int.reduceBEq,Int.reduceBNe,Int.reduceLT,Int.reduceLE,Spn.a]
     simp [Spn.meet, Spn.cut, mxS_eq, mnS_eq])
theorem Spn.ext' {a b:Spn} (h1:a.lo = b.lo) (h2:a.hi = b.hi) (h3:a.op = b.op):a = b:=by cases a; cases b; simp_all
def z2k (k:ByteArray):Spn:=⟨k,k ++ ⟨#[0]⟩,false⟩
end
section
open Go.RowKit
structure Eff where
 kind:Int
 val:ByteArray
deriving DecidableEq
structure Msg where
 stamp:Int
 kind:Int
 key:ByteArray
 hi:ByteArray
 op:Bool
 val:ByteArray
deriving DecidableEq
def Eff.a (e:Eff):AV:=.agg [.int .i64 e.kind,.str e.val]
def Msg.a (m:Msg):AV:=.agg [.int .i64 m.stamp,.int .i64 m.kind,.str m.key,.str m.hi,.bool m.op,.str m.val]
def Eff.none:Eff:=⟨0,⟨#[]⟩⟩
def z3p (s:ByteArray):ByteArray:=s.extract (s.size - 16) s.size
def Eff.thenC (a b:Eff):Eff:=if b.kind = 0 then a else if b.kind ≠ 2∨a.kind = 0 then b else ⟨if a.kind = 2 then 2 else 1,z3p ((if a.kind = 3 then ⟨#[]⟩ else a.val) ++ b.val)⟩
def Eff.thenR (a b:Eff):Eff:=if b.kind = 0 then a else if b.kind ≠ 2∨a.kind = 0 then b else ⟨if a.kind = 2 then 2 else 1,z3p (a.val ++ b.val)⟩
theorem then_same {a:Eff} (b:Eff) (h:a.kind = 3->a.val = ⟨#[]⟩):a.thenC b = a.thenR b:=by
 unfold Eff.thenC Eff.thenR
 split
 ·rfl
 ·split
  ·rfl
  ·by_cases h3:a.kind = 3
   ·rw [if_pos h3,h h3]
   ·rw [if_neg h3]
def Msg.span (m:Msg):Spn:=if m.kind = 4 then ⟨m.key,m.hi,m.op⟩ else z2k m.key
def Msg.on (m:Msg) (k:ByteArray):Eff:=if m.span.has k = true then (if m.kind = 1∨m.kind = 2 then ⟨m.kind,m.val⟩ else if m.kind = 3∨m.kind = 4 then ⟨3,⟨#[]⟩⟩ else Eff.none) else Eff.none
def z3a (a b:Msg):Msg × Bool :=
 if b.kind = 4∧a.span.within b.span = true then (b,true)
 else if a.kind = 4∨b.kind = 4∨a.key ≠ b.key then (⟨0,0,⟨#[]⟩,⟨#[]⟩,false,⟨#[]⟩⟩,false)
 else ({ b with kind:=((a.on a.key).thenC (b.on b.key)).kind,val:=((a.on a.key).thenC (b.on b.key)).val },true)
end
section
open Go.RowKit
def MOk (l:List Msg):Prop:=l.length≤1000000∧∀ m,m ∈ l->m.key.size≤9223372036854775806
def z29 (p:Nat->Bool):Nat->Nat->Option Nat
 | 0,_=>none
 | f + 1,j=>if p j then some j else z29 p f (j + 1)
def z44 (l:List Msg) (i:Nat):Option Nat:=match l[i]? with
 | some m=>z29 (fun j=>(l[j]?).any fun x=>x.span.touch m.span) (l.length - (i + 1)) (i + 1)
 | none=>none
def cov (l:List Msg) (i:Nat):Bool:=match l[i]? with
 | some m=>(l.drop (i + 1)).any fun x=>x.kind == 4 && m.span.within x.span
 | none=>false
def dead (l:List Msg) (i:Nat):Bool:=match l[i]? with
 | some m=>if m.kind = 4 then cov l i else match z44 l i with
  | some j=>(l[j]?).any fun x=>x.kind != 2
  | none=>false
 | none=>false
theorem z4f {p:Nat->Bool}:∀ {f j k:Nat},z29 p f j = some k->j≤k∧k < j + f∧p k = true
 | 0,j,k,h=>by simp [z29] at h
 | f + 1,j,k,h=>by
  simp only [z29] at h
  by_cases hp:p j = true
  ·rw [if_pos hp] at h; cases h
   exact ⟨Nat.le_refl _,by omega,hp⟩
  ·rw [if_neg hp] at h
   obtain ⟨h1,h2,h3⟩:=z4f h
   exact ⟨by omega,by omega,h3⟩
theorem zlh {l:List Msg} {i j:Nat} (h:z44 l i = some j):i < j∧∃ x,l[j]? = some x:=by
 unfold z44 at h
 split at h
 ·obtain ⟨h1,h2,h3⟩:=z4f h
  refine ⟨by omega,?_⟩
  cases hx:l[j]? with
  | none=>simp only [hx] at h3; cases h3
  | some x=>exact ⟨x,rfl⟩
 ·cases h
end
section
open Go.RowKit
def sqGo:Nat->Nat->List Msg->List Msg->List Msg
 | 0,_,_,out=>out
 | f + 1,i,rest,out=>match rest[i]? with
  | none=>out
  | some m=>if dead rest i then sqGo f (i + 1) rest out else match z44 rest i with
   | none=>sqGo f (i + 1) rest (out ++ [m])
   | some j=>if m.kind = 4 then sqGo f (i + 1) rest (out ++ [m]) else match rest[j]? with
    | none=>out
    | some x=>if (z3a m x).2 then sqGo f (i + 1) (rest.set j (z3a m x).1) out else sqGo f (i + 1) rest (out ++ [m])
def z9b (l:List Msg):List Msg:=sqGo l.length 0 l []
def ROk (l:List Msg):Prop:=l.length≤1000000∧∀ m,m ∈ l->m.key.size≤9223372036854775806∧m.val.size≤4611686018427387903
theorem ROk.ok {l:List Msg} (h:ROk l):MOk l:=⟨h.1,fun m hm=>(h.2 m hm).1⟩
theorem on_size (m:Msg) (k:ByteArray):(m.on k).val.size≤m.val.size:=by
 unfold Msg.on Eff.none
 split
 ·split
  ·exact Nat.le_refl _
  ·split <;> exact Nat.zero_le _
 ·exact Nat.zero_le _
theorem y2p (s:ByteArray):(z3p s).size≤16:=by
 unfold z3p
 rw [ByteArray.size_extract]
 omega
end
section
open Go.RowKit
attribute [local go_sem ↓] z1m z0h
theorem drop_less (x y:List UInt8) (j:Nat) (hx:j < x.length) (hy:j < y.length):Op.bytesLess (x.drop j) (y.drop j) = if (x.getD j 0) = (y.getD j 0) then Op.bytesLess (x.drop (j + 1)) (y.drop (j + 1)) else decide (x.getD j 0 < y.getD j 0):=by
 rw [List.drop_eq_getElem_cons hx,List.drop_eq_getElem_cons hy,kp.less_cons,List.getD_eq_getElem?_getD,List.getD_eq_getElem?_getD,List.getElem?_eq_getElem hx,List.getElem?_eq_getElem hy]
 simp only [Option.getD_some]
 by_cases h:x[j] = y[j]
 ·rw [if_pos h,h]; simp
 ·rw [if_neg h]; simp [h]
def lessInv (a b:ByteArray) (r:Bool) (k:Nat) (σ:St):Prop :=
 ∃ j:Nat,j≤a.size∧j≤b.size∧k = a.size - j∧σ.T 0 = .str a∧σ.T 1 = .str b∧σ.T 5 = .int .i64 j∧Op.bytesLess (a.data.toList.drop j) (b.data.toList.drop j) = r
def zz3:Reg:=⟨[],[⟨.mv (.c (.bool false)),some 4,none,[],[]⟩],[],[],false⟩
def zz2:Reg:=⟨[],[⟨.mv (.c (.int .i64 0)),some 5,none,[],[]⟩],[],[],false⟩
def zh3:List ROp:=[⟨.mv (.t 5),some 6,none,[],[]⟩,⟨.mv (.t 0),some 7,none,[],[]⟩,⟨.len true (.t 7),some 8,none,[],[]⟩,⟨.bin .lss (.t 6) (.t 8),some 9,none,[],[]⟩,⟨.mv (.t 9),some 10,none,[],[]⟩,⟨.mv (.t 5),some 11,(some (10,true)),[],[]⟩,⟨.mv (.t 1),some 12,(some (10,true)),[],[]⟩,⟨.len true (.t 12),some 13,(some (10,true)),[],[]⟩,⟨.bin .lss (.t 11) (.t 13),some 14,(some (10,true)),[],[]⟩,⟨.pick (.t 10) (.t 14) (.c (.bool false)),some 15,none,[],[]⟩]
def zz1:Reg:=⟨[],zh3,[],[],false⟩
def zm6:List ROp:=[⟨.mv (.t 0),some 18,none,[],[]⟩,⟨.mv (.t 5),some 19,none,[],[]⟩,⟨.idx (.t 18) (.t 19),some 20,none,[],[]⟩,⟨.mv (.t 1),some 21,none,[],[]⟩,⟨.mv (.t 5),some 22,none,[],[]⟩,⟨.idx (.t 21) (.t 22),some 23,none,[],[]⟩]
def zz0:Reg:=⟨zm6,[⟨.bin .neq (.t 20) (.t 23),some 24,none,[],[]⟩],[],[],true⟩
def zm5:List ROp:=[⟨.mv (.t 0),some 25,none,[],[]⟩,⟨.mv (.t 5),some 26,none,[],[]⟩,⟨.idx (.t 25) (.t 26),some 27,none,[],[]⟩,⟨.mv (.t 1),some 28,none,[],[]⟩,⟨.mv (.t 5),some 29,none,[],[]⟩,⟨.idx (.t 28) (.t 29),some 30,none,[],[]⟩]
def zyz:Reg:=⟨zm5,[⟨.bin .lss (.t 27) (.t 30),some 31,none,[],[]⟩,⟨.mv (.t 31),some 4,none,[],[]⟩],[],[],true⟩
def zh2:List ROp:=[⟨.mv (.t 5),some 16,none,[],[]⟩,⟨.bin .add (.t 16) (.c (.int .i64 1)),some 17,none,[],[]⟩,⟨.mv (.t 17),some 5,none,[],[]⟩]
def zyy:Reg:=⟨[],zh2,[],[],false⟩
def zr4:IR:=(.seq (.seq (.reg zz1)
 (.cond (.t 15) .skip
 (.exit 0)))
 (.seq (.block 1 (.seq (.reg zz0)
 (.cond (.t 24) (.seq (.reg zyz)
 .ret)
 .skip)))
 (.reg zyy)))
def zh1:List ROp:=[⟨.mv (.t 0),some 32,none,[],[]⟩,⟨.len true (.t 32),some 33,none,[],[]⟩,⟨.mv (.t 1),some 34,none,[],[]⟩,⟨.len true (.t 34),some 35,none,[],[]⟩,⟨.bin .lss (.t 33) (.t 35),some 36,none,[],[]⟩,⟨.mv (.t 36),some 4,none,[],[]⟩]
def zyx:Reg:=⟨[],zh1,[],[],false⟩
def y8o:IR:=(.seq (.reg zz3)
 (.seq (.seq (.reg zz2)
 (.block 0 (.loop zr4)))
 (.seq (.reg zyx)
 .ret)))
def zwj:List RDesc:=[(.tmp 4)]
theorem e_rLess_0:EqR zz3 [⟨.mv (.c (.bool false)),some 4,none,[],[]⟩] []:=fun _ _ _=>rfl
theorem e_rLess_1:EqR zz2 [⟨.mv (.c (.int .i64 0)),some 5,none,[],[]⟩] []:=fun _ _ _=>rfl
theorem e_rLess_2:EqR zz1 zh3 []:=fun _ _ _=>rfl
theorem e_rLess_3 (C:FuncId->List AV->AV->Prop) (σ:St) (K:St->Prop):z0m C zz0 σ K = z07 C [] [⟨.bin .neq (.t 20) (.t 23),some 24,none,[],[]⟩] zm6 (σ.kills []) K:=rfl
theorem e_rLess_4 (C:FuncId->List AV->AV->Prop) (σ:St) (K:St->Prop):z0m C zyz σ K = z07 C [] [⟨.bin .lss (.t 27) (.t 30),some 31,none,[],[]⟩,⟨.mv (.t 31),some 4,none,[],[]⟩] zm5 (σ.kills []) K:=rfl
theorem e_rLess_5:EqR zyy zh2 []:=fun _ _ _=>rfl
theorem e_rLess_7:EqR zyx zh1 []:=fun _ _ _=>rfl
theorem fn_rLess {args:List AV} {r:AV} (ha:args.length.ble Tryd.f53.ntmps = true) (h:run (AFn Tryd.prog) y8o (endQ zwj r) (z0a args)):AFn Tryd.prog 53 args r :=
 AFn.of_code (pv:=false) (hint:=fun _=>[]) (c:=Tryd.f53.body.getD .skip) (by kernel_rfl) (by kernel_rfl) Tryd.func53 (by kernel_rfl) (by kernel_rfl) (by kernel_rfl) (of_decide_eq_true (by kernel_rfl)) (Nat.le_of_ble_eq_true ha) (Nat.le_of_ble_eq_true (by kernel_rfl)) (z0b h)
attribute [local go_sem ↓] y8o
attribute [local go_sem] zwj e_rLess_0 e_rLess_1 e_rLess_2 zh3 e_rLess_3 zm6 e_rLess_4 zm5 e_rLess_5 zh2 e_rLess_7 zh1
theorem z39 (a b:ByteArray) (ha:a.size≤9223372036854775807) (hb:b.size≤9223372036854775807):AFn Tryd.prog 53 [.str a,.str b] (.bool (lt a b)):=by
 have hla:a.data.toList.length = a.size:=by rw [Array.length_toList]; rfl
 have hlb:b.data.toList.length = b.size:=by rw [Array.length_toList]; rfl
 refine fn_rLess rfl ?_
 simp (maxSteps:=9^7) only [go_sem,↓reduceIte,reduceCtorEq,Nat.reduceEqDiff,Nat.reduceBEq,Nat.reduceAdd,Nat.reduceSub,Nat.reduceMul,Nat.reduceLT,Nat.reduceLeDiff,Nat.reduceBNe,Int.reduceBEq,Int.reduceBNe,Int.reduceLT,Int.reduceLE,Spn.a,Msg.a,Eff.a]
 refine z08 (lessInv a b (lt a b)) (k:=a.size) ⟨0,by omega,by omega,rfl,?_,?_,?_,?_⟩ ?_
 iterate 2 focus ((simp (maxSteps:=9^7) only [go_sem,↓reduceIte,reduceCtorEq,Nat.reduceEqDiff,Nat.reduceBEq,Nat.reduceAdd,Nat.reduceSub,Nat.reduceMul,Nat.reduceLT,Nat.reduceLeDiff,Nat.reduceBNe,Int.reduceBEq,Int.reduceBNe,Int.reduceLT,Int.reduceLE,Spn.a,Msg.a,Eff.a]) <;> rfl)
 ·simp (maxSteps:=9^7) only [go_sem,↓reduceIte,reduceCtorEq,Nat.reduceEqDiff,Nat.reduceBEq,Nat.reduceAdd,Nat.reduceSub,Nat.reduceMul,Nat.reduceLT,Nat.reduceLeDiff,Nat.reduceBNe,Int.reduceBEq,Int.reduceBNe,Int.reduceLT,Int.reduceLE,Spn.a,Msg.a,Eff.a]
  rfl
 ·simp only [List.drop_zero,lt,ByteArray.toList_eq]
 rintro k σ ⟨j,hja,hjb,rfl,t0,t1,t5,hr⟩
 simp only [zr4]
 by_cases h1:j < a.size
 ·have h1':(j:Int) < (a.size:Int):=by omega
  by_cases h2:j < b.size
  ·have h2':(j:Int) < (b.size:Int):=by omega
   have hw:IntKind.i64.wrap ((j:Int) + 1) = ((j + 1:Nat):Int):=by rw [IntWalk.i64_in _ (by omega)]; rfl
   rw [drop_less _ _ _ (by omega) (by omega)] at hr
   by_cases h3:a.data.toList.getD j 0 = b.data.toList.getD j 0
   ·rw [if_pos h3] at hr
    simp (maxSteps:=9^7) only [go_sem,↓reduceIte,reduceCtorEq,Nat.reduceEqDiff,Nat.reduceBEq,Nat.reduceAdd,Nat.reduceSub,Nat.reduceMul,Nat.reduceLT,Nat.reduceLeDiff,Nat.reduceBNe,Int.reduceBEq,Int.reduceBNe,Int.reduceLT,Int.reduceLE,Spn.a,Msg.a,Eff.a,t0,t1,t5,h1',h2',h3,decide_true,Int.toNat_natCast,bne_self_eq_false]
    refine ⟨by omega,by omega,?_⟩
    refine ⟨a.size - (j + 1),by omega,j + 1,by omega,by omega,rfl,?_,?_,?_,hr⟩ <;>
     (simp (maxSteps:=9^7) only [go_sem,↓reduceIte,reduceCtorEq,Nat.reduceEqDiff,Nat.reduceBEq,Nat.reduceAdd,Nat.reduceSub,Nat.reduceMul,Nat.reduceLT,Nat.reduceLeDiff,Nat.reduceBNe,Int.reduceBEq,Int.reduceBNe,Int.reduceLT,Int.reduceLE,Spn.a,Msg.a,Eff.a,t0,t1,t5,hw])
   ·rw [if_neg h3] at hr
    have h3':(((a.data.toList.getD j 0).toNat:Int) != ((b.data.toList.getD j 0).toNat:Int)) = true:=by
     simp only [bne_iff_ne,ne_eq]
     intro e
     exact h3 (UInt8.toNat.inj (by omega))
    simp (maxSteps:=9^7) only [go_sem,↓reduceIte,reduceCtorEq,Nat.reduceEqDiff,Nat.reduceBEq,Nat.reduceAdd,Nat.reduceSub,Nat.reduceMul,Nat.reduceLT,Nat.reduceLeDiff,Nat.reduceBNe,Int.reduceBEq,Int.reduceBNe,Int.reduceLT,Int.reduceLE,Spn.a,Msg.a,Eff.a,t0,t1,t5,h1',h2',decide_true,Int.toNat_natCast,h3']
    refine ⟨by omega,by omega,?_⟩
    rw [← hr]
    simp [UInt8.lt_iff_toNat_lt]
  ·have h2':¬ (j:Int) < (b.size:Int):=by omega
   simp (maxSteps:=9^7) only [go_sem,↓reduceIte,reduceCtorEq,Nat.reduceEqDiff,Nat.reduceBEq,Nat.reduceAdd,Nat.reduceSub,Nat.reduceMul,Nat.reduceLT,Nat.reduceLeDiff,Nat.reduceBNe,Int.reduceBEq,Int.reduceBNe,Int.reduceLT,Int.reduceLE,Spn.a,Msg.a,Eff.a,t0,t1,t5,h1',h2',decide_true,decide_false]
   rw [← hr,show j = b.size by omega]
   rw [show b.data.toList.drop b.size = [] by rw [List.drop_eq_nil_of_le (by omega)],kp.less_nil]
   have:¬ (a.size:Int) < b.size:=by omega
   simp [this]
 ·have h1':¬ (j:Int) < (a.size:Int):=by omega
  simp (maxSteps:=9^7) only [go_sem,↓reduceIte,reduceCtorEq,Nat.reduceEqDiff,Nat.reduceBEq,Nat.reduceAdd,Nat.reduceSub,Nat.reduceMul,Nat.reduceLT,Nat.reduceLeDiff,Nat.reduceBNe,Int.reduceBEq,Int.reduceBNe,Int.reduceLT,Int.reduceLE,Spn.a,Msg.a,Eff.a,t0,t1,t5,h1',decide_false]
  have e:j = a.size:=by omega
  subst e
  rw [← hr,show a.data.toList.drop a.size = [] by rw [List.drop_eq_nil_of_le (by omega)]]
  by_cases h2:a.size < b.size
  ·rw [List.drop_eq_getElem_cons (by omega),kp.nil_less]
   simp; omega
  ·rw [List.drop_eq_nil_of_le (by omega),kp.less_nil]
   simp; omega
def y78:Reg:=⟨[],[⟨.box 3 29 (.t 0),some 2,none,[],[]⟩,⟨.mv (.c (.bool false)),some 4,none,[],[]⟩],[2],[],false⟩
def zug:List ROp:=[⟨.mv (.t 1),some 5,none,[8,17],[]⟩,⟨.faddr 0 (.t 2),some 6,none,[8,17],[]⟩,⟨.load 1 false (.t 6),some 7,none,[8,17],[]⟩,⟨.callv (.c (.clo 53 [] [])) [(.t 5),(.t 7)],some 8,none,[17],[]⟩,⟨.un .not (.t 8),some 9,none,[17],[]⟩,⟨.mv (.t 9),some 10,none,[17],[]⟩,⟨.faddr 2 (.t 2),some 11,(some (10,true)),[17],[]⟩,⟨.load 1 false (.t 11),some 12,(some (10,true)),[17],[]⟩,⟨.mv (.t 12),some 13,(some (10,true)),[17],[]⟩,⟨.mv (.t 1),some 14,(some (13,false)),[17],[]⟩,⟨.faddr 1 (.t 2),some 15,(some (13,false)),[17],[]⟩,⟨.load 1 false (.t 15),some 16,(some (13,false)),[17],[]⟩,⟨.callv (.c (.clo 53 [] [])) [(.t 14),(.t 16)],some 17,(some (13,false)),[],[]⟩,⟨.pick (.t 13) (.c (.bool true)) (.t 17),some 18,(some (10,true)),[],[]⟩,⟨.pick (.t 10) (.t 18) (.c (.bool false)),some 19,none,[],[]⟩,⟨.mv (.t 19),some 4,none,[],[]⟩]
def y77:Reg:=⟨[],zug,[8,17],[],false⟩
def ir_rHas:IR:=(.seq (.reg y78)
 (.seq (.reg y77)
 .ret))
def y6p:List RDesc:=[(.tmp 4)]
theorem e_rHas_0:EqR y78 [⟨.box 3 29 (.t 0),some 2,none,[],[]⟩,⟨.mv (.c (.bool false)),some 4,none,[],[]⟩] [2]:=fun _ _ _=>rfl
theorem e_rHas_1:EqR y77 zug [8,17]:=fun _ _ _=>rfl
theorem fn_rHas {args:List AV} {r:AV} (ha:args.length.ble Tryd.f67.ntmps = true) (h:run (AFn Tryd.prog) ir_rHas (endQ y6p r) (z0a args)):AFn Tryd.prog 67 args r :=
 AFn.of_code (pv:=false) (hint:=fun _=>[]) (c:=Tryd.f67.body.getD .skip) (by kernel_rfl) (by kernel_rfl) Tryd.func67 (by kernel_rfl) (by kernel_rfl) (by kernel_rfl) (of_decide_eq_true (by kernel_rfl)) (Nat.le_of_ble_eq_true ha) (Nat.le_of_ble_eq_true (by kernel_rfl)) (z0b h)
def zr7:Reg:=⟨[],[⟨.box 3 29 (.t 0),some 1,none,[],[]⟩,⟨.mv (.c (.bool false)),some 2,none,[],[]⟩],[1],[],false⟩
def zbv:List ROp:=[⟨.load 3 true (.t 1),some 3,none,[6],[]⟩,⟨.faddr 0 (.t 1),some 4,none,[6],[]⟩,⟨.load 1 false (.t 4),some 5,none,[6],[]⟩,⟨.callv (.c (.clo 67 [] [])) [(.t 3),(.t 5)],some 6,none,[],[]⟩,⟨.un .not (.t 6),some 7,none,[],[]⟩,⟨.mv (.t 7),some 2,none,[],[]⟩]
def zr6:Reg:=⟨[],zbv,[6],[],false⟩
def y1c:IR:=(.seq (.reg zr7)
 (.seq (.reg zr6)
 .ret))
def znx:List RDesc:=[(.tmp 2)]
theorem e_rEmpty_0:EqR zr7 [⟨.box 3 29 (.t 0),some 1,none,[],[]⟩,⟨.mv (.c (.bool false)),some 2,none,[],[]⟩] [1]:=fun _ _ _=>rfl
theorem e_rEmpty_1:EqR zr6 zbv [6]:=fun _ _ _=>rfl
theorem fn_rEmpty {args:List AV} {r:AV} (ha:args.length.ble Tryd.f69.ntmps = true) (h:run (AFn Tryd.prog) y1c (endQ znx r) (z0a args)):AFn Tryd.prog 69 args r :=
 AFn.of_code (pv:=false) (hint:=fun _=>[]) (c:=Tryd.f69.body.getD .skip) (by kernel_rfl) (by kernel_rfl) Tryd.func69 (by kernel_rfl) (by kernel_rfl) (by kernel_rfl) (of_decide_eq_true (by kernel_rfl)) (Nat.le_of_ble_eq_true ha) (Nat.le_of_ble_eq_true (by kernel_rfl)) (z0b h)
def zgt:List ROp:=[⟨.box 3 29 (.t 0),some 1,none,[2],[]⟩,⟨.alloc 3 29 (.agg [(.str ⟨#[]⟩),(.str ⟨#[]⟩),(.bool false)]),some 2,none,[],[]⟩]
def zyo:Reg:=⟨[],zgt,[1,2],[],false⟩
def zyn:Reg:=⟨[],[⟨.load 3 true (.t 1),some 3,none,[4],[]⟩,⟨.callv (.c (.clo 69 [] [])) [(.t 3)],some 4,none,[],[]⟩],[4],[],false⟩
def zgs:List ROp:=[⟨.bld [(.str ⟨#[]⟩),(.str ⟨#[]⟩),(.bool false)] [],some 5,none,[],[]⟩,⟨.store 3 (.t 2) (.t 5),none,none,[],[]⟩]
def zym:Reg:=⟨[],zgs,[],[],false⟩
def zyl:Reg:=⟨[],[⟨.faddr 2 (.t 1),some 6,none,[],[]⟩,⟨.load 1 false (.t 6),some 7,none,[],[]⟩],[],[],false⟩
def zyk:Reg:=⟨[],[⟨.faddr 1 (.t 1),some 8,none,[],[]⟩,⟨.store 1 (.t 8) (.c (.str ⟨#[]⟩)),none,none,[],[]⟩],[],[],false⟩
def zyj:Reg:=⟨[],[⟨.load 3 true (.t 1),some 9,none,[],[]⟩,⟨.store 3 (.t 2) (.t 9),none,none,[],[]⟩],[],[],false⟩
def y8m:IR:=(.seq (.reg zyo)
 (.seq (.seq (.reg zyn)
 (.cond (.t 4) (.seq (.reg zym)
 .ret)
 .skip))
 (.seq (.seq (.reg zyl)
 (.cond (.t 7) (.reg zyk)
 .skip))
 (.seq (.reg zyj)
 .ret))))
def zwh:List RDesc:=[(.cell 2 3 true)]
theorem e_rNorm_0:EqR zyo zgt [1,2]:=fun _ _ _=>rfl
theorem e_rNorm_1:EqR zyn [⟨.load 3 true (.t 1),some 3,none,[4],[]⟩,⟨.callv (.c (.clo 69 [] [])) [(.t 3)],some 4,none,[],[]⟩] [4]:=fun _ _ _=>rfl
theorem e_rNorm_2:EqR zym zgs []:=fun _ _ _=>rfl
theorem e_rNorm_3:EqR zyl [⟨.faddr 2 (.t 1),some 6,none,[],[]⟩,⟨.load 1 false (.t 6),some 7,none,[],[]⟩] []:=fun _ _ _=>rfl
theorem e_rNorm_4:EqR zyk [⟨.faddr 1 (.t 1),some 8,none,[],[]⟩,⟨.store 1 (.t 8) (.c (.str ⟨#[]⟩)),none,none,[],[]⟩] []:=fun _ _ _=>rfl
theorem e_rNorm_5:EqR zyj [⟨.load 3 true (.t 1),some 9,none,[],[]⟩,⟨.store 3 (.t 2) (.t 9),none,none,[],[]⟩] []:=fun _ _ _=>rfl
theorem fn_rNorm {args:List AV} {r:AV} (ha:args.length.ble Tryd.f54.ntmps = true) (h:run (AFn Tryd.prog) y8m (endQ zwh r) (z0a args)):AFn Tryd.prog 54 args r :=
 AFn.of_code (pv:=false) (hint:=fun _=>[]) (c:=Tryd.f54.body.getD .skip) (by kernel_rfl) (by kernel_rfl) Tryd.func54 (by kernel_rfl) (by kernel_rfl) (by kernel_rfl) (of_decide_eq_true (by kernel_rfl)) (Nat.le_of_ble_eq_true ha) (Nat.le_of_ble_eq_true (by kernel_rfl)) (z0b h)
def zh0:List ROp:=[⟨.box 3 29 (.t 0),some 2,none,[3,4],[]⟩,⟨.box 3 29 (.t 1),some 3,none,[4],[]⟩,⟨.alloc 3 29 (.agg [(.str ⟨#[]⟩),(.str ⟨#[]⟩),(.bool false)]),some 4,none,[],[]⟩]
def zyw:Reg:=⟨[],zh0,[2,3,4],[],false⟩
def zgz:List ROp:=[⟨.load 3 true (.t 2),some 6,none,[5],[]⟩,⟨.alloc 3 29 (.agg [(.str ⟨#[]⟩),(.str ⟨#[]⟩),(.bool false)]),some 5,none,[],[]⟩,⟨.store 3 (.t 5) (.t 6),none,none,[],[]⟩]
def zyv:Reg:=⟨[],zgz,[5],[],false⟩
def zgy:List ROp:=[⟨.faddr 0 (.t 2),some 7,none,[11],[]⟩,⟨.load 1 false (.t 7),some 8,none,[11],[]⟩,⟨.faddr 0 (.t 3),some 9,none,[11],[]⟩,⟨.load 1 false (.t 9),some 10,none,[11],[]⟩,⟨.callv (.c (.clo 53 [] [])) [(.t 8),(.t 10)],some 11,none,[],[]⟩]
def zyu:Reg:=⟨[],zgy,[11],[],false⟩
def zgx:List ROp:=[⟨.faddr 0 (.t 3),some 12,none,[],[]⟩,⟨.load 1 false (.t 12),some 13,none,[],[]⟩,⟨.faddr 0 (.t 5),some 14,none,[],[]⟩,⟨.store 1 (.t 14) (.t 13),none,none,[],[]⟩]
def zyt:Reg:=⟨[],zgx,[],[],false⟩
def zgw:List ROp:=[⟨.faddr 2 (.t 3),some 15,none,[26],[]⟩,⟨.load 1 false (.t 15),some 16,none,[26],[]⟩,⟨.un .not (.t 16),some 17,none,[26],[]⟩,⟨.mv (.t 17),some 18,none,[26],[]⟩,⟨.faddr 2 (.t 2),some 19,(some (18,true)),[26],[]⟩,⟨.load 1 false (.t 19),some 20,(some (18,true)),[26],[]⟩,⟨.mv (.t 20),some 21,(some (18,true)),[26],[]⟩,⟨.faddr 1 (.t 3),some 22,(some (21,false)),[26],[]⟩,⟨.load 1 false (.t 22),some 23,(some (21,false)),[26],[]⟩,⟨.faddr 1 (.t 2),some 24,(some (21,false)),[26],[]⟩,⟨.load 1 false (.t 24),some 25,(some (21,false)),[26],[]⟩,⟨.callv (.c (.clo 53 [] [])) [(.t 23),(.t 25)],some 26,(some (21,false)),[],[]⟩,⟨.pick (.t 21) (.c (.bool true)) (.t 26),some 27,(some (18,true)),[],[]⟩,⟨.pick (.t 18) (.t 27) (.c (.bool false)),some 28,none,[],[]⟩]
def zys:Reg:=⟨[],zgw,[26],[],false⟩
def zyr:Reg:=⟨[],[⟨.faddr 2 (.t 5),some 29,none,[],[]⟩,⟨.store 1 (.t 29) (.c (.bool false)),none,none,[],[]⟩],[],[],false⟩
def zgv:List ROp:=[⟨.faddr 1 (.t 3),some 30,none,[],[]⟩,⟨.load 1 false (.t 30),some 31,none,[],[]⟩,⟨.faddr 1 (.t 5),some 32,none,[],[]⟩,⟨.store 1 (.t 32) (.t 31),none,none,[],[]⟩]
def zyq:Reg:=⟨[],zgv,[],[],false⟩
def zgu:List ROp:=[⟨.load 3 true (.t 5),some 33,none,[34],[]⟩,⟨.callv (.c (.clo 54 [] [])) [(.t 33)],some 34,none,[],[]⟩,⟨.store 3 (.t 4) (.t 34),none,none,[],[]⟩]
def zyp:Reg:=⟨[],zgu,[34],[],false⟩
def y8n:IR:=(.seq (.reg zyw)
 (.seq (.reg zyv)
 (.seq (.seq (.reg zyu)
 (.cond (.t 11) (.reg zyt)
 .skip))
 (.seq (.seq (.reg zys)
 (.cond (.t 28) (.seq (.reg zyr)
 (.reg zyq))
 .skip))
 (.seq (.reg zyp)
 .ret)))))
def zwi:List RDesc:=[(.cell 4 3 true)]
theorem e_rMeet_0:EqR zyw zh0 [2,3,4]:=fun _ _ _=>rfl
theorem e_rMeet_1:EqR zyv zgz [5]:=fun _ _ _=>rfl
theorem e_rMeet_2:EqR zyu zgy [11]:=fun _ _ _=>rfl
theorem e_rMeet_3:EqR zyt zgx []:=fun _ _ _=>rfl
theorem e_rMeet_4:EqR zys zgw [26]:=fun _ _ _=>rfl
theorem e_rMeet_5:EqR zyr [⟨.faddr 2 (.t 5),some 29,none,[],[]⟩,⟨.store 1 (.t 29) (.c (.bool false)),none,none,[],[]⟩] []:=fun _ _ _=>rfl
theorem e_rMeet_6:EqR zyq zgv []:=fun _ _ _=>rfl
theorem e_rMeet_7:EqR zyp zgu [34]:=fun _ _ _=>rfl
theorem fn_rMeet {args:List AV} {r:AV} (ha:args.length.ble Tryd.f30.ntmps = true) (h:run (AFn Tryd.prog) y8n (endQ zwi r) (z0a args)):AFn Tryd.prog 30 args r :=
 AFn.of_code (pv:=false) (hint:=fun _=>[]) (c:=Tryd.f30.body.getD .skip) (by kernel_rfl) (by kernel_rfl) Tryd.func30 (by kernel_rfl) (by kernel_rfl) (by kernel_rfl) (of_decide_eq_true (by kernel_rfl)) (Nat.le_of_ble_eq_true ha) (Nat.le_of_ble_eq_true (by kernel_rfl)) (z0b h)
def zgg:List ROp:=[⟨.box 6 78 (.t 0),some 1,none,[2],[]⟩,⟨.alloc 3 29 (.agg [(.str ⟨#[]⟩),(.str ⟨#[]⟩),(.bool false)]),some 2,none,[],[]⟩]
def zxv:Reg:=⟨[],zgg,[1,2],[],false⟩
def zgf:List ROp:=[⟨.faddr 1 (.t 1),some 3,none,[],[]⟩,⟨.load 1 false (.t 3),some 4,none,[],[]⟩,⟨.bin .eql (.t 4) (.c (.int .i64 4)),some 5,none,[],[]⟩]
def zxu:Reg:=⟨[],zgf,[],[],false⟩
def zge:List ROp:=[⟨.faddr 2 (.t 1),some 6,none,[],[]⟩,⟨.load 1 false (.t 6),some 7,none,[],[]⟩,⟨.faddr 3 (.t 1),some 8,none,[],[]⟩,⟨.load 1 false (.t 8),some 9,none,[],[]⟩,⟨.faddr 4 (.t 1),some 10,none,[],[]⟩,⟨.load 1 false (.t 10),some 11,none,[],[]⟩,⟨.bld [(.str ⟨#[]⟩),(.str ⟨#[]⟩),(.bool false)] [⟨0,1,(.t 7)⟩,⟨1,1,(.t 9)⟩,⟨2,1,(.t 11)⟩],some 12,none,[],[]⟩,⟨.store 3 (.t 2) (.t 12),none,none,[],[]⟩]
def zxt:Reg:=⟨[],zge,[],[],false⟩
def zgd:List ROp:=[⟨.faddr 2 (.t 1),some 13,none,[],[]⟩,⟨.load 1 false (.t 13),some 14,none,[],[]⟩,⟨.faddr 2 (.t 1),some 15,none,[],[]⟩,⟨.load 1 false (.t 15),some 16,none,[],[]⟩,⟨.bin .add (.t 16) (.c (.str ⟨#[0]⟩)),some 17,none,[],[]⟩,⟨.bld [(.str ⟨#[]⟩),(.str ⟨#[]⟩),(.bool false)] [⟨0,1,(.t 14)⟩,⟨1,1,(.t 17)⟩],some 18,none,[],[]⟩,⟨.store 3 (.t 2) (.t 18),none,none,[],[]⟩]
def zxs:Reg:=⟨[],zgd,[],[],false⟩
def y8j:IR:=(.seq (.reg zxv)
 (.seq (.seq (.reg zxu)
 (.cond (.t 5) (.seq (.reg zxt)
 .ret)
 .skip))
 (.seq (.reg zxs)
 .ret)))
def zwe:List RDesc:=[(.cell 2 3 true)]
theorem e_rSpan_0:EqR zxv zgg [1,2]:=fun _ _ _=>rfl
theorem e_rSpan_1:EqR zxu zgf []:=fun _ _ _=>rfl
theorem e_rSpan_2:EqR zxt zge []:=fun _ _ _=>rfl
theorem e_rSpan_3:EqR zxs zgd []:=fun _ _ _=>rfl
theorem fn_rSpan {args:List AV} {r:AV} (ha:args.length.ble Tryd.f68.ntmps = true) (h:run (AFn Tryd.prog) y8j (endQ zwe r) (z0a args)):AFn Tryd.prog 68 args r :=
 AFn.of_code (pv:=false) (hint:=fun _=>[]) (c:=Tryd.f68.body.getD .skip) (by kernel_rfl) (by kernel_rfl) Tryd.func68 (by kernel_rfl) (by kernel_rfl) (by kernel_rfl) (of_decide_eq_true (by kernel_rfl)) (Nat.le_of_ble_eq_true ha) (Nat.le_of_ble_eq_true (by kernel_rfl)) (z0b h)
attribute [local go_sem ↓] ir_rHas
attribute [local go_sem] y6p e_rHas_0 e_rHas_1 zug
attribute [local go_sem ↓] y1c
attribute [local go_sem] znx e_rEmpty_0 e_rEmpty_1 zbv
attribute [local go_sem ↓] y8m
attribute [local go_sem] zwh e_rNorm_0 zgt e_rNorm_1 e_rNorm_2 zgs e_rNorm_3 e_rNorm_4 e_rNorm_5
attribute [local go_sem ↓] y8n
attribute [local go_sem] zwi e_rMeet_0 zh0 e_rMeet_1 zgz e_rMeet_2 zgy e_rMeet_3 zgx e_rMeet_4 zgw e_rMeet_5 e_rMeet_6 zgv e_rMeet_7 zgu
attribute [local go_sem ↓] y8j
attribute [local go_sem] zwe e_rSpan_0 zgg e_rSpan_1 zgf e_rSpan_2 zge e_rSpan_3 zgd
def SOk (s:Spn):Prop:=s.lo.size≤9223372036854775807∧s.hi.size≤9223372036854775807
theorem has_lo (s:Spn):(!s.has s.lo) = s.empty:=by
 have:lt s.lo s.lo = false:=kp.less_irrefl _
 simp [Spn.has,Spn.empty,this]
theorem y6v (s:Spn) (k:ByteArray) (hs:SOk s) (hk:k.size≤9223372036854775807):AFn Tryd.prog 67 [s.a,.str k] (.bool (s.has k)):=by
 refine fn_rHas rfl ?_
 simp (maxSteps:=9^7) only [go_sem,↓reduceIte,reduceCtorEq,Nat.reduceEqDiff,Nat.reduceBEq,Nat.reduceAdd,Nat.reduceSub,Nat.reduceMul,Nat.reduceLT,Nat.reduceLeDiff,Nat.reduceBNe,Int.reduceBEq,Int.reduceBNe,Int.reduceLT,Int.reduceLE,Spn.a,Msg.a,Eff.a]
 (first | refine z01 (z39 k s.lo hk hs.1) ?_ | refine z00 (z39 k s.lo hk hs.1) ?_)
 cases h1:lt k s.lo with
 | true =>
  simp (maxSteps:=9^7) only [go_sem,↓reduceIte,reduceCtorEq,Nat.reduceEqDiff,Nat.reduceBEq,Nat.reduceAdd,Nat.reduceSub,Nat.reduceMul,Nat.reduceLT,Nat.reduceLeDiff,Nat.reduceBNe,Int.reduceBEq,Int.reduceBNe,Int.reduceLT,Int.reduceLE,Spn.a,Msg.a,Eff.a]
  simp [Spn.has,h1]
 | false =>
  cases h2:s.op with
  | true =>
   simp (maxSteps:=9^7) only [go_sem,↓reduceIte,reduceCtorEq,Nat.reduceEqDiff,Nat.reduceBEq,Nat.reduceAdd,Nat.reduceSub,Nat.reduceMul,Nat.reduceLT,Nat.reduceLeDiff,Nat.reduceBNe,Int.reduceBEq,Int.reduceBNe,Int.reduceLT,Int.reduceLE,Spn.a,Msg.a,Eff.a,h2]
   simp [Spn.has,h1,h2]
  | false =>
   simp (maxSteps:=9^7) only [go_sem,↓reduceIte,reduceCtorEq,Nat.reduceEqDiff,Nat.reduceBEq,Nat.reduceAdd,Nat.reduceSub,Nat.reduceMul,Nat.reduceLT,Nat.reduceLeDiff,Nat.reduceBNe,Int.reduceBEq,Int.reduceBNe,Int.reduceLT,Int.reduceLE,Spn.a,Msg.a,Eff.a,h2]
   (first | refine z01 (z39 k s.hi hk hs.2) ?_ | refine z00 (z39 k s.hi hk hs.2) ?_)
   simp (maxSteps:=9^7) only [go_sem,↓reduceIte,reduceCtorEq,Nat.reduceEqDiff,Nat.reduceBEq,Nat.reduceAdd,Nat.reduceSub,Nat.reduceMul,Nat.reduceLT,Nat.reduceLeDiff,Nat.reduceBNe,Int.reduceBEq,Int.reduceBNe,Int.reduceLT,Int.reduceLE,Spn.a,Msg.a,Eff.a,h2]
   simp [Spn.has,h1,h2]
theorem z43 (s:Spn) (hs:SOk s):AFn Tryd.prog 69 [s.a] (.bool s.empty):=by
 refine fn_rEmpty rfl ?_
 simp (maxSteps:=9^7) only [go_sem,↓reduceIte,reduceCtorEq,Nat.reduceEqDiff,Nat.reduceBEq,Nat.reduceAdd,Nat.reduceSub,Nat.reduceMul,Nat.reduceLT,Nat.reduceLeDiff,Nat.reduceBNe,Int.reduceBEq,Int.reduceBNe,Int.reduceLT,Int.reduceLE,Spn.a,Msg.a,Eff.a]
 (first | refine z01 (y6v s s.lo hs hs.1) ?_ | refine z00 (y6v s s.lo hs hs.1) ?_)
 simp (maxSteps:=9^7) only [go_sem,↓reduceIte,reduceCtorEq,Nat.reduceEqDiff,Nat.reduceBEq,Nat.reduceAdd,Nat.reduceSub,Nat.reduceMul,Nat.reduceLT,Nat.reduceLeDiff,Nat.reduceBNe,Int.reduceBEq,Int.reduceBNe,Int.reduceLT,Int.reduceLE,Spn.a,Msg.a,Eff.a,has_lo]
theorem z50 (s:Spn) (hs:SOk s):AFn Tryd.prog 54 [s.a] s.norm.a:=by
 refine fn_rNorm rfl ?_
 simp (maxSteps:=9^7) only [go_sem,↓reduceIte,reduceCtorEq,Nat.reduceEqDiff,Nat.reduceBEq,Nat.reduceAdd,Nat.reduceSub,Nat.reduceMul,Nat.reduceLT,Nat.reduceLeDiff,Nat.reduceBNe,Int.reduceBEq,Int.reduceBNe,Int.reduceLT,Int.reduceLE,Spn.a,Msg.a,Eff.a]
 (first | refine z01 (z43 s hs) ?_ | refine z00 (z43 s hs) ?_)
 simp (maxSteps:=9^7) only [go_sem,↓reduceIte,reduceCtorEq,Nat.reduceEqDiff,Nat.reduceBEq,Nat.reduceAdd,Nat.reduceSub,Nat.reduceMul,Nat.reduceLT,Nat.reduceLeDiff,Nat.reduceBNe,Int.reduceBEq,Int.reduceBNe,Int.reduceLT,Int.reduceLE,Spn.a,Msg.a,Eff.a]
 refine ⟨fun h=>?_,fun h=>⟨fun h2=>?_,fun h2=>?_⟩⟩ <;> simp [Spn.norm,Spn.none, *]
def Spn.refCut (a b:Spn):Spn:=⟨maxS a.lo b.lo,if !b.op && (a.op || lt b.hi a.hi) then b.hi else a.hi,if !b.op && (a.op || lt b.hi a.hi) then false else a.op⟩
theorem y37 (a b:Spn):(a.refCut b).norm = a.meet b:=by
 obtain ⟨lo,hi,op⟩:=a
 obtain ⟨lo',hi',op'⟩:=b
 cases op <;> cases op' <;> simp [Spn.refCut,Spn.meet,Spn.cut,Spn.norm,Spn.empty,minS]
theorem y36 (s t:Spn) (hs:SOk s) (ht:SOk t):AFn Tryd.prog 30 [s.a,t.a] (s.meet t).a:=by
 rw [← y37]
 refine fn_rMeet rfl ?_
 simp (maxSteps:=9^7) only [go_sem,↓reduceIte,reduceCtorEq,Nat.reduceEqDiff,Nat.reduceBEq,Nat.reduceAdd,Nat.reduceSub,Nat.reduceMul,Nat.reduceLT,Nat.reduceLeDiff,Nat.reduceBNe,Int.reduceBEq,Int.reduceBNe,Int.reduceLT,Int.reduceLE,Spn.a,Msg.a,Eff.a]
 (first | refine z01 (z39 s.lo t.lo hs.1 ht.1) ?_ | refine z00 (z39 s.lo t.lo hs.1 ht.1) ?_)
 have hM:SOk (s.refCut t):=by
  unfold Spn.refCut maxS SOk
  refine ⟨?_,?_⟩
  ·simp only; split
   ·exact ht.1
   ·exact hs.1
  ·simp only; split
   ·exact ht.2
   ·exact hs.2
 obtain ⟨sl,sh,so⟩:=s
 obtain ⟨tl,th,tp⟩:=t
 simp only
 have e1:lt sl tl = true∨lt sl tl = false:=by cases lt sl tl <;> simp
 have e2:lt th sh = true∨lt th sh = false:=by cases lt th sh <;> simp
 rcases e1 with e1 | e1 <;> rcases e2 with e2 | e2 <;> cases so <;> cases tp <;>
  simp only [Spn.refCut,maxS,e1,e2,Bool.not_false,Bool.not_true,Bool.true_and,Bool.false_and,Bool.or_true,Bool.or_false,Bool.true_or,Bool.false_or,if_true,if_false,Bool.false_eq_true] at hM ⊢ <;>
  (simp (maxSteps:=9^7) only [go_sem,↓reduceIte,reduceCtorEq,Nat.reduceEqDiff,Nat.reduceBEq,Nat.reduceAdd,Nat.reduceSub,Nat.reduceMul,Nat.reduceLT,Nat.reduceLeDiff,Nat.reduceBNe,Int.reduceBEq,Int.reduceBNe,Int.reduceLT,Int.reduceLE,Spn.a,Msg.a,Eff.a,e1,e2]) <;>
  first
   | ((first | refine z01 (z50 ⟨_,_,_⟩ hM) ?_ | refine z00 (z50 ⟨_,_,_⟩ hM) ?_); (simp (maxSteps:=9^7) only [go_sem,↓reduceIte,reduceCtorEq,Nat.reduceEqDiff,Nat.reduceBEq,Nat.reduceAdd,Nat.reduceSub,Nat.reduceMul,Nat.reduceLT,Nat.reduceLeDiff,Nat.reduceBNe,Int.reduceBEq,Int.reduceBNe,Int.reduceLT,Int.reduceLE,Spn.a,Msg.a,Eff.a,e1,e2]); done)
   | ((first | refine z01 (z39 th sh ht.2 hs.2) ?_ | refine z00 (z39 th sh ht.2 hs.2) ?_); (simp (maxSteps:=9^7) only [go_sem,↓reduceIte,reduceCtorEq,Nat.reduceEqDiff,Nat.reduceBEq,Nat.reduceAdd,Nat.reduceSub,Nat.reduceMul,Nat.reduceLT,Nat.reduceLeDiff,Nat.reduceBNe,Int.reduceBEq,Int.reduceBNe,Int.reduceLT,Int.reduceLE,Spn.a,Msg.a,Eff.a,e1,e2]); (first | refine z01 (z50 ⟨_,_,_⟩ hM) ?_ | refine z00 (z50 ⟨_,_,_⟩ hM) ?_); (simp (maxSteps:=9^7) only [go_sem,↓reduceIte,reduceCtorEq,Nat.reduceEqDiff,Nat.reduceBEq,Nat.reduceAdd,Nat.reduceSub,Nat.reduceMul,Nat.reduceLT,Nat.reduceLeDiff,Nat.reduceBNe,Int.reduceBEq,Int.reduceBNe,Int.reduceLT,Int.reduceLE,Spn.a,Msg.a,Eff.a,e1,e2]); done)
theorem zig (m:Msg) (hk:m.key.size≤9223372036854775806):AFn Tryd.prog 68 [m.a] m.span.a:=by
 refine fn_rSpan rfl ?_
 cases h:(m.kind == 4) with
 | true =>
  have h':m.kind = 4:=by simpa using h
  simp (maxSteps:=9^7) only [go_sem,↓reduceIte,reduceCtorEq,Nat.reduceEqDiff,Nat.reduceBEq,Nat.reduceAdd,Nat.reduceSub,Nat.reduceMul,Nat.reduceLT,Nat.reduceLeDiff,Nat.reduceBNe,Int.reduceBEq,Int.reduceBNe,Int.reduceLT,Int.reduceLE,Spn.a,Msg.a,Eff.a,h]
  simp [Msg.span,h']
 | false =>
  have h':m.kind ≠ 4:=by simpa using h
  simp (maxSteps:=9^7) only [go_sem,↓reduceIte,reduceCtorEq,Nat.reduceEqDiff,Nat.reduceBEq,Nat.reduceAdd,Nat.reduceSub,Nat.reduceMul,Nat.reduceLT,Nat.reduceLeDiff,Nat.reduceBNe,Int.reduceBEq,Int.reduceBNe,Int.reduceLT,Int.reduceLE,Spn.a,Msg.a,Eff.a,h]
  simp [Msg.span,h',z2k]
  first | (show m.key.size + 1≤_; omega) | omega
end
section
open Go.RowKit
attribute [local go_sem ↓] z1m z0h
abbrev nilS (s:ByteArray):Bool:=s.toList == (ByteArray.mk #[]).toList
def Msg.right (m : Msg) : Bool := decide (1 ≤ m.stamp) && decide (m.key.size ≤ 16) && decide (m.val.size ≤ 16) && decide (m.hi.size ≤ 16) &&
  (if m.kind = 4 then nilS m.val && (!m.op || nilS m.hi) && !m.span.empty
   else nilS m.hi && !m.op && ((m.kind == 1) || (m.kind == 2) || ((m.kind == 3) && nilS m.val)))
theorem zhy {m:Msg} {n:Nat} (h1:m.key.size + 1≤9223372036854775807) (h2:m.hi.size≤9223372036854775807):SOk m.span:=by
 unfold Msg.span SOk z2k
 split
 ·exact ⟨by show m.key.size≤_; omega,h2⟩
 ·refine ⟨by show m.key.size≤_; omega,?_⟩
  show (m.key ++ ⟨#[0]⟩).size≤_
  rw [ByteArray.size_append]
  exact h1
def zqg:Reg:=⟨[],[⟨.box 6 78 (.t 0),some 1,none,[],[]⟩,⟨.mv (.c (.bool false)),some 2,none,[],[]⟩],[1],[],false⟩
def zbk:List ROp:=[⟨.faddr 0 (.t 1),some 3,none,[],[]⟩,⟨.load 1 false (.t 3),some 4,none,[],[]⟩,⟨.bin .lss (.t 4) (.c (.int .i64 1)),some 5,none,[],[]⟩,⟨.mv (.t 5),some 6,none,[],[]⟩,⟨.faddr 2 (.t 1),some 7,(some (6,false)),[],[]⟩,⟨.load 1 false (.t 7),some 8,(some (6,false)),[],[]⟩,⟨.len true (.t 8),some 9,(some (6,false)),[],[]⟩,⟨.bin .gtr (.t 9) (.c (.int .i64 16)),some 10,(some (6,false)),[],[]⟩,⟨.pick (.t 6) (.c (.bool true)) (.t 10),some 11,none,[],[]⟩,⟨.mv (.t 11),some 12,none,[],[]⟩,⟨.faddr 5 (.t 1),some 13,(some (12,false)),[],[]⟩,⟨.load 1 false (.t 13),some 14,(some (12,false)),[],[]⟩,⟨.len true (.t 14),some 15,(some (12,false)),[],[]⟩,⟨.bin .gtr (.t 15) (.c (.int .i64 16)),some 16,(some (12,false)),[],[]⟩,⟨.pick (.t 12) (.c (.bool true)) (.t 16),some 17,none,[],[]⟩,⟨.mv (.t 17),some 18,none,[],[]⟩,⟨.faddr 3 (.t 1),some 19,(some (18,false)),[],[]⟩,⟨.load 1 false (.t 19),some 20,(some (18,false)),[],[]⟩,⟨.len true (.t 20),some 21,(some (18,false)),[],[]⟩,⟨.bin .gtr (.t 21) (.c (.int .i64 16)),some 22,(some (18,false)),[],[]⟩,⟨.pick (.t 18) (.c (.bool true)) (.t 22),some 23,none,[],[]⟩]
def zqf:Reg:=⟨[],zbk,[],[],false⟩
def zqe:Reg:=⟨[],[⟨.mv (.c (.bool false)),some 2,none,[],[]⟩],[],[],false⟩
def zbj:List ROp:=[⟨.faddr 1 (.t 1),some 24,none,[],[]⟩,⟨.load 1 false (.t 24),some 25,none,[],[]⟩,⟨.bin .eql (.t 25) (.c (.int .i64 4)),some 26,none,[],[]⟩]
def zqd:Reg:=⟨[],zbj,[],[],false⟩
def zbi:List ROp:=[⟨.faddr 5 (.t 1),some 27,none,[42,43],[]⟩,⟨.load 1 false (.t 27),some 28,none,[42,43],[]⟩,⟨.bin .eql (.t 28) (.c (.str ⟨#[]⟩)),some 29,none,[42,43],[]⟩,⟨.mv (.t 29),some 30,none,[42,43],[]⟩,⟨.faddr 4 (.t 1),some 31,(some (30,true)),[42,43],[]⟩,⟨.load 1 false (.t 31),some 32,(some (30,true)),[42,43],[]⟩,⟨.un .not (.t 32),some 33,(some (30,true)),[42,43],[]⟩,⟨.mv (.t 33),some 34,(some (30,true)),[42,43],[]⟩,⟨.faddr 3 (.t 1),some 35,(some (34,false)),[42,43],[]⟩,⟨.load 1 false (.t 35),some 36,(some (34,false)),[42,43],[]⟩,⟨.bin .eql (.t 36) (.c (.str ⟨#[]⟩)),some 37,(some (34,false)),[42,43],[]⟩,⟨.pick (.t 34) (.c (.bool true)) (.t 37),some 38,(some (30,true)),[42,43],[]⟩,⟨.pick (.t 30) (.t 38) (.c (.bool false)),some 39,none,[42,43],[]⟩,⟨.mv (.t 39),some 40,none,[42,43],[]⟩,⟨.load 6 true (.t 1),some 41,(some (40,true)),[42,43],[]⟩,⟨.callv (.c (.clo 68 [] [])) [(.t 41)],some 42,(some (40,true)),[43],[]⟩,⟨.callv (.c (.clo 69 [] [])) [(.t 42)],some 43,(some (40,true)),[],[]⟩,⟨.un .not (.t 43),some 44,(some (40,true)),[],[]⟩,⟨.pick (.t 40) (.t 44) (.c (.bool false)),some 45,none,[],[]⟩,⟨.mv (.t 45),some 2,none,[],[]⟩]
def zqc:Reg:=⟨[],zbi,[42,43],[],false⟩
def zbh:List ROp:=[⟨.faddr 3 (.t 1),some 46,none,[],[]⟩,⟨.load 1 false (.t 46),some 47,none,[],[]⟩,⟨.bin .eql (.t 47) (.c (.str ⟨#[]⟩)),some 48,none,[],[]⟩,⟨.mv (.t 48),some 49,none,[],[]⟩,⟨.faddr 4 (.t 1),some 50,(some (49,true)),[],[]⟩,⟨.load 1 false (.t 50),some 51,(some (49,true)),[],[]⟩,⟨.un .not (.t 51),some 52,(some (49,true)),[],[]⟩,⟨.pick (.t 49) (.t 52) (.c (.bool false)),some 53,none,[],[]⟩,⟨.mv (.t 53),some 54,none,[],[]⟩,⟨.faddr 1 (.t 1),some 55,(some (54,true)),[],[]⟩,⟨.load 1 false (.t 55),some 56,(some (54,true)),[],[]⟩,⟨.bin .eql (.t 56) (.c (.int .i64 1)),some 57,(some (54,true)),[],[]⟩,⟨.mv (.t 57),some 58,(some (54,true)),[],[]⟩,⟨.faddr 1 (.t 1),some 59,(some (58,false)),[],[]⟩,⟨.load 1 false (.t 59),some 60,(some (58,false)),[],[]⟩,⟨.bin .eql (.t 60) (.c (.int .i64 2)),some 61,(some (58,false)),[],[]⟩,⟨.pick (.t 58) (.c (.bool true)) (.t 61),some 62,(some (54,true)),[],[]⟩,⟨.mv (.t 62),some 63,(some (54,true)),[],[]⟩,⟨.faddr 1 (.t 1),some 64,(some (63,false)),[],[]⟩,⟨.load 1 false (.t 64),some 65,(some (63,false)),[],[]⟩,⟨.bin .eql (.t 65) (.c (.int .i64 3)),some 66,(some (63,false)),[],[]⟩,⟨.mv (.t 66),some 67,(some (63,false)),[],[]⟩,⟨.faddr 5 (.t 1),some 68,(some (67,true)),[],[]⟩,⟨.load 1 false (.t 68),some 69,(some (67,true)),[],[]⟩,⟨.bin .eql (.t 69) (.c (.str ⟨#[]⟩)),some 70,(some (67,true)),[],[]⟩,⟨.pick (.t 67) (.t 70) (.c (.bool false)),some 71,(some (63,false)),[],[]⟩,⟨.pick (.t 63) (.c (.bool true)) (.t 71),some 72,(some (54,true)),[],[]⟩,⟨.pick (.t 54) (.t 72) (.c (.bool false)),some 73,none,[],[]⟩,⟨.mv (.t 73),some 2,none,[],[]⟩]
def zqb:Reg:=⟨[],zbh,[],[],false⟩
def zm0:IR:=(.seq (.reg zqg)
 (.seq (.seq (.reg zqf)
 (.cond (.t 23) (.seq (.reg zqe)
 .ret)
 .skip))
 (.seq (.seq (.reg zqd)
 (.cond (.t 26) (.seq (.reg zqc)
 .ret)
 .skip))
 (.seq (.reg zqb)
 .ret))))
def zcx:List RDesc:=[(.tmp 2)]
theorem e_rRight_0:EqR zqg [⟨.box 6 78 (.t 0),some 1,none,[],[]⟩,⟨.mv (.c (.bool false)),some 2,none,[],[]⟩] [1]:=fun _ _ _=>rfl
theorem e_rRight_1:EqR zqf zbk []:=fun _ _ _=>rfl
theorem e_rRight_2:EqR zqe [⟨.mv (.c (.bool false)),some 2,none,[],[]⟩] []:=fun _ _ _=>rfl
theorem e_rRight_3:EqR zqd zbj []:=fun _ _ _=>rfl
theorem e_rRight_4:EqR zqc zbi [42,43]:=fun _ _ _=>rfl
theorem e_rRight_5:EqR zqb zbh []:=fun _ _ _=>rfl
theorem fn_rRight {args:List AV} {r:AV} (ha:args.length.ble Tryd.f86.ntmps = true) (h:run (AFn Tryd.prog) zm0 (endQ zcx r) (z0a args)):AFn Tryd.prog 86 args r :=
 AFn.of_code (pv:=false) (hint:=fun _=>[]) (c:=Tryd.f86.body.getD .skip) (by kernel_rfl) (by kernel_rfl) Tryd.func86 (by kernel_rfl) (by kernel_rfl) (by kernel_rfl) (of_decide_eq_true (by kernel_rfl)) (Nat.le_of_ble_eq_true ha) (Nat.le_of_ble_eq_true (by kernel_rfl)) (z0b h)
attribute [local go_sem ↓] zm0
attribute [local go_sem] zcx e_rRight_0 e_rRight_1 zbk e_rRight_2 e_rRight_3 zbj e_rRight_4 zbi e_rRight_5 zbh
theorem y6u (m : Msg) (hm : m.key.size + 1 ≤ 9223372036854775807 ∧ m.hi.size ≤ 9223372036854775807) : AFn Tryd.prog 86 [m.a] (.bool m.right) := by
  refine fn_rRight rfl ?_
  by_cases h1 : m.stamp < 1
  · have : ¬ 1 ≤ m.stamp := by omega
    simp (maxSteps:=9^7) only [go_sem,↓reduceIte,reduceCtorEq,Nat.reduceEqDiff,Nat.reduceBEq,Nat.reduceAdd,Nat.reduceSub,Nat.reduceMul,Nat.reduceLT,Nat.reduceLeDiff,Nat.reduceBNe,Int.reduceBEq,Int.reduceBNe,Int.reduceLT,Int.reduceLE,Spn.a,Msg.a,Eff.a,h1]
    simp [Msg.right, this]
  by_cases h2 : (m.key.size : Int) > 16
  · have : ¬ m.key.size ≤ 16 := by omega
    simp (maxSteps:=9^7) only [go_sem,↓reduceIte,reduceCtorEq,Nat.reduceEqDiff,Nat.reduceBEq,Nat.reduceAdd,Nat.reduceSub,Nat.reduceMul,Nat.reduceLT,Nat.reduceLeDiff,Nat.reduceBNe,Int.reduceBEq,Int.reduceBNe,Int.reduceLT,Int.reduceLE,Spn.a,Msg.a,Eff.a,h1,h2]
    simp [Msg.right, this]
  by_cases h3 : (m.val.size : Int) > 16
  · have : ¬ m.val.size ≤ 16 := by omega
    simp (maxSteps:=9^7) only [go_sem,↓reduceIte,reduceCtorEq,Nat.reduceEqDiff,Nat.reduceBEq,Nat.reduceAdd,Nat.reduceSub,Nat.reduceMul,Nat.reduceLT,Nat.reduceLeDiff,Nat.reduceBNe,Int.reduceBEq,Int.reduceBNe,Int.reduceLT,Int.reduceLE,Spn.a,Msg.a,Eff.a,h1,h2,h3]
    simp [Msg.right, this]
  by_cases h4 : (m.hi.size : Int) > 16
  · have : ¬ m.hi.size ≤ 16 := by omega
    simp (maxSteps:=9^7) only [go_sem,↓reduceIte,reduceCtorEq,Nat.reduceEqDiff,Nat.reduceBEq,Nat.reduceAdd,Nat.reduceSub,Nat.reduceMul,Nat.reduceLT,Nat.reduceLeDiff,Nat.reduceBNe,Int.reduceBEq,Int.reduceBNe,Int.reduceLT,Int.reduceLE,Spn.a,Msg.a,Eff.a,h1,h2,h3,h4]
    simp [Msg.right, this]
  have g1 : 1 ≤ m.stamp := by omega
  have g2 : m.key.size ≤ 16 := by omega
  have g3 : m.val.size ≤ 16 := by omega
  have g4 : m.hi.size ≤ 16 := by omega
  have hr : m.right = (if m.kind = 4 then nilS m.val && (!m.op || nilS m.hi) && !m.span.empty
   else nilS m.hi && !m.op && ((m.kind == 1) || (m.kind == 2) || ((m.kind == 3) && nilS m.val))) := by simp [Msg.right, g1, g2, g3, g4]
  rw [hr]
  cases h : (m.kind == 4) with
  | true =>
    have h' : m.kind = 4 := by simpa using h
    rw [if_pos h']
    have fin : ∀ b, m.span.empty = b → AFn Tryd.prog 69 [m.span.a] (.bool b) := fun b hb => hb ▸ z43 m.span (zhy (n := 0) hm.1 hm.2)
    have call : (m.val.toList == (ByteArray.mk #[]).toList) = true → (m.op = false ∨ (m.hi.toList == (ByteArray.mk #[]).toList) = true) → run (AFn Tryd.prog) zm0 (endQ zcx (.bool (!m.span.empty))) (z0a [m.a]) := by
      intro hv ho
      cases hop : m.op with
      | false =>
        simp (maxSteps:=9^7) only [go_sem,↓reduceIte,reduceCtorEq,Nat.reduceEqDiff,Nat.reduceBEq,Nat.reduceAdd,Nat.reduceSub,Nat.reduceMul,Nat.reduceLT,Nat.reduceLeDiff,Nat.reduceBNe,Int.reduceBEq,Int.reduceBNe,Int.reduceLT,Int.reduceLE,Spn.a,Msg.a,Eff.a,h1,h2,h3,h4,h,hv,hop]
        have hsp := zig m (by omega)
        simp only [Msg.a, hop] at hsp
        (first | refine z01 hsp ?_ | refine z00 hsp ?_)
        simp (maxSteps:=9^7) only [go_sem,↓reduceIte,reduceCtorEq,Nat.reduceEqDiff,Nat.reduceBEq,Nat.reduceAdd,Nat.reduceSub,Nat.reduceMul,Nat.reduceLT,Nat.reduceLeDiff,Nat.reduceBNe,Int.reduceBEq,Int.reduceBNe,Int.reduceLT,Int.reduceLE,Spn.a,Msg.a,Eff.a,h1,h2,h3,h4,h,hv,hop]
        (first | refine z01 (z43 m.span (zhy (n := 0) hm.1 hm.2)) ?_ | refine z00 (z43 m.span (zhy (n := 0) hm.1 hm.2)) ?_)
        simp (maxSteps:=9^7) only [go_sem,↓reduceIte,reduceCtorEq,Nat.reduceEqDiff,Nat.reduceBEq,Nat.reduceAdd,Nat.reduceSub,Nat.reduceMul,Nat.reduceLT,Nat.reduceLeDiff,Nat.reduceBNe,Int.reduceBEq,Int.reduceBNe,Int.reduceLT,Int.reduceLE,Spn.a,Msg.a,Eff.a,h1,h2,h3,h4,h,hv,hop]
      | true =>
        have hh : (m.hi.toList == (ByteArray.mk #[]).toList) = true := by
          rcases ho with ho | ho
          · rw [hop] at ho; cases ho
          · exact ho
        simp (maxSteps:=9^7) only [go_sem,↓reduceIte,reduceCtorEq,Nat.reduceEqDiff,Nat.reduceBEq,Nat.reduceAdd,Nat.reduceSub,Nat.reduceMul,Nat.reduceLT,Nat.reduceLeDiff,Nat.reduceBNe,Int.reduceBEq,Int.reduceBNe,Int.reduceLT,Int.reduceLE,Spn.a,Msg.a,Eff.a,h1,h2,h3,h4,h,hv,hop,hh]
        have hsp := zig m (by omega)
        simp only [Msg.a, hop] at hsp
        (first | refine z01 hsp ?_ | refine z00 hsp ?_)
        simp (maxSteps:=9^7) only [go_sem,↓reduceIte,reduceCtorEq,Nat.reduceEqDiff,Nat.reduceBEq,Nat.reduceAdd,Nat.reduceSub,Nat.reduceMul,Nat.reduceLT,Nat.reduceLeDiff,Nat.reduceBNe,Int.reduceBEq,Int.reduceBNe,Int.reduceLT,Int.reduceLE,Spn.a,Msg.a,Eff.a,h1,h2,h3,h4,h,hv,hop,hh]
        (first | refine z01 (z43 m.span (zhy (n := 0) hm.1 hm.2)) ?_ | refine z00 (z43 m.span (zhy (n := 0) hm.1 hm.2)) ?_)
        simp (maxSteps:=9^7) only [go_sem,↓reduceIte,reduceCtorEq,Nat.reduceEqDiff,Nat.reduceBEq,Nat.reduceAdd,Nat.reduceSub,Nat.reduceMul,Nat.reduceLT,Nat.reduceLeDiff,Nat.reduceBNe,Int.reduceBEq,Int.reduceBNe,Int.reduceLT,Int.reduceLE,Spn.a,Msg.a,Eff.a,h1,h2,h3,h4,h,hv,hop,hh]
    cases hv : (m.val.toList == (ByteArray.mk #[]).toList) with
    | false =>
      simp (maxSteps:=9^7) only [go_sem,↓reduceIte,reduceCtorEq,Nat.reduceEqDiff,Nat.reduceBEq,Nat.reduceAdd,Nat.reduceSub,Nat.reduceMul,Nat.reduceLT,Nat.reduceLeDiff,Nat.reduceBNe,Int.reduceBEq,Int.reduceBNe,Int.reduceLT,Int.reduceLE,Spn.a,Msg.a,Eff.a,h1,h2,h3,h4,h,hv]
    | true =>
      cases hop : m.op with
      | false => simpa [hv, hop] using call hv (.inl hop)
      | true =>
        cases hh : (m.hi.toList == (ByteArray.mk #[]).toList) with
        | false => 
          simp (maxSteps:=9^7) only [go_sem,↓reduceIte,reduceCtorEq,Nat.reduceEqDiff,Nat.reduceBEq,Nat.reduceAdd,Nat.reduceSub,Nat.reduceMul,Nat.reduceLT,Nat.reduceLeDiff,Nat.reduceBNe,Int.reduceBEq,Int.reduceBNe,Int.reduceLT,Int.reduceLE,Spn.a,Msg.a,Eff.a,h1,h2,h3,h4,h,hv,hop,hh]
        | true => simpa [hv, hop, hh] using call hv (.inr hh)
  | false =>
    have h' : m.kind ≠ 4 := by simpa using h
    rw [if_neg h']
    simp (maxSteps:=9^7) only [go_sem,↓reduceIte,reduceCtorEq,Nat.reduceEqDiff,Nat.reduceBEq,Nat.reduceAdd,Nat.reduceSub,Nat.reduceMul,Nat.reduceLT,Nat.reduceLeDiff,Nat.reduceBNe,Int.reduceBEq,Int.reduceBNe,Int.reduceLT,Int.reduceLE,Spn.a,Msg.a,Eff.a,h1,h2,h3,h4,h]
    refine ⟨fun a => ⟨fun b => ⟨fun c => ⟨fun d => ⟨fun e => ?_, fun e => ?_⟩, fun d => ?_⟩, fun c => ?_⟩, fun b => ?_⟩, fun a => ?_⟩ <;> simp only [nilS, *, Bool.not_false, Bool.not_true, Bool.and_true, Bool.true_and, Bool.and_false, Bool.false_and, Bool.or_true, Bool.true_or, Bool.or_false, Bool.false_or]
def Msg.bulk (m:Msg):Nat:=1 + m.key.size + m.hi.size + m.val.size
def z2f:List Msg->Bool
 | []=>true
 | m :: l=>m.right && (match l with | []=>true | x :: _=>decide (m.stamp < x.stamp)) && z2f l
def y7o:Reg:=⟨[],[⟨.mv (.c (.bool false)),some 2,none,[],[]⟩],[],[],false⟩
def y7n:Reg:=⟨[],[⟨.mv (.c (.int .i64 0)),some 3,none,[],[]⟩],[],[],false⟩
def zun:List ROp:=[⟨.mv (.t 3),some 4,none,[],[]⟩,⟨.mv (.t 0),some 5,none,[],[]⟩,⟨.len false (.t 5),some 6,none,[],[]⟩,⟨.bin .lss (.t 4) (.t 6),some 7,none,[],[]⟩]
def y7m:Reg:=⟨[],zun,[],[],false⟩
def zum:List ROp:=[⟨.bin .leq (.t 24) (.t 30),some 31,(some (19,true)),[],[]⟩,⟨.pick (.t 19) (.t 31) (.c (.bool false)),some 32,(some (16,false)),[],[]⟩,⟨.pick (.t 16) (.c (.bool true)) (.t 32),some 33,none,[],[]⟩]
def zvf:List ROp:=[⟨.mv (.t 0),some 10,none,[14],[]⟩,⟨.mv (.t 3),some 11,none,[14],[]⟩,⟨.iaddr 6 (.t 10) (.t 11),some 12,none,[14],[]⟩,⟨.load 6 true (.t 12),some 13,none,[14],[]⟩,⟨.callv (.c (.clo 86 [] [])) [(.t 13)],some 14,none,[],[]⟩,⟨.un .not (.t 14),some 15,none,[],[]⟩,⟨.mv (.t 15),some 16,none,[],[]⟩,⟨.mv (.t 3),some 17,(some (16,false)),[],[]⟩,⟨.bin .gtr (.t 17) (.c (.int .i64 0)),some 18,(some (16,false)),[],[]⟩,⟨.mv (.t 18),some 19,(some (16,false)),[],[]⟩,⟨.mv (.t 0),some 20,(some (19,true)),[],[]⟩,⟨.mv (.t 3),some 21,(some (19,true)),[],[]⟩,⟨.iaddr 6 (.t 20) (.t 21),some 22,(some (19,true)),[],[]⟩,⟨.faddr 0 (.t 22),some 23,(some (19,true)),[],[]⟩,⟨.load 1 false (.t 23),some 24,(some (19,true)),[],[]⟩,⟨.mv (.t 0),some 25,(some (19,true)),[],[]⟩,⟨.mv (.t 3),some 26,(some (19,true)),[],[]⟩,⟨.bin .sub (.t 26) (.c (.int .i64 1)),some 27,(some (19,true)),[],[]⟩,⟨.iaddr 6 (.t 25) (.t 27),some 28,(some (19,true)),[],[]⟩,⟨.faddr 0 (.t 28),some 29,(some (19,true)),[],[]⟩,⟨.load 1 false (.t 29),some 30,(some (19,true)),[],[]⟩]
def y7l:Reg:=⟨zvf,zum,[14],[],true⟩
def y7k:Reg:=⟨[],[⟨.mv (.c (.bool false)),some 2,none,[],[]⟩],[],[],false⟩
def zul:List ROp:=[⟨.mv (.t 3),some 8,none,[],[]⟩,⟨.bin .add (.t 8) (.c (.int .i64 1)),some 9,none,[],[]⟩,⟨.mv (.t 9),some 3,none,[],[]⟩]
def y7j:Reg:=⟨[],zul,[],[],false⟩
def zzf:IR:=(.seq (.seq (.reg y7m)
 (.cond (.t 7) .skip
 (.exit 0)))
 (.seq (.block 1 (.seq (.reg y7l)
 (.cond (.t 33) (.seq (.reg y7k)
 .ret)
 .skip)))
 (.reg y7j)))
def y7i:Reg:=⟨[],[⟨.mv (.c (.bool true)),some 2,none,[],[]⟩],[],[],false⟩
def ir_rAll:IR:=(.seq (.reg y7o)
 (.seq (.seq (.reg y7n)
 (.block 0 (.loop zzf)))
 (.seq (.reg y7i)
 .ret)))
def y6r:List RDesc:=[(.tmp 2)]
theorem e_rAll_0:EqR y7o [⟨.mv (.c (.bool false)),some 2,none,[],[]⟩] []:=fun _ _ _=>rfl
theorem e_rAll_1:EqR y7n [⟨.mv (.c (.int .i64 0)),some 3,none,[],[]⟩] []:=fun _ _ _=>rfl
theorem e_rAll_2:EqR y7m zun []:=fun _ _ _=>rfl
theorem e_rAll_3 (C:FuncId->List AV->AV->Prop) (σ:St) (K:St->Prop):z0m C y7l σ K = z07 C [] zum zvf (σ.kills [14]) K:=rfl
theorem e_rAll_4:EqR y7k [⟨.mv (.c (.bool false)),some 2,none,[],[]⟩] []:=fun _ _ _=>rfl
theorem e_rAll_5:EqR y7j zul []:=fun _ _ _=>rfl
theorem e_rAll_7:EqR y7i [⟨.mv (.c (.bool true)),some 2,none,[],[]⟩] []:=fun _ _ _=>rfl
theorem fn_rAll {args:List AV} {r:AV} (ha:args.length.ble Tryd.f79.ntmps = true) (h:run (AFn Tryd.prog) ir_rAll (endQ y6r r) (z0a args)):AFn Tryd.prog 79 args r :=
 AFn.of_code (pv:=false) (hint:=fun _=>[]) (c:=Tryd.f79.body.getD .skip) (by kernel_rfl) (by kernel_rfl) Tryd.func79 (by kernel_rfl) (by kernel_rfl) (by kernel_rfl) (of_decide_eq_true (by kernel_rfl)) (Nat.le_of_ble_eq_true ha) (Nat.le_of_ble_eq_true (by kernel_rfl)) (z0b h)
attribute [local go_sem ↓] ir_rAll
attribute [local go_sem] y6r e_rAll_0 e_rAll_1 e_rAll_2 zun e_rAll_3 zum zvf e_rAll_4 e_rAll_5 zul e_rAll_7
def ze1 (l:List Msg) (j:Nat):Bool:=z2f (l.drop j) && (j == 0 || match l[j - 1]?,l[j]? with | some a,some b=>decide (a.stamp < b.stamp) | _,_=>true)
def allInv (l:List Msg) (r:Bool) (k:Nat) (σ:St):Prop :=
 ∃ j:Nat,j≤l.length∧k = l.length - j∧σ.T 0 = .sl (l.map Msg.a)∧σ.T 3 = .int .i64 j∧ze1 l j = r
theorem y2j {l:List Msg} {j:Nat} {x:Msg} (hx:l[j]? = some x):ze1 l j = (x.right && (j == 0 || match l[j - 1]? with | some a=>decide (a.stamp < x.stamp) | none=>true) && ze1 l (j + 1)):=by
 have hlt:=(List.getElem?_eq_some_iff.1 hx).1
 have e:l[j] = x:=(List.getElem?_eq_some_iff.1 hx).2
 unfold ze1
 rw [List.drop_eq_getElem_cons hlt,e]
 have h2:(match l.drop (j + 1) with | []=>true | y :: _=>decide (x.stamp < y.stamp)) = (match l[j + 1]? with | some b=>decide (x.stamp < b.stamp) | none=>true):=by
  rcases Nat.lt_or_ge (j + 1) l.length with h | h
  ·rw [List.drop_eq_getElem_cons h,List.getElem?_eq_getElem h]
  ·rw [List.drop_eq_nil_of_le h,List.getElem?_eq_none h]
 simp only [z2f,h2,Nat.add_sub_cancel,hx]
 have h3:(j + 1 == 0) = false:=by simp
 rw [h3]
 cases x.right <;> cases (z2f (l.drop (j + 1))) <;> cases hj:l[j + 1]? <;> cases hj2:l[j - 1]? <;> simp <;>
  (rename_i a b; cases h:decide (x.stamp < a.stamp) <;> simp_all)
theorem refAll (l:List Msg) (hl:l.length≤1000000) (hs:∀ m,m ∈ l->m.key.size + 1≤9223372036854775807∧m.hi.size≤9223372036854775807):AFn Tryd.prog 79 [.sl (l.map Msg.a)] (.bool (z2f l)):=by
 refine fn_rAll rfl ?_
 simp (maxSteps:=9^7) only [go_sem,↓reduceIte,reduceCtorEq,Nat.reduceEqDiff,Nat.reduceBEq,Nat.reduceAdd,Nat.reduceSub,Nat.reduceMul,Nat.reduceLT,Nat.reduceLeDiff,Nat.reduceBNe,Int.reduceBEq,Int.reduceBNe,Int.reduceLT,Int.reduceLE,Spn.a,Msg.a,Eff.a]
 refine z08 (allInv l (z2f l)) (k:=l.length) ⟨0,by omega,rfl,?_,?_,?_⟩ ?_
 ·simp (maxSteps:=9^7) only [go_sem,↓reduceIte,reduceCtorEq,Nat.reduceEqDiff,Nat.reduceBEq,Nat.reduceAdd,Nat.reduceSub,Nat.reduceMul,Nat.reduceLT,Nat.reduceLeDiff,Nat.reduceBNe,Int.reduceBEq,Int.reduceBNe,Int.reduceLT,Int.reduceLE,Spn.a,Msg.a,Eff.a]
 ·simp (maxSteps:=9^7) only [go_sem,↓reduceIte,reduceCtorEq,Nat.reduceEqDiff,Nat.reduceBEq,Nat.reduceAdd,Nat.reduceSub,Nat.reduceMul,Nat.reduceLT,Nat.reduceLeDiff,Nat.reduceBNe,Int.reduceBEq,Int.reduceBNe,Int.reduceLT,Int.reduceLE,Spn.a,Msg.a,Eff.a]
  rfl
 ·simp [ze1]
 rintro k σ ⟨j,hj,rfl,t0,t3,hr⟩
 simp only [zzf]
 by_cases hlt:j < l.length
 ·have hlt':(j:Int) < (l.length:Int):=by omega
  obtain ⟨x,hx⟩:∃ x,l[j]? = some x:=⟨_,List.getElem?_eq_getElem hlt⟩
  have hg:∀ (j:Nat) (x:Msg),l[j]? = some x->(l.map Msg.a).getD j .und = .agg [.int .i64 x.stamp,.int .i64 x.kind,.str x.key,.str x.hi,.bool x.op,.str x.val]:=fun j x hx=>by rw [List.getD_eq_getElem?_getD,List.getElem?_map,hx]; rfl
  have hgj:=hg j x hx
  have hw:IntKind.i64.wrap ((j:Int) + 1) = ((j + 1:Nat):Int):=by rw [IntWalk.i64_in _ (by omega)]; rfl
  rw [y2j hx] at hr
  simp (maxSteps:=9^7) only [go_sem,↓reduceIte,reduceCtorEq,Nat.reduceEqDiff,Nat.reduceBEq,Nat.reduceAdd,Nat.reduceSub,Nat.reduceMul,Nat.reduceLT,Nat.reduceLeDiff,Nat.reduceBNe,Int.reduceBEq,Int.reduceBNe,Int.reduceLT,Int.reduceLE,Spn.a,Msg.a,Eff.a,t0,t3,hlt',hgj,List.length_map,Int.toNat_natCast]
  refine ⟨by omega,?_⟩
  (first | refine z01 (y6u x (hs x (List.mem_of_getElem? hx))) ?_ | refine z00 (y6u x (hs x (List.mem_of_getElem? hx))) ?_)
  cases hxr:x.right with
  | false =>
   rw [hxr] at hr
   simp only [Bool.false_and] at hr
   simp (maxSteps:=9^7) only [go_sem,↓reduceIte,reduceCtorEq,Nat.reduceEqDiff,Nat.reduceBEq,Nat.reduceAdd,Nat.reduceSub,Nat.reduceMul,Nat.reduceLT,Nat.reduceLeDiff,Nat.reduceBNe,Int.reduceBEq,Int.reduceBNe,Int.reduceLT,Int.reduceLE,Spn.a,Msg.a,Eff.a,t0,t3,hlt']
   exact hr.symm
  | true =>
   rw [hxr] at hr
   simp only [Bool.true_and] at hr
   cases j with
   | zero =>
    simp only [beq_self_eq_true,Bool.true_or,Bool.true_and] at hr
    have hz:¬ ((0:Nat):Int) > 0:=by omega
    simp (maxSteps:=9^7) only [go_sem,↓reduceIte,reduceCtorEq,Nat.reduceEqDiff,Nat.reduceBEq,Nat.reduceAdd,Nat.reduceSub,Nat.reduceMul,Nat.reduceLT,Nat.reduceLeDiff,Nat.reduceBNe,Int.reduceBEq,Int.reduceBNe,Int.reduceLT,Int.reduceLE,Spn.a,Msg.a,Eff.a,t0,t3,hz,hw]
    refine ⟨l.length - (0 + 1),by omega,0 + 1,by omega,rfl,?_,?_,hr⟩ <;>
     (simp (maxSteps:=9^7) only [go_sem,↓reduceIte,reduceCtorEq,Nat.reduceEqDiff,Nat.reduceBEq,Nat.reduceAdd,Nat.reduceSub,Nat.reduceMul,Nat.reduceLT,Nat.reduceLeDiff,Nat.reduceBNe,Int.reduceBEq,Int.reduceBNe,Int.reduceLT,Int.reduceLE,Spn.a,Msg.a,Eff.a,t0,t3,hw])
   | succ i =>
    obtain ⟨y,hy⟩:∃ y,l[i]? = some y:=⟨_,List.getElem?_eq_getElem (by omega)⟩
    have hgi:=hg i y hy
    have hz:((i + 1:Nat):Int) > 0:=by omega
    have hw1:IntKind.i64.wrap (((i + 1:Nat):Int) - 1) = (i:Int):=by rw [IntWalk.i64_in _ (by omega)]; omega
    have hli:(i:Int) < (l.length:Int):=by omega
    have hz2:(i + 1 == 0) = false:=by simp
    rw [hz2,Bool.false_or,Nat.add_sub_cancel,hy] at hr
    simp only at hr
    by_cases hst:x.stamp≤y.stamp
    ·have:¬ y.stamp < x.stamp:=by omega
     simp only [this,decide_false,Bool.false_and] at hr
     simp (maxSteps:=9^7) only [go_sem,↓reduceIte,reduceCtorEq,Nat.reduceEqDiff,Nat.reduceBEq,Nat.reduceAdd,Nat.reduceSub,Nat.reduceMul,Nat.reduceLT,Nat.reduceLeDiff,Nat.reduceBNe,Int.reduceBEq,Int.reduceBNe,Int.reduceLT,Int.reduceLE,Spn.a,Msg.a,Eff.a,t0,t3,hz,hw,hw1,hli,hgi,hgj,hlt',hst,List.length_map,Int.toNat_natCast]
     exact ⟨by omega,by omega,hr.symm⟩
    ·have:y.stamp < x.stamp:=by omega
     simp only [this,decide_true,Bool.true_and] at hr
     simp (maxSteps:=9^7) only [go_sem,↓reduceIte,reduceCtorEq,Nat.reduceEqDiff,Nat.reduceBEq,Nat.reduceAdd,Nat.reduceSub,Nat.reduceMul,Nat.reduceLT,Nat.reduceLeDiff,Nat.reduceBNe,Int.reduceBEq,Int.reduceBNe,Int.reduceLT,Int.reduceLE,Spn.a,Msg.a,Eff.a,t0,t3,hz,hw,hw1,hli,hgi,hgj,hlt',hst,List.length_map,Int.toNat_natCast]
     refine ⟨by omega,by omega,l.length - (i + 1 + 1),by omega,i + 1 + 1,by omega,rfl,?_,?_,hr⟩ <;>
      (simp (maxSteps:=9^7) only [go_sem,↓reduceIte,reduceCtorEq,Nat.reduceEqDiff,Nat.reduceBEq,Nat.reduceAdd,Nat.reduceSub,Nat.reduceMul,Nat.reduceLT,Nat.reduceLeDiff,Nat.reduceBNe,Int.reduceBEq,Int.reduceBNe,Int.reduceLT,Int.reduceLE,Spn.a,Msg.a,Eff.a,t0,t3,hw])
 ·have hlt':¬ (j:Int) < (l.length:Int):=by omega
  simp (maxSteps:=9^7) only [go_sem,↓reduceIte,reduceCtorEq,Nat.reduceEqDiff,Nat.reduceBEq,Nat.reduceAdd,Nat.reduceSub,Nat.reduceMul,Nat.reduceLT,Nat.reduceLeDiff,Nat.reduceBNe,Int.reduceBEq,Int.reduceBNe,Int.reduceLT,Int.reduceLE,Spn.a,Msg.a,Eff.a,t0,t3,hlt',List.length_map]
  rw [← hr]
  unfold ze1
  rw [List.drop_eq_nil_of_le (by omega),List.getElem?_eq_none (by omega:l.length≤j)]
  cases l[j - 1]? <;> simp [z2f]
end
section
open Go.RowKit
theorem z0e {T:Ty} {fs:List Ty} {ds:List AV} (h:TypedC (.st (T :: fs)) ds):∃ c r,ds = c ++ r∧TypedC T c∧TypedC (.st fs) r:=by
 cases h with
 | cons h1 h2=>exact ⟨_,_,rfl,h1,h2⟩
theorem zni {ds:List AV} (h:TypedC (.st []) ds):ds = []:=by cases h; rfl
theorem z10 {ds:List AV} (h:TypedC (.int .i64) ds):∃ n,ds = [.int .i64 n]∧-9223372036854775808≤n∧n≤9223372036854775807:=by
 cases h with
 | int k n h=>exact ⟨n,rfl,bounds_i64 h⟩
theorem z8e {ds:List AV} (h:TypedC .str ds):∃ s,ds = [.str s]∧s.size≤281474976710656:=by
 cases h with
 | str s h=>exact ⟨s,rfl,h⟩
theorem zvl {ds:List AV} (h:TypedC .bool ds):∃ b,ds = [.bool b]:=by
 cases h with
 | bool b=>exact ⟨b,rfl⟩
theorem y2u {α:Type} (f:α->AV) (ok:α->Prop) {T:Ty} {ds:List AV} (h:TypedC (.sl T) ds) (hel:∀ c,TypedC T c->∃ a,zn6 T c = f a∧ok a):∃ l:List α,ds = [.sl (l.map f)]∧l.length≤281474976710656∧∀ a,a ∈ l->ok a:=by
 cases h with
 | sl T ls hlen h =>
  have:∃ l:List α,ls.map (zn6 T) = l.map f∧l.length = ls.length∧∀ a,a ∈ l->ok a:=by
   clear hlen
   induction ls with
   | nil=>exact ⟨[],rfl,rfl,fun a ha=>by cases ha⟩
   | cons c ls ih =>
    obtain ⟨l,h1,h2,h3⟩:=ih fun x hx=>h x (List.mem_cons_of_mem _ hx)
    obtain ⟨a,ha,hok⟩:=hel c (h c (List.mem_cons_self ..))
    refine ⟨a :: l,by rw [List.map_cons,List.map_cons,h1,ha],by rw [List.length_cons,List.length_cons,h2],fun b hb=>?_⟩
    rcases List.mem_cons.1 hb with rfl | hb
    ·exact hok
    ·exact h3 b hb
  obtain ⟨l,h1,h2,h3⟩:=this
  exact ⟨l,by rw [h1],by omega,h3⟩
structure Msg.ok (x:Msg):Prop where
 stamp:(-9223372036854775808≤x.stamp∧x.stamp≤9223372036854775807)
 kind:(-9223372036854775808≤x.kind∧x.kind≤9223372036854775807)
 key:x.key.size≤281474976710656
 hi:x.hi.size≤281474976710656
 op:True
 val:x.val.size≤281474976710656
def MsgT:Ty:=.st [.int .i64,.int .i64,.str,.str,.bool,.str]
theorem Msg.of {c:List AV} (h:TypedC MsgT c):∃ x:Msg,AV.agg c = x.a∧x.ok:=by
 obtain ⟨c0,r0,rfl,h0,h⟩:=z0e h
 obtain ⟨c1,r1,rfl,h1,h⟩:=z0e h
 obtain ⟨c2,r2,rfl,h2,h⟩:=z0e h
 obtain ⟨c3,r3,rfl,h3,h⟩:=z0e h
 obtain ⟨c4,r4,rfl,h4,h⟩:=z0e h
 obtain ⟨c5,r5,rfl,h5,h⟩:=z0e h
 obtain rfl:=zni h
 obtain ⟨v0,rfl,b0⟩:=z10 h0
 obtain ⟨v1,rfl,b1⟩:=z10 h1
 obtain ⟨v2,rfl,b2⟩:=z8e h2
 obtain ⟨v3,rfl,b3⟩:=z8e h3
 obtain ⟨v4,rfl⟩:=zvl h4
 have b4:=True.intro
 obtain ⟨v5,rfl,b5⟩:=z8e h5
 exact ⟨⟨v0,v1,v2,v3,v4,v5⟩,rfl,⟨b0,b1,b2,b3,b4,b5⟩⟩
structure Par where
 key:ByteArray
 val:ByteArray
def Par.a (x:Par):AV:=.agg [.str x.key,.str x.val]
structure Par.ok (x:Par):Prop where
 key:x.key.size≤281474976710656
 val:x.val.size≤281474976710656
def ParT:Ty:=.st [.str,.str]
theorem Par.of {c:List AV} (h:TypedC ParT c):∃ x:Par,AV.agg c = x.a∧x.ok:=by
 obtain ⟨c0,r0,rfl,h0,h⟩:=z0e h
 obtain ⟨c1,r1,rfl,h1,h⟩:=z0e h
 obtain rfl:=zni h
 obtain ⟨v0,rfl,b0⟩:=z8e h0
 obtain ⟨v1,rfl,b1⟩:=z8e h1
 exact ⟨⟨v0,v1⟩,rfl,⟨b0,b1⟩⟩
structure Nd where
 slot:Int
 level:Int
 pivots:List ByteArray
 kids:List Int
 high:ByteArray
 top:Bool
 right:Int
 seen:Int
 msgs:List Msg
 rows:List Par
def Nd.a (x:Nd):AV:=.agg [.int .i64 x.slot,.int .i64 x.level,.sl (x.pivots.map AV.str),.sl (x.kids.map (AV.int .i64)),.str x.high,.bool x.top,.int .i64 x.right,.int .i64 x.seen,.sl (x.msgs.map Msg.a),.sl (x.rows.map Par.a)]
structure Nd.ok (x:Nd):Prop where
 slot:(-9223372036854775808≤x.slot∧x.slot≤9223372036854775807)
 level:(-9223372036854775808≤x.level∧x.level≤9223372036854775807)
 pivots:(x.pivots.length≤281474976710656∧∀ z,z ∈ x.pivots->z.size≤281474976710656)
 kids:(x.kids.length≤281474976710656∧∀ z,z ∈ x.kids->(-9223372036854775808≤z∧z≤9223372036854775807))
 high:x.high.size≤281474976710656
 top:True
 right:(-9223372036854775808≤x.right∧x.right≤9223372036854775807)
 seen:(-9223372036854775808≤x.seen∧x.seen≤9223372036854775807)
 msgs:(x.msgs.length≤281474976710656∧∀ z,z ∈ x.msgs->z.ok)
 rows:(x.rows.length≤281474976710656∧∀ z,z ∈ x.rows->z.ok)
def NdT:Ty:=.st [.int .i64,.int .i64,.sl (.str),.sl (.int .i64),.str,.bool,.int .i64,.int .i64,.sl MsgT,.sl ParT]
theorem Nd.of {c:List AV} (h:TypedC NdT c):∃ x:Nd,AV.agg c = x.a∧x.ok:=by
 obtain ⟨c0,r0,rfl,h0,h⟩:=z0e h
 obtain ⟨c1,r1,rfl,h1,h⟩:=z0e h
 obtain ⟨c2,r2,rfl,h2,h⟩:=z0e h
 obtain ⟨c3,r3,rfl,h3,h⟩:=z0e h
 obtain ⟨c4,r4,rfl,h4,h⟩:=z0e h
 obtain ⟨c5,r5,rfl,h5,h⟩:=z0e h
 obtain ⟨c6,r6,rfl,h6,h⟩:=z0e h
 obtain ⟨c7,r7,rfl,h7,h⟩:=z0e h
 obtain ⟨c8,r8,rfl,h8,h⟩:=z0e h
 obtain ⟨c9,r9,rfl,h9,h⟩:=z0e h
 obtain rfl:=zni h
 obtain ⟨v0,rfl,b0⟩:=z10 h0
 obtain ⟨v1,rfl,b1⟩:=z10 h1
 obtain ⟨v2,rfl,b2⟩:=y2u AV.str (fun z:ByteArray=>z.size≤281474976710656) h2 (fun c hc=>by obtain ⟨v,rfl,b⟩:=z8e hc; exact ⟨v,rfl,b⟩)
 obtain ⟨v3,rfl,b3⟩:=y2u (AV.int .i64) (fun z:Int=>-9223372036854775808≤z∧z≤9223372036854775807) h3 (fun c hc=>by obtain ⟨v,rfl,b⟩:=z10 hc; exact ⟨v,rfl,b⟩)
 obtain ⟨v4,rfl,b4⟩:=z8e h4
 obtain ⟨v5,rfl⟩:=zvl h5
 have b5:=True.intro
 obtain ⟨v6,rfl,b6⟩:=z10 h6
 obtain ⟨v7,rfl,b7⟩:=z10 h7
 obtain ⟨v8,rfl,b8⟩:=y2u Msg.a Msg.ok h8 (fun c hc=>Msg.of hc)
 obtain ⟨v9,rfl,b9⟩:=y2u Par.a Par.ok h9 (fun c hc=>Par.of hc)
 exact ⟨⟨v0,v1,v2,v3,v4,v5,v6,v7,v8,v9⟩,rfl,⟨b0,b1,b2,b3,b4,b5,b6,b7,b8,b9⟩⟩
structure Hld where
 thread:Int
 slot:Int
 wr:Bool
def Hld.a (x:Hld):AV:=.agg [.int .i64 x.thread,.int .i64 x.slot,.bool x.wr]
structure Hld.ok (x:Hld):Prop where
 thread:(-9223372036854775808≤x.thread∧x.thread≤9223372036854775807)
 slot:(-9223372036854775808≤x.slot∧x.slot≤9223372036854775807)
 wr:True
def HldT:Ty:=.st [.int .i64,.int .i64,.bool]
theorem Hld.of {c:List AV} (h:TypedC HldT c):∃ x:Hld,AV.agg c = x.a∧x.ok:=by
 obtain ⟨c0,r0,rfl,h0,h⟩:=z0e h
 obtain ⟨c1,r1,rfl,h1,h⟩:=z0e h
 obtain ⟨c2,r2,rfl,h2,h⟩:=z0e h
 obtain rfl:=zni h
 obtain ⟨v0,rfl,b0⟩:=z10 h0
 obtain ⟨v1,rfl,b1⟩:=z10 h1
 obtain ⟨v2,rfl⟩:=zvl h2
 have b2:=True.intro
 exact ⟨⟨v0,v1,v2⟩,rfl,⟨b0,b1,b2⟩⟩
structure Cfg where
 fanout:Int
 leaf:Int
 budget:Int
 slots:Int
 restarts:Int
def Cfg.a (x:Cfg):AV:=.agg [.int .i64 x.fanout,.int .i64 x.leaf,.int .i64 x.budget,.int .i64 x.slots,.int .i64 x.restarts]
structure Cfg.ok (x:Cfg):Prop where
 fanout:(-9223372036854775808≤x.fanout∧x.fanout≤9223372036854775807)
 leaf:(-9223372036854775808≤x.leaf∧x.leaf≤9223372036854775807)
 budget:(-9223372036854775808≤x.budget∧x.budget≤9223372036854775807)
 slots:(-9223372036854775808≤x.slots∧x.slots≤9223372036854775807)
 restarts:(-9223372036854775808≤x.restarts∧x.restarts≤9223372036854775807)
def CfgT:Ty:=.st [.int .i64,.int .i64,.int .i64,.int .i64,.int .i64]
theorem Cfg.of {c:List AV} (h:TypedC CfgT c):∃ x:Cfg,AV.agg c = x.a∧x.ok:=by
 obtain ⟨c0,r0,rfl,h0,h⟩:=z0e h
 obtain ⟨c1,r1,rfl,h1,h⟩:=z0e h
 obtain ⟨c2,r2,rfl,h2,h⟩:=z0e h
 obtain ⟨c3,r3,rfl,h3,h⟩:=z0e h
 obtain ⟨c4,r4,rfl,h4,h⟩:=z0e h
 obtain rfl:=zni h
 obtain ⟨v0,rfl,b0⟩:=z10 h0
 obtain ⟨v1,rfl,b1⟩:=z10 h1
 obtain ⟨v2,rfl,b2⟩:=z10 h2
 obtain ⟨v3,rfl,b3⟩:=z10 h3
 obtain ⟨v4,rfl,b4⟩:=z10 h4
 exact ⟨⟨v0,v1,v2,v3,v4⟩,rfl,⟨b0,b1,b2,b3,b4⟩⟩
structure Gau where
 nodes:Int
 leaves:Int
 height:Int
 rows:Int
 msgs:Int
 bytes:Int
 empty:Int
 levels:List Int
 waits:List Int
def Gau.a (x:Gau):AV:=.agg [.int .i64 x.nodes,.int .i64 x.leaves,.int .i64 x.height,.int .i64 x.rows,.int .i64 x.msgs,.int .i64 x.bytes,.int .i64 x.empty,.sl (x.levels.map (AV.int .i64)),.sl (x.waits.map (AV.int .i64))]
structure Gau.ok (x:Gau):Prop where
 nodes:(-9223372036854775808≤x.nodes∧x.nodes≤9223372036854775807)
 leaves:(-9223372036854775808≤x.leaves∧x.leaves≤9223372036854775807)
 height:(-9223372036854775808≤x.height∧x.height≤9223372036854775807)
 rows:(-9223372036854775808≤x.rows∧x.rows≤9223372036854775807)
 msgs:(-9223372036854775808≤x.msgs∧x.msgs≤9223372036854775807)
 bytes:(-9223372036854775808≤x.bytes∧x.bytes≤9223372036854775807)
 empty:(-9223372036854775808≤x.empty∧x.empty≤9223372036854775807)
 levels:(x.levels.length≤281474976710656∧∀ z,z ∈ x.levels->(-9223372036854775808≤z∧z≤9223372036854775807))
 waits:(x.waits.length≤281474976710656∧∀ z,z ∈ x.waits->(-9223372036854775808≤z∧z≤9223372036854775807))
def GauT:Ty:=.st [.int .i64,.int .i64,.int .i64,.int .i64,.int .i64,.int .i64,.int .i64,.sl (.int .i64),.sl (.int .i64)]
theorem Gau.of {c:List AV} (h:TypedC GauT c):∃ x:Gau,AV.agg c = x.a∧x.ok:=by
 obtain ⟨c0,r0,rfl,h0,h⟩:=z0e h
 obtain ⟨c1,r1,rfl,h1,h⟩:=z0e h
 obtain ⟨c2,r2,rfl,h2,h⟩:=z0e h
 obtain ⟨c3,r3,rfl,h3,h⟩:=z0e h
 obtain ⟨c4,r4,rfl,h4,h⟩:=z0e h
 obtain ⟨c5,r5,rfl,h5,h⟩:=z0e h
 obtain ⟨c6,r6,rfl,h6,h⟩:=z0e h
 obtain ⟨c7,r7,rfl,h7,h⟩:=z0e h
 obtain ⟨c8,r8,rfl,h8,h⟩:=z0e h
 obtain rfl:=zni h
 obtain ⟨v0,rfl,b0⟩:=z10 h0
 obtain ⟨v1,rfl,b1⟩:=z10 h1
 obtain ⟨v2,rfl,b2⟩:=z10 h2
 obtain ⟨v3,rfl,b3⟩:=z10 h3
 obtain ⟨v4,rfl,b4⟩:=z10 h4
 obtain ⟨v5,rfl,b5⟩:=z10 h5
 obtain ⟨v6,rfl,b6⟩:=z10 h6
 obtain ⟨v7,rfl,b7⟩:=y2u (AV.int .i64) (fun z:Int=>-9223372036854775808≤z∧z≤9223372036854775807) h7 (fun c hc=>by obtain ⟨v,rfl,b⟩:=z10 hc; exact ⟨v,rfl,b⟩)
 obtain ⟨v8,rfl,b8⟩:=y2u (AV.int .i64) (fun z:Int=>-9223372036854775808≤z∧z≤9223372036854775807) h8 (fun c hc=>by obtain ⟨v,rfl,b⟩:=z10 hc; exact ⟨v,rfl,b⟩)
 exact ⟨⟨v0,v1,v2,v3,v4,v5,v6,v7,v8⟩,rfl,⟨b0,b1,b2,b3,b4,b5,b6,b7,b8⟩⟩
theorem z0j {α:Type} {f:α->AV} {l:List α} {j:Nat} {x:α} (h:l[j]? = some x):(l.map f).getD j .und = f x:=by
 rw [List.getD_eq_getElem?_getD,List.getElem?_map,h]; rfl
theorem z0f {α:Type} {l:List α} {j:Nat} (h:j < l.length):∃ x,l[j]? = some x:=⟨_,List.getElem?_eq_getElem h⟩
theorem z1j {j:Nat} (h:j≤1000000000000000):IntKind.i64.wrap ((j:Int) + 1) = ((j + 1:Nat):Int):=by rw [IntWalk.i64_in _ (by omega)]; rfl
theorem z0c {α:Type} {l:List α} {j:Nat} {x:α} (h:l[j]? = some x):l.drop j = x :: l.drop (j + 1):=by
 obtain ⟨hlt,e⟩:=List.getElem?_eq_some_iff.1 h
 rw [List.drop_eq_getElem_cons hlt,e]
theorem za3 {α:Type} {l:List α} {j:Nat} {x:α} (h:l[j]? = some x):l.take (j + 1) = l.take j ++ [x]:=by
 rw [List.take_add_one,h]; rfl
end
end Go.Proofs.YtkfciapeikkmfaaDoor
