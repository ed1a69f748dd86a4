/-
  Part 8 of a proof: SqE, SqF, NdA, NdB, SqG.
-/
import Derived.IntWalk
import Derived.Test.YtlhblpbfhfhlpaaGreatLF7
set_option linter.unusedVariables false
set_option linter.unusedSimpArgs false
set_option maxRecDepth 100000
attribute [local go_sem] reduceCtorEq Nat.reduceEqDiff Nat.reduceBEq Nat.reduceAdd Nat.reduceSub Nat.reduceMul Nat.reduceLT Nat.reduceLeDiff Nat.reduceBNe Int.reduceBEq Int.reduceBNe Int.reduceLT Int.reduceLE
attribute [local go_sem ↓] reduceIte
namespace Go.Proofs.YtlhblpbfhfhlpaaGreat
attribute [go_sem] ev0 ev1 ev2 ev3 ev4 evA y0m.eq_1 y0m.eq_2 y0l.eq_1 y0l.eq_2 okV valV fzV okF valF okBld zsr mxOk.eq_1 mxOk.eq_2 mxVal.eq_1 mxVal.eq_2 z3c.eq_1 z3c.eq_2 z3c.eq_3 zkg.eq_1 zkg.eq_2 zkg.eq_3 upd_at AV.flatB AV.flatBs y8e binIV y8d binSV z3z.eq_1 z3z.eq_2 z3i.eq_1 z3i.eq_2 z0a.eq_1 z0a.eq_2 objZ.eq_1 objZ.eq_2 z1q.eq_1 z1q.eq_2 zxn y13.eq_1 y13.eq_2 y13.eq_3 z1u.eq_1 z1u.eq_2 z1u.eq_3 y1n.eq_1 y1n.eq_2 y1n.eq_3 y1n.eq_4 zj6.eq_1 zj6.eq_2 zj6.eq_3 zj6.eq_4 faOk.eq_1 faOk.eq_2 faOk.eq_3 faVal.eq_1 faVal.eq_2 faVal.eq_3 iaOk.eq_1 iaOk.eq_2 iaOk.eq_3 iaVal.eq_1 iaVal.eq_2 iaVal.eq_3 z5n.eq_1 z5n.eq_2 z5n.eq_3 z5n.eq_4 bdOk.eq_1 bdOk.eq_2 zcg.eq_1 zcg.eq_2 zt2.eq_1 zt2.eq_2 zt2.eq_3 zt2.eq_4 zt2.eq_5 slcKV.eq_1 slcKV.eq_2 slcKV.eq_3 zkx.eq_1 zkx.eq_2 zkx.eq_3 zkx.eq_4 slcFz.eq_1 slcFz.eq_2 loK.eq_1 loK.eq_2 loK.eq_3 y0x.eq_1 y0x.eq_2 y0x.eq_3 byOk.eq_1 byOk.eq_2 byOk.eq_3 byOk.eq_4 byOk.eq_5 byOk.eq_6 byOk.eq_7 byOk.eq_8 z1l.eq_1 z1l.eq_2 z1l.eq_3 byFz.eq_1 byFz.eq_2 byFz.eq_3 z6b z17 z8k zzb zda.eq_1 zda.eq_2 z1w.eq_1 z1w.eq_2 stOk.eq_1 stOk.eq_2 stArr.eq_1 stArr.eq_2 stSt.eq_1 stSt.eq_2 AV.patch y1e gB.eq_1 gB.eq_2 gB.eq_3 gIs.eq_1 gIs.eq_2 gIs.eq_3 retV resV resVs z05 z3d St.byval List.getD_cons_zero List.getD_cons_succ List.getD_nil List.map_cons List.map_nil List.length_cons List.length_nil List.take_succ_cons List.take_zero List.drop_succ_cons List.drop_zero List.headD_cons List.set_cons_zero List.append_nil List.nil_append List.cons_append List.contains_cons List.contains_nil List.elem_cons List.elem_nil List.all_cons List.all_nil List.getElem?_cons_zero List.getElem?_cons_succ List.filterMap_cons List.filterMap_nil Option.isSome_some Option.isSome_none Option.map_some Option.map_none Option.some.injEq AV.int.injEq AV.bool.injEq AV.str.injEq AV.tup.injEq AV.agg.injEq AV.sl.injEq List.cons.injEq Bool.false_eq_true Bool.true_eq_false Bool.not_true Bool.not_false Bool.and_true Bool.true_and Bool.or_false Bool.or_true Bool.false_or Bool.true_or Bool.or_self Bool.and_self Bool.not_eq_true' Bool.not_eq_false' Bool.not_not beq_self_eq_true true_and and_true false_and and_false and_self not_true_eq_false not_false_eq_true forall_const true_implies false_implies implies_true imp_self Nat.lt_add_one Nat.le_refl Nat.zero_le Nat.add_zero Nat.zero_add decide_true decide_false decide_eq_true_eq decide_eq_false_iff_not exists_eq_left exists_eq_left' ge_iff_le gt_iff_lt ite_branch y1p nilOk.eq_1 nilOk.eq_2 zxq.eq_1 zxq.eq_2 AV.isSl.eq_1 zxo.eq_1 zxo.eq_2 apSt.eq_1 apArr.eq_1 apArr.eq_2 apTwo.eq_1 apTwo.eq_2 apSt2.eq_1 y8g.eq_1 y8g.eq_2 slOf.eq_1 fitsV List.mem_cons List.not_mem_nil Bool.false_and Bool.and_false z4i.eq_1 z4i.eq_2 z4i.eq_3 z4i.eq_4 z4i.eq_5 z1p.eq_1 z1p.eq_2 z1p.eq_3 z1p.eq_4 z1p.eq_5 mOk.eq_1 mOk.eq_2 mVal.eq_1 mVal.eq_2 mFz.eq_1 mFz.eq_2 mOks y1l mFzs zxx.eq_1 zxx.eq_2 mFn.eq_1 mFn.eq_2 mArgs.eq_1 mArgs.eq_2 ckOk.eq_1 ckOk.eq_2 cloOk.eq_1 ptrAt.eq_1 sh.eq_1 sh.eq_2 sh.eq_3 sh.eq_4 sh.eq_5 sh.eq_6 retM shH_small evM z07.eq_1 z07.eq_2 ents.eq_1 ents.eq_2 kI.eq_1 mpOk.eq_1 mpR.eq_1 lkV.eq_1 lkV.eq_2 remp.eq_2 evP pvOk.eq_1 pvOk.eq_2 pvVal.eq_1 pvVal.eq_2 plOk.eq_1 plOk.eq_2 plOk.eq_3 plV.eq_1 plV.eq_2 plF.eq_1 plF.eq_2 plVal.eq_1 plVal.eq_2 plFz.eq_1 plFz.eq_2 lpOk.eq_1 lpOk.eq_2 lpVal.eq_1 lpVal.eq_2 lpFz.eq_1 lpFz.eq_2 stpOk.eq_1 stpOk.eq_2 zsx.eq_1 zsx.eq_2 zsy.eq_1 keepS.eq_1 keepS.eq_2 evCl
section
open Go.RowKit
attribute [local go_sem ↓] z18 z0h
theorem drop_less (x y:List UInt8) (j:Nat) (hx:j < x.length) (hy:j < y.length):Op.bytesLess (x.drop j) (y.drop j) = if (x.getD j 0) = (y.getD j 0) then Op.bytesLess (x.drop (j + 1)) (y.drop (j + 1)) else decide (x.getD j 0 < y.getD j 0):=by
 rw [List.drop_eq_getElem_cons hx,List.drop_eq_getElem_cons hy,kp.less_cons,List.getD_eq_getElem?_getD,List.getD_eq_getElem?_getD,List.getElem?_eq_getElem hx,List.getElem?_eq_getElem hy]
 simp only [Option.getD_some]
 by_cases h:x[j] = y[j]
 ·rw [if_pos h,h]; simp
 ·rw [if_neg h]; simp [h]
def lessInv (a b:ByteArray) (r:Bool) (k:Nat) (σ:St):Prop :=
 ∃ j:Nat,j≤a.size∧j≤b.size∧k = a.size - j∧σ.T 0 = .str a∧σ.T 1 = .str b∧σ.T 5 = .int .i64 j∧Op.bytesLess (a.data.toList.drop j) (b.data.toList.drop j) = r
def zvi:Reg:=⟨[],[⟨.mv (.c (.bool false)),some 4,none,[],[]⟩],[],[],false⟩
def zvh:Reg:=⟨[],[⟨.mv (.c (.int .i64 0)),some 5,none,[],[]⟩],[],[],false⟩
def zey:List ROp:=[⟨.mv (.t 5),some 6,none,[],[]⟩,⟨.mv (.t 0),some 7,none,[],[]⟩,⟨.len true (.t 7),some 8,none,[],[]⟩,⟨.bin .lss (.t 6) (.t 8),some 9,none,[],[]⟩,⟨.mv (.t 9),some 10,none,[],[]⟩,⟨.mv (.t 5),some 11,(some (10,true)),[],[]⟩,⟨.mv (.t 1),some 12,(some (10,true)),[],[]⟩,⟨.len true (.t 12),some 13,(some (10,true)),[],[]⟩,⟨.bin .lss (.t 11) (.t 13),some 14,(some (10,true)),[],[]⟩,⟨.pick (.t 10) (.t 14) (.c (.bool false)),some 15,none,[],[]⟩]
def zvg:Reg:=⟨[],zey,[],[],false⟩
def zjk:List ROp:=[⟨.mv (.t 0),some 18,none,[],[]⟩,⟨.mv (.t 5),some 19,none,[],[]⟩,⟨.idx (.t 18) (.t 19),some 20,none,[],[]⟩,⟨.mv (.t 1),some 21,none,[],[]⟩,⟨.mv (.t 5),some 22,none,[],[]⟩,⟨.idx (.t 21) (.t 22),some 23,none,[],[]⟩]
def zvf:Reg:=⟨zjk,[⟨.bin .neq (.t 20) (.t 23),some 24,none,[],[]⟩],[],[],true⟩
def zjj:List ROp:=[⟨.mv (.t 0),some 25,none,[],[]⟩,⟨.mv (.t 5),some 26,none,[],[]⟩,⟨.idx (.t 25) (.t 26),some 27,none,[],[]⟩,⟨.mv (.t 1),some 28,none,[],[]⟩,⟨.mv (.t 5),some 29,none,[],[]⟩,⟨.idx (.t 28) (.t 29),some 30,none,[],[]⟩]
def zve:Reg:=⟨zjj,[⟨.bin .lss (.t 27) (.t 30),some 31,none,[],[]⟩,⟨.mv (.t 31),some 4,none,[],[]⟩],[],[],true⟩
def zex:List ROp:=[⟨.mv (.t 5),some 16,none,[],[]⟩,⟨.bin .add (.t 16) (.c (.int .i64 1)),some 17,none,[],[]⟩,⟨.mv (.t 17),some 5,none,[],[]⟩]
def zvd:Reg:=⟨[],zex,[],[],false⟩
def zmz:IR:=(.seq (.seq (.reg zvg)
 (.cond (.t 15) .skip
 (.exit 0)))
 (.seq (.block 1 (.seq (.reg zvf)
 (.cond (.t 24) (.seq (.reg zve)
 .ret)
 .skip)))
 (.reg zvd)))
def zew:List ROp:=[⟨.mv (.t 0),some 32,none,[],[]⟩,⟨.len true (.t 32),some 33,none,[],[]⟩,⟨.mv (.t 1),some 34,none,[],[]⟩,⟨.len true (.t 34),some 35,none,[],[]⟩,⟨.bin .lss (.t 33) (.t 35),some 36,none,[],[]⟩,⟨.mv (.t 36),some 4,none,[],[]⟩]
def zvc:Reg:=⟨[],zew,[],[],false⟩
def y78:IR:=(.seq (.reg zvi)
 (.seq (.seq (.reg zvh)
 (.block 0 (.loop zmz)))
 (.seq (.reg zvc)
 .ret)))
def ztl:List RDesc:=[(.tmp 4)]
theorem e_rLess_0:EqR zvi [⟨.mv (.c (.bool false)),some 4,none,[],[]⟩] []:=fun _ _ _=>rfl
theorem e_rLess_1:EqR zvh [⟨.mv (.c (.int .i64 0)),some 5,none,[],[]⟩] []:=fun _ _ _=>rfl
theorem e_rLess_2:EqR zvg zey []:=fun _ _ _=>rfl
theorem e_rLess_3 (C:FuncId->List AV->AV->Prop) (σ:St) (K:St->Prop):z0l C zvf σ K = z08 C [] [⟨.bin .neq (.t 20) (.t 23),some 24,none,[],[]⟩] zjk (σ.kills []) K:=rfl
theorem e_rLess_4 (C:FuncId->List AV->AV->Prop) (σ:St) (K:St->Prop):z0l C zve σ K = z08 C [] [⟨.bin .lss (.t 27) (.t 30),some 31,none,[],[]⟩,⟨.mv (.t 31),some 4,none,[],[]⟩] zjj (σ.kills []) K:=rfl
theorem e_rLess_5:EqR zvd zex []:=fun _ _ _=>rfl
theorem e_rLess_7:EqR zvc zew []:=fun _ _ _=>rfl
theorem fn_rLess {args:List AV} {r:AV} (ha:args.length.ble Tryz.f90.ntmps = true) (h:run (AFn Tryz.prog) y78 (endQ ztl r) (z0b args)):AFn Tryz.prog 90 args r :=
 AFn.of_code (pv:=false) (hint:=fun _=>[]) (c:=Tryz.f90.body.getD .skip) (by kernel_rfl) (by kernel_rfl) Tryz.func90 (by kernel_rfl) (by kernel_rfl) (by kernel_rfl) (of_decide_eq_true (by kernel_rfl)) (Nat.le_of_ble_eq_true ha) (Nat.le_of_ble_eq_true (by kernel_rfl)) (z09 h)
attribute [local go_sem ↓] y78
attribute [local go_sem] ztl e_rLess_0 e_rLess_1 e_rLess_2 zey e_rLess_3 zjk e_rLess_4 zjj e_rLess_5 zex e_rLess_7 zew
theorem z3a (a b:ByteArray) (ha:a.size≤9223372036854775807) (hb:b.size≤9223372036854775807):AFn Tryz.prog 90 [.str a,.str b] (.bool (lt a b)):=by
 have hla:a.data.toList.length = a.size:=by rw [Array.length_toList]; rfl
 have hlb:b.data.toList.length = b.size:=by rw [Array.length_toList]; rfl
 refine fn_rLess rfl ?_
 simp (maxSteps:=9^7) only [go_sem,Spn.a,Msg.a,Eff.a]
 refine z06 (lessInv a b (lt a b)) (k:=a.size) ⟨0,by omega,by omega,rfl,?_,?_,?_,?_⟩ ?_
 iterate 2 focus ((simp (maxSteps:=9^7) only [go_sem,Spn.a,Msg.a,Eff.a]) <;> rfl)
 ·simp (maxSteps:=9^7) only [go_sem,Spn.a,Msg.a,Eff.a]
  rfl
 ·simp only [List.drop_zero,lt,ByteArray.toList_eq]
 rintro k σ ⟨j,hja,hjb,rfl,t0,t1,t5,hr⟩
 simp only [zmz]
 by_cases h1:j < a.size
 ·have h1':(j:Int) < (a.size:Int):=by omega
  by_cases h2:j < b.size
  ·have h2':(j:Int) < (b.size:Int):=by omega
   have hw:IntKind.i64.wrap ((j:Int) + 1) = ((j + 1:Nat):Int):=by rw [IntWalk.i64_in _ (by omega)]; rfl
   rw [drop_less _ _ _ (by omega) (by omega)] at hr
   by_cases h3:a.data.toList.getD j 0 = b.data.toList.getD j 0
   ·rw [if_pos h3] at hr
    simp (maxSteps:=9^7) only [go_sem,Spn.a,Msg.a,Eff.a,t0,t1,t5,h1',h2',h3,decide_true,Int.toNat_natCast,bne_self_eq_false]
    refine ⟨by omega,by omega,?_⟩
    refine ⟨a.size - (j + 1),by omega,j + 1,by omega,by omega,rfl,?_,?_,?_,hr⟩ <;>
     (simp (maxSteps:=9^7) only [go_sem,Spn.a,Msg.a,Eff.a,t0,t1,t5,hw])
   ·rw [if_neg h3] at hr
    have h3':(((a.data.toList.getD j 0).toNat:Int) != ((b.data.toList.getD j 0).toNat:Int)) = true:=by
     simp only [bne_iff_ne,ne_eq]
     intro e
     exact h3 (UInt8.toNat.inj (by omega))
    simp (maxSteps:=9^7) only [go_sem,Spn.a,Msg.a,Eff.a,t0,t1,t5,h1',h2',decide_true,Int.toNat_natCast,h3']
    refine ⟨by omega,by omega,?_⟩
    rw [← hr]
    simp [UInt8.lt_iff_toNat_lt]
  ·have h2':¬ (j:Int) < (b.size:Int):=by omega
   simp (maxSteps:=9^7) only [go_sem,Spn.a,Msg.a,Eff.a,t0,t1,t5,h1',h2',decide_true,decide_false]
   rw [← hr,show j = b.size by omega]
   rw [show b.data.toList.drop b.size = [] by rw [List.drop_eq_nil_of_le (by omega)],kp.less_nil]
   have:¬ (a.size:Int) < b.size:=by omega
   simp [this]
 ·have h1':¬ (j:Int) < (a.size:Int):=by omega
  simp (maxSteps:=9^7) only [go_sem,Spn.a,Msg.a,Eff.a,t0,t1,t5,h1',decide_false]
  have e:j = a.size:=by omega
  subst e
  rw [← hr,show a.data.toList.drop a.size = [] by rw [List.drop_eq_nil_of_le (by omega)]]
  by_cases h2:a.size < b.size
  ·rw [List.drop_eq_getElem_cons (by omega),kp.nil_less]
   simp; omega
  ·rw [List.drop_eq_nil_of_le (by omega),kp.less_nil]
   simp; omega
def y4p:Reg:=⟨[],[⟨.box 3 81 (.t 0),some 2,none,[],[]⟩,⟨.mv (.c (.bool false)),some 4,none,[],[]⟩],[2],[],false⟩
def zqf:List ROp:=[⟨.mv (.t 1),some 5,none,[8,17],[]⟩,⟨.faddr 0 (.t 2),some 6,none,[8,17],[]⟩,⟨.load 1 false (.t 6),some 7,none,[8,17],[]⟩,⟨.callv (.c (.clo 90 [] [])) [(.t 5),(.t 7)],some 8,none,[17],[]⟩,⟨.un .not (.t 8),some 9,none,[17],[]⟩,⟨.mv (.t 9),some 10,none,[17],[]⟩,⟨.faddr 2 (.t 2),some 11,(some (10,true)),[17],[]⟩,⟨.load 1 false (.t 11),some 12,(some (10,true)),[17],[]⟩,⟨.mv (.t 12),some 13,(some (10,true)),[17],[]⟩,⟨.mv (.t 1),some 14,(some (13,false)),[17],[]⟩,⟨.faddr 1 (.t 2),some 15,(some (13,false)),[17],[]⟩,⟨.load 1 false (.t 15),some 16,(some (13,false)),[17],[]⟩,⟨.callv (.c (.clo 90 [] [])) [(.t 14),(.t 16)],some 17,(some (13,false)),[],[]⟩,⟨.pick (.t 13) (.c (.bool true)) (.t 17),some 18,(some (10,true)),[],[]⟩,⟨.pick (.t 10) (.t 18) (.c (.bool false)),some 19,none,[],[]⟩,⟨.mv (.t 19),some 4,none,[],[]⟩]
def y4o:Reg:=⟨[],zqf,[8,17],[],false⟩
def ir_rHas:IR:=(.seq (.reg y4p)
 (.seq (.reg y4o)
 .ret))
def y4b:List RDesc:=[(.tmp 4)]
theorem e_rHas_0:EqR y4p [⟨.box 3 81 (.t 0),some 2,none,[],[]⟩,⟨.mv (.c (.bool false)),some 4,none,[],[]⟩] [2]:=fun _ _ _=>rfl
theorem e_rHas_1:EqR y4o zqf [8,17]:=fun _ _ _=>rfl
theorem fn_rHas {args:List AV} {r:AV} (ha:args.length.ble Tryz.f65.ntmps = true) (h:run (AFn Tryz.prog) ir_rHas (endQ y4b r) (z0b args)):AFn Tryz.prog 65 args r :=
 AFn.of_code (pv:=false) (hint:=fun _=>[]) (c:=Tryz.f65.body.getD .skip) (by kernel_rfl) (by kernel_rfl) Tryz.func65 (by kernel_rfl) (by kernel_rfl) (by kernel_rfl) (of_decide_eq_true (by kernel_rfl)) (Nat.le_of_ble_eq_true ha) (Nat.le_of_ble_eq_true (by kernel_rfl)) (z09 h)
def zn2:Reg:=⟨[],[⟨.box 3 81 (.t 0),some 1,none,[],[]⟩,⟨.mv (.c (.bool false)),some 2,none,[],[]⟩],[1],[],false⟩
def za9:List ROp:=[⟨.load 3 true (.t 1),some 3,none,[6],[]⟩,⟨.faddr 0 (.t 1),some 4,none,[6],[]⟩,⟨.load 1 false (.t 4),some 5,none,[6],[]⟩,⟨.callv (.c (.clo 65 [] [])) [(.t 3),(.t 5)],some 6,none,[],[]⟩,⟨.un .not (.t 6),some 7,none,[],[]⟩,⟨.mv (.t 7),some 2,none,[],[]⟩]
def zn1:Reg:=⟨[],za9,[6],[],false⟩
def zy8:IR:=(.seq (.reg zn2)
 (.seq (.reg zn1)
 .ret))
def zl6:List RDesc:=[(.tmp 2)]
theorem e_rEmpty_0:EqR zn2 [⟨.box 3 81 (.t 0),some 1,none,[],[]⟩,⟨.mv (.c (.bool false)),some 2,none,[],[]⟩] [1]:=fun _ _ _=>rfl
theorem e_rEmpty_1:EqR zn1 za9 [6]:=fun _ _ _=>rfl
theorem fn_rEmpty {args:List AV} {r:AV} (ha:args.length.ble Tryz.f96.ntmps = true) (h:run (AFn Tryz.prog) zy8 (endQ zl6 r) (z0b args)):AFn Tryz.prog 96 args r :=
 AFn.of_code (pv:=false) (hint:=fun _=>[]) (c:=Tryz.f96.body.getD .skip) (by kernel_rfl) (by kernel_rfl) Tryz.func96 (by kernel_rfl) (by kernel_rfl) (by kernel_rfl) (of_decide_eq_true (by kernel_rfl)) (Nat.le_of_ble_eq_true ha) (Nat.le_of_ble_eq_true (by kernel_rfl)) (z09 h)
def zeo:List ROp:=[⟨.box 3 81 (.t 0),some 1,none,[2],[]⟩,⟨.alloc 3 81 (.agg [(.str ⟨#[]⟩),(.str ⟨#[]⟩),(.bool false)]),some 2,none,[],[]⟩]
def zv3:Reg:=⟨[],zeo,[1,2],[],false⟩
def zv2:Reg:=⟨[],[⟨.load 3 true (.t 1),some 3,none,[4],[]⟩,⟨.callv (.c (.clo 96 [] [])) [(.t 3)],some 4,none,[],[]⟩],[4],[],false⟩
def zen:List ROp:=[⟨.bld [(.str ⟨#[]⟩),(.str ⟨#[]⟩),(.bool false)] [],some 5,none,[],[]⟩,⟨.store 3 (.t 2) (.t 5),none,none,[],[]⟩]
def zv1:Reg:=⟨[],zen,[],[],false⟩
def zv0:Reg:=⟨[],[⟨.faddr 2 (.t 1),some 6,none,[],[]⟩,⟨.load 1 false (.t 6),some 7,none,[],[]⟩],[],[],false⟩
def zuz:Reg:=⟨[],[⟨.faddr 1 (.t 1),some 8,none,[],[]⟩,⟨.store 1 (.t 8) (.c (.str ⟨#[]⟩)),none,none,[],[]⟩],[],[],false⟩
def zuy:Reg:=⟨[],[⟨.load 3 true (.t 1),some 9,none,[],[]⟩,⟨.store 3 (.t 2) (.t 9),none,none,[],[]⟩],[],[],false⟩
def y76:IR:=(.seq (.reg zv3)
 (.seq (.seq (.reg zv2)
 (.cond (.t 4) (.seq (.reg zv1)
 .ret)
 .skip))
 (.seq (.seq (.reg zv0)
 (.cond (.t 7) (.reg zuz)
 .skip))
 (.seq (.reg zuy)
 .ret))))
def ztj:List RDesc:=[(.cell 2 3 true)]
theorem e_rNorm_0:EqR zv3 zeo [1,2]:=fun _ _ _=>rfl
theorem e_rNorm_1:EqR zv2 [⟨.load 3 true (.t 1),some 3,none,[4],[]⟩,⟨.callv (.c (.clo 96 [] [])) [(.t 3)],some 4,none,[],[]⟩] [4]:=fun _ _ _=>rfl
theorem e_rNorm_2:EqR zv1 zen []:=fun _ _ _=>rfl
theorem e_rNorm_3:EqR zv0 [⟨.faddr 2 (.t 1),some 6,none,[],[]⟩,⟨.load 1 false (.t 6),some 7,none,[],[]⟩] []:=fun _ _ _=>rfl
theorem e_rNorm_4:EqR zuz [⟨.faddr 1 (.t 1),some 8,none,[],[]⟩,⟨.store 1 (.t 8) (.c (.str ⟨#[]⟩)),none,none,[],[]⟩] []:=fun _ _ _=>rfl
theorem e_rNorm_5:EqR zuy [⟨.load 3 true (.t 1),some 9,none,[],[]⟩,⟨.store 3 (.t 2) (.t 9),none,none,[],[]⟩] []:=fun _ _ _=>rfl
theorem fn_rNorm {args:List AV} {r:AV} (ha:args.length.ble Tryz.f67.ntmps = true) (h:run (AFn Tryz.prog) y76 (endQ ztj r) (z0b args)):AFn Tryz.prog 67 args r :=
 AFn.of_code (pv:=false) (hint:=fun _=>[]) (c:=Tryz.f67.body.getD .skip) (by kernel_rfl) (by kernel_rfl) Tryz.func67 (by kernel_rfl) (by kernel_rfl) (by kernel_rfl) (of_decide_eq_true (by kernel_rfl)) (Nat.le_of_ble_eq_true ha) (Nat.le_of_ble_eq_true (by kernel_rfl)) (z09 h)
def zev:List ROp:=[⟨.box 3 81 (.t 0),some 2,none,[3,4],[]⟩,⟨.box 3 81 (.t 1),some 3,none,[4],[]⟩,⟨.alloc 3 81 (.agg [(.str ⟨#[]⟩),(.str ⟨#[]⟩),(.bool false)]),some 4,none,[],[]⟩]
def zvb:Reg:=⟨[],zev,[2,3,4],[],false⟩
def zeu:List ROp:=[⟨.load 3 true (.t 2),some 6,none,[5],[]⟩,⟨.alloc 3 81 (.agg [(.str ⟨#[]⟩),(.str ⟨#[]⟩),(.bool false)]),some 5,none,[],[]⟩,⟨.store 3 (.t 5) (.t 6),none,none,[],[]⟩]
def zva:Reg:=⟨[],zeu,[5],[],false⟩
def zet:List ROp:=[⟨.faddr 0 (.t 2),some 7,none,[11],[]⟩,⟨.load 1 false (.t 7),some 8,none,[11],[]⟩,⟨.faddr 0 (.t 3),some 9,none,[11],[]⟩,⟨.load 1 false (.t 9),some 10,none,[11],[]⟩,⟨.callv (.c (.clo 90 [] [])) [(.t 8),(.t 10)],some 11,none,[],[]⟩]
def zv9:Reg:=⟨[],zet,[11],[],false⟩
def zes:List ROp:=[⟨.faddr 0 (.t 3),some 12,none,[],[]⟩,⟨.load 1 false (.t 12),some 13,none,[],[]⟩,⟨.faddr 0 (.t 5),some 14,none,[],[]⟩,⟨.store 1 (.t 14) (.t 13),none,none,[],[]⟩]
def zv8:Reg:=⟨[],zes,[],[],false⟩
def zer:List ROp:=[⟨.faddr 2 (.t 3),some 15,none,[26],[]⟩,⟨.load 1 false (.t 15),some 16,none,[26],[]⟩,⟨.un .not (.t 16),some 17,none,[26],[]⟩,⟨.mv (.t 17),some 18,none,[26],[]⟩,⟨.faddr 2 (.t 2),some 19,(some (18,true)),[26],[]⟩,⟨.load 1 false (.t 19),some 20,(some (18,true)),[26],[]⟩,⟨.mv (.t 20),some 21,(some (18,true)),[26],[]⟩,⟨.faddr 1 (.t 3),some 22,(some (21,false)),[26],[]⟩,⟨.load 1 false (.t 22),some 23,(some (21,false)),[26],[]⟩,⟨.faddr 1 (.t 2),some 24,(some (21,false)),[26],[]⟩,⟨.load 1 false (.t 24),some 25,(some (21,false)),[26],[]⟩,⟨.callv (.c (.clo 90 [] [])) [(.t 23),(.t 25)],some 26,(some (21,false)),[],[]⟩,⟨.pick (.t 21) (.c (.bool true)) (.t 26),some 27,(some (18,true)),[],[]⟩,⟨.pick (.t 18) (.t 27) (.c (.bool false)),some 28,none,[],[]⟩]
def zv7:Reg:=⟨[],zer,[26],[],false⟩
def zv6:Reg:=⟨[],[⟨.faddr 2 (.t 5),some 29,none,[],[]⟩,⟨.store 1 (.t 29) (.c (.bool false)),none,none,[],[]⟩],[],[],false⟩
def zeq:List ROp:=[⟨.faddr 1 (.t 3),some 30,none,[],[]⟩,⟨.load 1 false (.t 30),some 31,none,[],[]⟩,⟨.faddr 1 (.t 5),some 32,none,[],[]⟩,⟨.store 1 (.t 32) (.t 31),none,none,[],[]⟩]
def zv5:Reg:=⟨[],zeq,[],[],false⟩
def zep:List ROp:=[⟨.load 3 true (.t 5),some 33,none,[34],[]⟩,⟨.callv (.c (.clo 67 [] [])) [(.t 33)],some 34,none,[],[]⟩,⟨.store 3 (.t 4) (.t 34),none,none,[],[]⟩]
def zv4:Reg:=⟨[],zep,[34],[],false⟩
def y77:IR:=(.seq (.reg zvb)
 (.seq (.reg zva)
 (.seq (.seq (.reg zv9)
 (.cond (.t 11) (.reg zv8)
 .skip))
 (.seq (.seq (.reg zv7)
 (.cond (.t 28) (.seq (.reg zv6)
 (.reg zv5))
 .skip))
 (.seq (.reg zv4)
 .ret)))))
def ztk:List RDesc:=[(.cell 4 3 true)]
theorem e_rMeet_0:EqR zvb zev [2,3,4]:=fun _ _ _=>rfl
theorem e_rMeet_1:EqR zva zeu [5]:=fun _ _ _=>rfl
theorem e_rMeet_2:EqR zv9 zet [11]:=fun _ _ _=>rfl
theorem e_rMeet_3:EqR zv8 zes []:=fun _ _ _=>rfl
theorem e_rMeet_4:EqR zv7 zer [26]:=fun _ _ _=>rfl
theorem e_rMeet_5:EqR zv6 [⟨.faddr 2 (.t 5),some 29,none,[],[]⟩,⟨.store 1 (.t 29) (.c (.bool false)),none,none,[],[]⟩] []:=fun _ _ _=>rfl
theorem e_rMeet_6:EqR zv5 zeq []:=fun _ _ _=>rfl
theorem e_rMeet_7:EqR zv4 zep [34]:=fun _ _ _=>rfl
theorem fn_rMeet {args:List AV} {r:AV} (ha:args.length.ble Tryz.f59.ntmps = true) (h:run (AFn Tryz.prog) y77 (endQ ztk r) (z0b args)):AFn Tryz.prog 59 args r :=
 AFn.of_code (pv:=false) (hint:=fun _=>[]) (c:=Tryz.f59.body.getD .skip) (by kernel_rfl) (by kernel_rfl) Tryz.func59 (by kernel_rfl) (by kernel_rfl) (by kernel_rfl) (of_decide_eq_true (by kernel_rfl)) (Nat.le_of_ble_eq_true ha) (Nat.le_of_ble_eq_true (by kernel_rfl)) (z09 h)
def zek:List ROp:=[⟨.box 6 87 (.t 0),some 1,none,[2],[]⟩,⟨.alloc 3 81 (.agg [(.str ⟨#[]⟩),(.str ⟨#[]⟩),(.bool false)]),some 2,none,[],[]⟩]
def zut:Reg:=⟨[],zek,[1,2],[],false⟩
def zej:List ROp:=[⟨.faddr 1 (.t 1),some 3,none,[],[]⟩,⟨.load 1 false (.t 3),some 4,none,[],[]⟩,⟨.bin .eql (.t 4) (.c (.int .i64 4)),some 5,none,[],[]⟩]
def zus:Reg:=⟨[],zej,[],[],false⟩
def zei:List ROp:=[⟨.faddr 2 (.t 1),some 6,none,[],[]⟩,⟨.load 1 false (.t 6),some 7,none,[],[]⟩,⟨.faddr 3 (.t 1),some 8,none,[],[]⟩,⟨.load 1 false (.t 8),some 9,none,[],[]⟩,⟨.faddr 4 (.t 1),some 10,none,[],[]⟩,⟨.load 1 false (.t 10),some 11,none,[],[]⟩,⟨.bld [(.str ⟨#[]⟩),(.str ⟨#[]⟩),(.bool false)] [⟨0,1,(.t 7)⟩,⟨1,1,(.t 9)⟩,⟨2,1,(.t 11)⟩],some 12,none,[],[]⟩,⟨.store 3 (.t 2) (.t 12),none,none,[],[]⟩]
def zur:Reg:=⟨[],zei,[],[],false⟩
def zeh:List ROp:=[⟨.faddr 2 (.t 1),some 13,none,[],[]⟩,⟨.load 1 false (.t 13),some 14,none,[],[]⟩,⟨.faddr 2 (.t 1),some 15,none,[],[]⟩,⟨.load 1 false (.t 15),some 16,none,[],[]⟩,⟨.bin .add (.t 16) (.c (.str ⟨#[0]⟩)),some 17,none,[],[]⟩,⟨.bld [(.str ⟨#[]⟩),(.str ⟨#[]⟩),(.bool false)] [⟨0,1,(.t 14)⟩,⟨1,1,(.t 17)⟩],some 18,none,[],[]⟩,⟨.store 3 (.t 2) (.t 18),none,none,[],[]⟩]
def zuq:Reg:=⟨[],zeh,[],[],false⟩
def y74:IR:=(.seq (.reg zut)
 (.seq (.seq (.reg zus)
 (.cond (.t 5) (.seq (.reg zur)
 .ret)
 .skip))
 (.seq (.reg zuq)
 .ret)))
def zth:List RDesc:=[(.cell 2 3 true)]
theorem e_rSpan_0:EqR zut zek [1,2]:=fun _ _ _=>rfl
theorem e_rSpan_1:EqR zus zej []:=fun _ _ _=>rfl
theorem e_rSpan_2:EqR zur zei []:=fun _ _ _=>rfl
theorem e_rSpan_3:EqR zuq zeh []:=fun _ _ _=>rfl
theorem fn_rSpan {args:List AV} {r:AV} (ha:args.length.ble Tryz.f66.ntmps = true) (h:run (AFn Tryz.prog) y74 (endQ zth r) (z0b args)):AFn Tryz.prog 66 args r :=
 AFn.of_code (pv:=false) (hint:=fun _=>[]) (c:=Tryz.f66.body.getD .skip) (by kernel_rfl) (by kernel_rfl) Tryz.func66 (by kernel_rfl) (by kernel_rfl) (by kernel_rfl) (of_decide_eq_true (by kernel_rfl)) (Nat.le_of_ble_eq_true ha) (Nat.le_of_ble_eq_true (by kernel_rfl)) (z09 h)
attribute [local go_sem ↓] ir_rHas
attribute [local go_sem] y4b e_rHas_0 e_rHas_1 zqf
attribute [local go_sem ↓] zy8
attribute [local go_sem] zl6 e_rEmpty_0 e_rEmpty_1 za9
attribute [local go_sem ↓] y76
attribute [local go_sem] ztj e_rNorm_0 zeo e_rNorm_1 e_rNorm_2 zen e_rNorm_3 e_rNorm_4 e_rNorm_5
attribute [local go_sem ↓] y77
attribute [local go_sem] ztk e_rMeet_0 zev e_rMeet_1 zeu e_rMeet_2 zet e_rMeet_3 zes e_rMeet_4 zer e_rMeet_5 e_rMeet_6 zeq e_rMeet_7 zep
attribute [local go_sem ↓] y74
attribute [local go_sem] zth e_rSpan_0 zek e_rSpan_1 zej e_rSpan_2 zei e_rSpan_3 zeh
def SOk (s:Spn):Prop:=s.lo.size≤9223372036854775807∧s.hi.size≤9223372036854775807
theorem has_lo (s:Spn):(!s.has s.lo) = s.empty:=by
 have:lt s.lo s.lo = false:=kp.less_irrefl _
 simp [Spn.has,Spn.empty,this]
theorem y4j (s:Spn) (k:ByteArray) (hs:SOk s) (hk:k.size≤9223372036854775807):AFn Tryz.prog 65 [s.a,.str k] (.bool (s.has k)):=by
 refine fn_rHas rfl ?_
 simp (maxSteps:=9^7) only [go_sem,Spn.a,Msg.a,Eff.a]
 (first | refine z01 (z3a k s.lo hk hs.1) ?_ | refine z00 (z3a k s.lo hk hs.1) ?_)
 cases h1:lt k s.lo with
 | true =>
  simp (maxSteps:=9^7) only [go_sem,Spn.a,Msg.a,Eff.a]
  simp [Spn.has,h1]
 | false =>
  cases h2:s.op with
  | true =>
   simp (maxSteps:=9^7) only [go_sem,Spn.a,Msg.a,Eff.a,h2]
   simp [Spn.has,h1,h2]
  | false =>
   simp (maxSteps:=9^7) only [go_sem,Spn.a,Msg.a,Eff.a,h2]
   (first | refine z01 (z3a k s.hi hk hs.2) ?_ | refine z00 (z3a k s.hi hk hs.2) ?_)
   simp (maxSteps:=9^7) only [go_sem,Spn.a,Msg.a,Eff.a,h2]
   simp [Spn.has,h1,h2]
theorem z42 (s:Spn) (hs:SOk s):AFn Tryz.prog 96 [s.a] (.bool s.empty):=by
 refine fn_rEmpty rfl ?_
 simp (maxSteps:=9^7) only [go_sem,Spn.a,Msg.a,Eff.a]
 (first | refine z01 (y4j s s.lo hs hs.1) ?_ | refine z00 (y4j s s.lo hs hs.1) ?_)
 simp (maxSteps:=9^7) only [go_sem,Spn.a,Msg.a,Eff.a,has_lo]
theorem z4x (s:Spn) (hs:SOk s):AFn Tryz.prog 67 [s.a] s.norm.a:=by
 refine fn_rNorm rfl ?_
 simp (maxSteps:=9^7) only [go_sem,Spn.a,Msg.a,Eff.a]
 (first | refine z01 (z42 s hs) ?_ | refine z00 (z42 s hs) ?_)
 simp (maxSteps:=9^7) only [go_sem,Spn.a,Msg.a,Eff.a]
 refine ⟨fun h=>?_,fun h=>⟨fun h2=>?_,fun h2=>?_⟩⟩ <;> simp [Spn.norm,Spn.none, *]
def Spn.refCut (a b:Spn):Spn:=⟨maxS a.lo b.lo,if !b.op && (a.op || lt b.hi a.hi) then b.hi else a.hi,if !b.op && (a.op || lt b.hi a.hi) then false else a.op⟩
theorem y11 (a b:Spn):(a.refCut b).norm = a.meet b:=by
 obtain ⟨lo,hi,op⟩:=a
 obtain ⟨lo',hi',op'⟩:=b
 cases op <;> cases op' <;> simp [Spn.refCut,Spn.meet,Spn.cut,Spn.norm,Spn.empty,minS]
theorem y10 (s t:Spn) (hs:SOk s) (ht:SOk t):AFn Tryz.prog 59 [s.a,t.a] (s.meet t).a:=by
 rw [← y11]
 refine fn_rMeet rfl ?_
 simp (maxSteps:=9^7) only [go_sem,Spn.a,Msg.a,Eff.a]
 (first | refine z01 (z3a s.lo t.lo hs.1 ht.1) ?_ | refine z00 (z3a s.lo t.lo hs.1 ht.1) ?_)
 have hM:SOk (s.refCut t):=by
  unfold Spn.refCut maxS SOk
  refine ⟨?_,?_⟩
  ·simp only; split
   ·exact ht.1
   ·exact hs.1
  ·simp only; split
   ·exact ht.2
   ·exact hs.2
 obtain ⟨sl,sh,so⟩:=s
 obtain ⟨tl,th,tp⟩:=t
 simp only
 have e1:lt sl tl = true∨lt sl tl = false:=by cases lt sl tl <;> simp
 have e2:lt th sh = true∨lt th sh = false:=by cases lt th sh <;> simp
 rcases e1 with e1 | e1 <;> rcases e2 with e2 | e2 <;> cases so <;> cases tp <;>
  simp only [Spn.refCut,maxS,e1,e2,Bool.not_false,Bool.not_true,Bool.true_and,Bool.false_and,Bool.or_true,Bool.or_false,Bool.true_or,Bool.false_or,if_true,if_false,Bool.false_eq_true] at hM ⊢ <;>
  (simp (maxSteps:=9^7) only [go_sem,Spn.a,Msg.a,Eff.a,e1,e2]) <;>
  first
   | ((first | refine z01 (z4x ⟨_,_,_⟩ hM) ?_ | refine z00 (z4x ⟨_,_,_⟩ hM) ?_); (simp (maxSteps:=9^7) only [go_sem,Spn.a,Msg.a,Eff.a,e1,e2]); done)
   | ((first | refine z01 (z3a th sh ht.2 hs.2) ?_ | refine z00 (z3a th sh ht.2 hs.2) ?_); (simp (maxSteps:=9^7) only [go_sem,Spn.a,Msg.a,Eff.a,e1,e2]); (first | refine z01 (z4x ⟨_,_,_⟩ hM) ?_ | refine z00 (z4x ⟨_,_,_⟩ hM) ?_); (simp (maxSteps:=9^7) only [go_sem,Spn.a,Msg.a,Eff.a,e1,e2]); done)
theorem zgd (m:Msg) (hk:m.key.size≤9223372036854775806):AFn Tryz.prog 66 [m.a] m.span.a:=by
 refine fn_rSpan rfl ?_
 cases h:(m.kind == 4) with
 | true =>
  have h':m.kind = 4:=by simpa using h
  simp (maxSteps:=9^7) only [go_sem,Spn.a,Msg.a,Eff.a,h]
  simp [Msg.span,h']
 | false =>
  have h':m.kind ≠ 4:=by simpa using h
  simp (maxSteps:=9^7) only [go_sem,Spn.a,Msg.a,Eff.a,h]
  simp [Msg.span,h',z2i]
  first | (show m.key.size + 1≤_; omega) | omega
end
section
open Go.RowKit
attribute [local go_sem ↓] z18 z0h
abbrev nilS (s:ByteArray):Bool:=s.toList == (ByteArray.mk #[]).toList
def Msg.right (m : Msg) : Bool := decide (1 ≤ m.stamp) && decide (m.key.size ≤ 16) && decide (m.val.size ≤ 16) && decide (m.hi.size ≤ 16) &&
  (if m.kind = 4 then nilS m.val && (!m.op || nilS m.hi) && !m.span.empty
   else nilS m.hi && !m.op && ((m.kind == 1) || (m.kind == 2) || ((m.kind == 3) && nilS m.val)))
theorem zfy {m:Msg} {n:Nat} (h1:m.key.size + 1≤9223372036854775807) (h2:m.hi.size≤9223372036854775807):SOk m.span:=by
 unfold Msg.span SOk z2i
 split
 ·exact ⟨by show m.key.size≤_; omega,h2⟩
 ·refine ⟨by show m.key.size≤_; omega,?_⟩
  show (m.key ++ ⟨#[0]⟩).size≤_
  rw [ByteArray.size_append]
  exact h1
def zmk:Reg:=⟨[],[⟨.box 6 87 (.t 0),some 1,none,[],[]⟩,⟨.mv (.c (.bool false)),some 2,none,[],[]⟩],[1],[],false⟩
def za2:List ROp:=[⟨.faddr 0 (.t 1),some 3,none,[],[]⟩,⟨.load 1 false (.t 3),some 4,none,[],[]⟩,⟨.bin .lss (.t 4) (.c (.int .i64 1)),some 5,none,[],[]⟩,⟨.mv (.t 5),some 6,none,[],[]⟩,⟨.faddr 2 (.t 1),some 7,(some (6,false)),[],[]⟩,⟨.load 1 false (.t 7),some 8,(some (6,false)),[],[]⟩,⟨.len true (.t 8),some 9,(some (6,false)),[],[]⟩,⟨.bin .gtr (.t 9) (.c (.int .i64 16)),some 10,(some (6,false)),[],[]⟩,⟨.pick (.t 6) (.c (.bool true)) (.t 10),some 11,none,[],[]⟩,⟨.mv (.t 11),some 12,none,[],[]⟩,⟨.faddr 5 (.t 1),some 13,(some (12,false)),[],[]⟩,⟨.load 1 false (.t 13),some 14,(some (12,false)),[],[]⟩,⟨.len true (.t 14),some 15,(some (12,false)),[],[]⟩,⟨.bin .gtr (.t 15) (.c (.int .i64 16)),some 16,(some (12,false)),[],[]⟩,⟨.pick (.t 12) (.c (.bool true)) (.t 16),some 17,none,[],[]⟩,⟨.mv (.t 17),some 18,none,[],[]⟩,⟨.faddr 3 (.t 1),some 19,(some (18,false)),[],[]⟩,⟨.load 1 false (.t 19),some 20,(some (18,false)),[],[]⟩,⟨.len true (.t 20),some 21,(some (18,false)),[],[]⟩,⟨.bin .gtr (.t 21) (.c (.int .i64 16)),some 22,(some (18,false)),[],[]⟩,⟨.pick (.t 18) (.c (.bool true)) (.t 22),some 23,none,[],[]⟩]
def zmj:Reg:=⟨[],za2,[],[],false⟩
def zmi:Reg:=⟨[],[⟨.mv (.c (.bool false)),some 2,none,[],[]⟩],[],[],false⟩
def za1:List ROp:=[⟨.faddr 1 (.t 1),some 24,none,[],[]⟩,⟨.load 1 false (.t 24),some 25,none,[],[]⟩,⟨.bin .eql (.t 25) (.c (.int .i64 4)),some 26,none,[],[]⟩]
def zmh:Reg:=⟨[],za1,[],[],false⟩
def za0:List ROp:=[⟨.faddr 5 (.t 1),some 27,none,[42,43],[]⟩,⟨.load 1 false (.t 27),some 28,none,[42,43],[]⟩,⟨.bin .eql (.t 28) (.c (.str ⟨#[]⟩)),some 29,none,[42,43],[]⟩,⟨.mv (.t 29),some 30,none,[42,43],[]⟩,⟨.faddr 4 (.t 1),some 31,(some (30,true)),[42,43],[]⟩,⟨.load 1 false (.t 31),some 32,(some (30,true)),[42,43],[]⟩,⟨.un .not (.t 32),some 33,(some (30,true)),[42,43],[]⟩,⟨.mv (.t 33),some 34,(some (30,true)),[42,43],[]⟩,⟨.faddr 3 (.t 1),some 35,(some (34,false)),[42,43],[]⟩,⟨.load 1 false (.t 35),some 36,(some (34,false)),[42,43],[]⟩,⟨.bin .eql (.t 36) (.c (.str ⟨#[]⟩)),some 37,(some (34,false)),[42,43],[]⟩,⟨.pick (.t 34) (.c (.bool true)) (.t 37),some 38,(some (30,true)),[42,43],[]⟩,⟨.pick (.t 30) (.t 38) (.c (.bool false)),some 39,none,[42,43],[]⟩,⟨.mv (.t 39),some 40,none,[42,43],[]⟩,⟨.load 6 true (.t 1),some 41,(some (40,true)),[42,43],[]⟩,⟨.callv (.c (.clo 66 [] [])) [(.t 41)],some 42,(some (40,true)),[43],[]⟩,⟨.callv (.c (.clo 96 [] [])) [(.t 42)],some 43,(some (40,true)),[],[]⟩,⟨.un .not (.t 43),some 44,(some (40,true)),[],[]⟩,⟨.pick (.t 40) (.t 44) (.c (.bool false)),some 45,none,[],[]⟩,⟨.mv (.t 45),some 2,none,[],[]⟩]
def zmg:Reg:=⟨[],za0,[42,43],[],false⟩
def z9z:List ROp:=[⟨.faddr 3 (.t 1),some 46,none,[],[]⟩,⟨.load 1 false (.t 46),some 47,none,[],[]⟩,⟨.bin .eql (.t 47) (.c (.str ⟨#[]⟩)),some 48,none,[],[]⟩,⟨.mv (.t 48),some 49,none,[],[]⟩,⟨.faddr 4 (.t 1),some 50,(some (49,true)),[],[]⟩,⟨.load 1 false (.t 50),some 51,(some (49,true)),[],[]⟩,⟨.un .not (.t 51),some 52,(some (49,true)),[],[]⟩,⟨.pick (.t 49) (.t 52) (.c (.bool false)),some 53,none,[],[]⟩,⟨.mv (.t 53),some 54,none,[],[]⟩,⟨.faddr 1 (.t 1),some 55,(some (54,true)),[],[]⟩,⟨.load 1 false (.t 55),some 56,(some (54,true)),[],[]⟩,⟨.bin .eql (.t 56) (.c (.int .i64 1)),some 57,(some (54,true)),[],[]⟩,⟨.mv (.t 57),some 58,(some (54,true)),[],[]⟩,⟨.faddr 1 (.t 1),some 59,(some (58,false)),[],[]⟩,⟨.load 1 false (.t 59),some 60,(some (58,false)),[],[]⟩,⟨.bin .eql (.t 60) (.c (.int .i64 2)),some 61,(some (58,false)),[],[]⟩,⟨.pick (.t 58) (.c (.bool true)) (.t 61),some 62,(some (54,true)),[],[]⟩,⟨.mv (.t 62),some 63,(some (54,true)),[],[]⟩,⟨.faddr 1 (.t 1),some 64,(some (63,false)),[],[]⟩,⟨.load 1 false (.t 64),some 65,(some (63,false)),[],[]⟩,⟨.bin .eql (.t 65) (.c (.int .i64 3)),some 66,(some (63,false)),[],[]⟩,⟨.mv (.t 66),some 67,(some (63,false)),[],[]⟩,⟨.faddr 5 (.t 1),some 68,(some (67,true)),[],[]⟩,⟨.load 1 false (.t 68),some 69,(some (67,true)),[],[]⟩,⟨.bin .eql (.t 69) (.c (.str ⟨#[]⟩)),some 70,(some (67,true)),[],[]⟩,⟨.pick (.t 67) (.t 70) (.c (.bool false)),some 71,(some (63,false)),[],[]⟩,⟨.pick (.t 63) (.c (.bool true)) (.t 71),some 72,(some (54,true)),[],[]⟩,⟨.pick (.t 54) (.t 72) (.c (.bool false)),some 73,none,[],[]⟩,⟨.mv (.t 73),some 2,none,[],[]⟩]
def zmf:Reg:=⟨[],z9z,[],[],false⟩
def zjd:IR:=(.seq (.reg zmk)
 (.seq (.seq (.reg zmj)
 (.cond (.t 23) (.seq (.reg zmi)
 .ret)
 .skip))
 (.seq (.seq (.reg zmh)
 (.cond (.t 26) (.seq (.reg zmg)
 .ret)
 .skip))
 (.seq (.reg zmf)
 .ret))))
def zb6:List RDesc:=[(.tmp 2)]
theorem e_rRight_0:EqR zmk [⟨.box 6 87 (.t 0),some 1,none,[],[]⟩,⟨.mv (.c (.bool false)),some 2,none,[],[]⟩] [1]:=fun _ _ _=>rfl
theorem e_rRight_1:EqR zmj za2 []:=fun _ _ _=>rfl
theorem e_rRight_2:EqR zmi [⟨.mv (.c (.bool false)),some 2,none,[],[]⟩] []:=fun _ _ _=>rfl
theorem e_rRight_3:EqR zmh za1 []:=fun _ _ _=>rfl
theorem e_rRight_4:EqR zmg za0 [42,43]:=fun _ _ _=>rfl
theorem e_rRight_5:EqR zmf z9z []:=fun _ _ _=>rfl
theorem fn_rRight {args:List AV} {r:AV} (ha:args.length.ble Tryz.f105.ntmps = true) (h:run (AFn Tryz.prog) zjd (endQ zb6 r) (z0b args)):AFn Tryz.prog 105 args r :=
 AFn.of_code (pv:=false) (hint:=fun _=>[]) (c:=Tryz.f105.body.getD .skip) (by kernel_rfl) (by kernel_rfl) Tryz.func105 (by kernel_rfl) (by kernel_rfl) (by kernel_rfl) (of_decide_eq_true (by kernel_rfl)) (Nat.le_of_ble_eq_true ha) (Nat.le_of_ble_eq_true (by kernel_rfl)) (z09 h)
attribute [local go_sem ↓] zjd
attribute [local go_sem] zb6 e_rRight_0 e_rRight_1 za2 e_rRight_2 e_rRight_3 za1 e_rRight_4 za0 e_rRight_5 z9z
theorem y4i (m : Msg) (hm : m.key.size + 1 ≤ 9223372036854775807 ∧ m.hi.size ≤ 9223372036854775807) : AFn Tryz.prog 105 [m.a] (.bool m.right) := by
  refine fn_rRight rfl ?_
  by_cases h1 : m.stamp < 1
  · have : ¬ 1 ≤ m.stamp := by omega
    simp (maxSteps:=9^7) only [go_sem,↓reduceIte,reduceCtorEq,Nat.reduceEqDiff,Nat.reduceBEq,Nat.reduceAdd,Nat.reduceSub,Nat.reduceMul,Nat.reduceLT,Nat.reduceLeDiff,Nat.reduceBNe,Int.reduceBEq,Int.reduceBNe,Int.reduceLT,Int.reduceLE,Spn.a,Msg.a,Eff.a,h1]
    simp [Msg.right, this]
  by_cases h2 : (m.key.size : Int) > 16
  · have : ¬ m.key.size ≤ 16 := by omega
    simp (maxSteps:=9^7) only [go_sem,↓reduceIte,reduceCtorEq,Nat.reduceEqDiff,Nat.reduceBEq,Nat.reduceAdd,Nat.reduceSub,Nat.reduceMul,Nat.reduceLT,Nat.reduceLeDiff,Nat.reduceBNe,Int.reduceBEq,Int.reduceBNe,Int.reduceLT,Int.reduceLE,Spn.a,Msg.a,Eff.a,h1,h2]
    simp [Msg.right, this]
  by_cases h3 : (m.val.size : Int) > 16
  · have : ¬ m.val.size ≤ 16 := by omega
    simp (maxSteps:=9^7) only [go_sem,↓reduceIte,reduceCtorEq,Nat.reduceEqDiff,Nat.reduceBEq,Nat.reduceAdd,Nat.reduceSub,Nat.reduceMul,Nat.reduceLT,Nat.reduceLeDiff,Nat.reduceBNe,Int.reduceBEq,Int.reduceBNe,Int.reduceLT,Int.reduceLE,Spn.a,Msg.a,Eff.a,h1,h2,h3]
    simp [Msg.right, this]
  by_cases h4 : (m.hi.size : Int) > 16
  · have : ¬ m.hi.size ≤ 16 := by omega
    simp (maxSteps:=9^7) only [go_sem,↓reduceIte,reduceCtorEq,Nat.reduceEqDiff,Nat.reduceBEq,Nat.reduceAdd,Nat.reduceSub,Nat.reduceMul,Nat.reduceLT,Nat.reduceLeDiff,Nat.reduceBNe,Int.reduceBEq,Int.reduceBNe,Int.reduceLT,Int.reduceLE,Spn.a,Msg.a,Eff.a,h1,h2,h3,h4]
    simp [Msg.right, this]
  have g1 : 1 ≤ m.stamp := by omega
  have g2 : m.key.size ≤ 16 := by omega
  have g3 : m.val.size ≤ 16 := by omega
  have g4 : m.hi.size ≤ 16 := by omega
  have hr : m.right = (if m.kind = 4 then nilS m.val && (!m.op || nilS m.hi) && !m.span.empty
   else nilS m.hi && !m.op && ((m.kind == 1) || (m.kind == 2) || ((m.kind == 3) && nilS m.val))) := by simp [Msg.right, g1, g2, g3, g4]
  rw [hr]
  cases h : (m.kind == 4) with
  | true =>
    have h' : m.kind = 4 := by simpa using h
    rw [if_pos h']
    have fin : ∀ b, m.span.empty = b → AFn Tryz.prog 96 [m.span.a] (.bool b) := fun b hb => hb ▸ z42 m.span (zfy (n := 0) hm.1 hm.2)
    have call : (m.val.toList == (ByteArray.mk #[]).toList) = true → (m.op = false ∨ (m.hi.toList == (ByteArray.mk #[]).toList) = true) → run (AFn Tryz.prog) zjd (endQ zb6 (.bool (!m.span.empty))) (z0b [m.a]) := by
      intro hv ho
      cases hop : m.op with
      | false =>
        simp (maxSteps:=9^7) only [go_sem,↓reduceIte,reduceCtorEq,Nat.reduceEqDiff,Nat.reduceBEq,Nat.reduceAdd,Nat.reduceSub,Nat.reduceMul,Nat.reduceLT,Nat.reduceLeDiff,Nat.reduceBNe,Int.reduceBEq,Int.reduceBNe,Int.reduceLT,Int.reduceLE,Spn.a,Msg.a,Eff.a,h1,h2,h3,h4,h,hv,hop]
        have hsp := zgd m (by omega)
        simp only [Msg.a, hop] at hsp
        (first | refine z01 hsp ?_ | refine z00 hsp ?_)
        simp (maxSteps:=9^7) only [go_sem,↓reduceIte,reduceCtorEq,Nat.reduceEqDiff,Nat.reduceBEq,Nat.reduceAdd,Nat.reduceSub,Nat.reduceMul,Nat.reduceLT,Nat.reduceLeDiff,Nat.reduceBNe,Int.reduceBEq,Int.reduceBNe,Int.reduceLT,Int.reduceLE,Spn.a,Msg.a,Eff.a,h1,h2,h3,h4,h,hv,hop]
        (first | refine z01 (z42 m.span (zfy (n := 0) hm.1 hm.2)) ?_ | refine z00 (z42 m.span (zfy (n := 0) hm.1 hm.2)) ?_)
        simp (maxSteps:=9^7) only [go_sem,↓reduceIte,reduceCtorEq,Nat.reduceEqDiff,Nat.reduceBEq,Nat.reduceAdd,Nat.reduceSub,Nat.reduceMul,Nat.reduceLT,Nat.reduceLeDiff,Nat.reduceBNe,Int.reduceBEq,Int.reduceBNe,Int.reduceLT,Int.reduceLE,Spn.a,Msg.a,Eff.a,h1,h2,h3,h4,h,hv,hop]
      | true =>
        have hh : (m.hi.toList == (ByteArray.mk #[]).toList) = true := by
          rcases ho with ho | ho
          · rw [hop] at ho; cases ho
          · exact ho
        simp (maxSteps:=9^7) only [go_sem,↓reduceIte,reduceCtorEq,Nat.reduceEqDiff,Nat.reduceBEq,Nat.reduceAdd,Nat.reduceSub,Nat.reduceMul,Nat.reduceLT,Nat.reduceLeDiff,Nat.reduceBNe,Int.reduceBEq,Int.reduceBNe,Int.reduceLT,Int.reduceLE,Spn.a,Msg.a,Eff.a,h1,h2,h3,h4,h,hv,hop,hh]
        have hsp := zgd m (by omega)
        simp only [Msg.a, hop] at hsp
        (first | refine z01 hsp ?_ | refine z00 hsp ?_)
        simp (maxSteps:=9^7) only [go_sem,↓reduceIte,reduceCtorEq,Nat.reduceEqDiff,Nat.reduceBEq,Nat.reduceAdd,Nat.reduceSub,Nat.reduceMul,Nat.reduceLT,Nat.reduceLeDiff,Nat.reduceBNe,Int.reduceBEq,Int.reduceBNe,Int.reduceLT,Int.reduceLE,Spn.a,Msg.a,Eff.a,h1,h2,h3,h4,h,hv,hop,hh]
        (first | refine z01 (z42 m.span (zfy (n := 0) hm.1 hm.2)) ?_ | refine z00 (z42 m.span (zfy (n := 0) hm.1 hm.2)) ?_)
        simp (maxSteps:=9^7) only [go_sem,↓reduceIte,reduceCtorEq,Nat.reduceEqDiff,Nat.reduceBEq,Nat.reduceAdd,Nat.reduceSub,Nat.reduceMul,Nat.reduceLT,Nat.reduceLeDiff,Nat.reduceBNe,Int.reduceBEq,Int.reduceBNe,Int.reduceLT,Int.reduceLE,Spn.a,Msg.a,Eff.a,h1,h2,h3,h4,h,hv,hop,hh]
    cases hv : (m.val.toList == (ByteArray.mk #[]).toList) with
    | false =>
      simp (maxSteps:=9^7) only [go_sem,↓reduceIte,reduceCtorEq,Nat.reduceEqDiff,Nat.reduceBEq,Nat.reduceAdd,Nat.reduceSub,Nat.reduceMul,Nat.reduceLT,Nat.reduceLeDiff,Nat.reduceBNe,Int.reduceBEq,Int.reduceBNe,Int.reduceLT,Int.reduceLE,Spn.a,Msg.a,Eff.a,h1,h2,h3,h4,h,hv]
    | true =>
      cases hop : m.op with
      | false => simpa [hv, hop] using call hv (.inl hop)
      | true =>
        cases hh : (m.hi.toList == (ByteArray.mk #[]).toList) with
        | false => 
          simp (maxSteps:=9^7) only [go_sem,↓reduceIte,reduceCtorEq,Nat.reduceEqDiff,Nat.reduceBEq,Nat.reduceAdd,Nat.reduceSub,Nat.reduceMul,Nat.reduceLT,Nat.reduceLeDiff,Nat.reduceBNe,Int.reduceBEq,Int.reduceBNe,Int.reduceLT,Int.reduceLE,Spn.a,Msg.a,Eff.a,h1,h2,h3,h4,h,hv,hop,hh]
        | true => simpa [hv, hop, hh] using call hv (.inr hh)
  | false =>
    have h' : m.kind ≠ 4 := by simpa using h
    rw [if_neg h']
    simp (maxSteps:=9^7) only [go_sem,↓reduceIte,reduceCtorEq,Nat.reduceEqDiff,Nat.reduceBEq,Nat.reduceAdd,Nat.reduceSub,Nat.reduceMul,Nat.reduceLT,Nat.reduceLeDiff,Nat.reduceBNe,Int.reduceBEq,Int.reduceBNe,Int.reduceLT,Int.reduceLE,Spn.a,Msg.a,Eff.a,h1,h2,h3,h4,h]
    refine ⟨fun a => ⟨fun b => ⟨fun c => ⟨fun d => ⟨fun e => ?_, fun e => ?_⟩, fun d => ?_⟩, fun c => ?_⟩, fun b => ?_⟩, fun a => ?_⟩ <;> simp only [nilS, *, Bool.not_false, Bool.not_true, Bool.and_true, Bool.true_and, Bool.and_false, Bool.false_and, Bool.or_true, Bool.true_or, Bool.or_false, Bool.false_or]
def Msg.bulk (m:Msg):Nat:=1 + m.key.size + m.hi.size + m.val.size
def z2b:List Msg->Bool
 | []=>true
 | m :: l=>m.right && (match l with | []=>true | x :: _=>decide (m.stamp < x.stamp)) && z2b l
def y4w:Reg:=⟨[],[⟨.mv (.c (.bool false)),some 2,none,[],[]⟩],[],[],false⟩
def y4v:Reg:=⟨[],[⟨.mv (.c (.int .i64 0)),some 3,none,[],[]⟩],[],[],false⟩
def zqi:List ROp:=[⟨.mv (.t 3),some 4,none,[],[]⟩,⟨.mv (.t 0),some 5,none,[],[]⟩,⟨.len false (.t 5),some 6,none,[],[]⟩,⟨.bin .lss (.t 4) (.t 6),some 7,none,[],[]⟩]
def y4u:Reg:=⟨[],zqi,[],[],false⟩
def zqh:List ROp:=[⟨.bin .leq (.t 24) (.t 30),some 31,(some (19,true)),[],[]⟩,⟨.pick (.t 19) (.t 31) (.c (.bool false)),some 32,(some (16,false)),[],[]⟩,⟨.pick (.t 16) (.c (.bool true)) (.t 32),some 33,none,[],[]⟩]
def zs3:List ROp:=[⟨.mv (.t 0),some 10,none,[14],[]⟩,⟨.mv (.t 3),some 11,none,[14],[]⟩,⟨.iaddr 6 (.t 10) (.t 11),some 12,none,[14],[]⟩,⟨.load 6 true (.t 12),some 13,none,[14],[]⟩,⟨.callv (.c (.clo 105 [] [])) [(.t 13)],some 14,none,[],[]⟩,⟨.un .not (.t 14),some 15,none,[],[]⟩,⟨.mv (.t 15),some 16,none,[],[]⟩,⟨.mv (.t 3),some 17,(some (16,false)),[],[]⟩,⟨.bin .gtr (.t 17) (.c (.int .i64 0)),some 18,(some (16,false)),[],[]⟩,⟨.mv (.t 18),some 19,(some (16,false)),[],[]⟩,⟨.mv (.t 0),some 20,(some (19,true)),[],[]⟩,⟨.mv (.t 3),some 21,(some (19,true)),[],[]⟩,⟨.iaddr 6 (.t 20) (.t 21),some 22,(some (19,true)),[],[]⟩,⟨.faddr 0 (.t 22),some 23,(some (19,true)),[],[]⟩,⟨.load 1 false (.t 23),some 24,(some (19,true)),[],[]⟩,⟨.mv (.t 0),some 25,(some (19,true)),[],[]⟩,⟨.mv (.t 3),some 26,(some (19,true)),[],[]⟩,⟨.bin .sub (.t 26) (.c (.int .i64 1)),some 27,(some (19,true)),[],[]⟩,⟨.iaddr 6 (.t 25) (.t 27),some 28,(some (19,true)),[],[]⟩,⟨.faddr 0 (.t 28),some 29,(some (19,true)),[],[]⟩,⟨.load 1 false (.t 29),some 30,(some (19,true)),[],[]⟩]
def y4t:Reg:=⟨zs3,zqh,[14],[],true⟩
def y4s:Reg:=⟨[],[⟨.mv (.c (.bool false)),some 2,none,[],[]⟩],[],[],false⟩
def zqg:List ROp:=[⟨.mv (.t 3),some 8,none,[],[]⟩,⟨.bin .add (.t 8) (.c (.int .i64 1)),some 9,none,[],[]⟩,⟨.mv (.t 9),some 3,none,[],[]⟩]
def y4r:Reg:=⟨[],zqg,[],[],false⟩
def zvq:IR:=(.seq (.seq (.reg y4u)
 (.cond (.t 7) .skip
 (.exit 0)))
 (.seq (.block 1 (.seq (.reg y4t)
 (.cond (.t 33) (.seq (.reg y4s)
 .ret)
 .skip)))
 (.reg y4r)))
def y4q:Reg:=⟨[],[⟨.mv (.c (.bool true)),some 2,none,[],[]⟩],[],[],false⟩
def ir_rAll:IR:=(.seq (.reg y4w)
 (.seq (.seq (.reg y4v)
 (.block 0 (.loop zvq)))
 (.seq (.reg y4q)
 .ret)))
def y4c:List RDesc:=[(.tmp 2)]
theorem e_rAll_0:EqR y4w [⟨.mv (.c (.bool false)),some 2,none,[],[]⟩] []:=fun _ _ _=>rfl
theorem e_rAll_1:EqR y4v [⟨.mv (.c (.int .i64 0)),some 3,none,[],[]⟩] []:=fun _ _ _=>rfl
theorem e_rAll_2:EqR y4u zqi []:=fun _ _ _=>rfl
theorem e_rAll_3 (C:FuncId->List AV->AV->Prop) (σ:St) (K:St->Prop):z0l C y4t σ K = z08 C [] zqh zs3 (σ.kills [14]) K:=rfl
theorem e_rAll_4:EqR y4s [⟨.mv (.c (.bool false)),some 2,none,[],[]⟩] []:=fun _ _ _=>rfl
theorem e_rAll_5:EqR y4r zqg []:=fun _ _ _=>rfl
theorem e_rAll_7:EqR y4q [⟨.mv (.c (.bool true)),some 2,none,[],[]⟩] []:=fun _ _ _=>rfl
theorem fn_rAll {args:List AV} {r:AV} (ha:args.length.ble Tryz.f94.ntmps = true) (h:run (AFn Tryz.prog) ir_rAll (endQ y4c r) (z0b args)):AFn Tryz.prog 94 args r :=
 AFn.of_code (pv:=false) (hint:=fun _=>[]) (c:=Tryz.f94.body.getD .skip) (by kernel_rfl) (by kernel_rfl) Tryz.func94 (by kernel_rfl) (by kernel_rfl) (by kernel_rfl) (of_decide_eq_true (by kernel_rfl)) (Nat.le_of_ble_eq_true ha) (Nat.le_of_ble_eq_true (by kernel_rfl)) (z09 h)
attribute [local go_sem ↓] ir_rAll
attribute [local go_sem] y4c e_rAll_0 e_rAll_1 e_rAll_2 zqi e_rAll_3 zqh zs3 e_rAll_4 e_rAll_5 zqg e_rAll_7
def zci (l:List Msg) (j:Nat):Bool:=z2b (l.drop j) && (j == 0 || match l[j - 1]?,l[j]? with | some a,some b=>decide (a.stamp < b.stamp) | _,_=>true)
def allInv (l:List Msg) (r:Bool) (k:Nat) (σ:St):Prop :=
 ∃ j:Nat,j≤l.length∧k = l.length - j∧σ.T 0 = .sl (l.map Msg.a)∧σ.T 3 = .int .i64 j∧zci l j = r
theorem zza {l:List Msg} {j:Nat} {x:Msg} (hx:l[j]? = some x):zci l j = (x.right && (j == 0 || match l[j - 1]? with | some a=>decide (a.stamp < x.stamp) | none=>true) && zci l (j + 1)):=by
 have hlt:=(List.getElem?_eq_some_iff.1 hx).1
 have e:l[j] = x:=(List.getElem?_eq_some_iff.1 hx).2
 unfold zci
 rw [List.drop_eq_getElem_cons hlt,e]
 have h2:(match l.drop (j + 1) with | []=>true | y :: _=>decide (x.stamp < y.stamp)) = (match l[j + 1]? with | some b=>decide (x.stamp < b.stamp) | none=>true):=by
  rcases Nat.lt_or_ge (j + 1) l.length with h | h
  ·rw [List.drop_eq_getElem_cons h,List.getElem?_eq_getElem h]
  ·rw [List.drop_eq_nil_of_le h,List.getElem?_eq_none h]
 simp only [z2b,h2,Nat.add_sub_cancel,hx]
 have h3:(j + 1 == 0) = false:=by simp
 rw [h3]
 cases x.right <;> cases (z2b (l.drop (j + 1))) <;> cases hj:l[j + 1]? <;> cases hj2:l[j - 1]? <;> simp <;>
  (rename_i a b; cases h:decide (x.stamp < a.stamp) <;> simp_all)
theorem refAll (l:List Msg) (hl:l.length≤1000000) (hs:∀ m,m ∈ l->m.key.size + 1≤9223372036854775807∧m.hi.size≤9223372036854775807):AFn Tryz.prog 94 [.sl (l.map Msg.a)] (.bool (z2b l)):=by
 refine fn_rAll rfl ?_
 simp (maxSteps:=9^7) only [go_sem,Spn.a,Msg.a,Eff.a]
 refine z06 (allInv l (z2b l)) (k:=l.length) ⟨0,by omega,rfl,?_,?_,?_⟩ ?_
 ·simp (maxSteps:=9^7) only [go_sem,Spn.a,Msg.a,Eff.a]
 ·simp (maxSteps:=9^7) only [go_sem,Spn.a,Msg.a,Eff.a]
  rfl
 ·simp [zci]
 rintro k σ ⟨j,hj,rfl,t0,t3,hr⟩
 simp only [zvq]
 by_cases hlt:j < l.length
 ·have hlt':(j:Int) < (l.length:Int):=by omega
  obtain ⟨x,hx⟩:∃ x,l[j]? = some x:=⟨_,List.getElem?_eq_getElem hlt⟩
  have hg:∀ (j:Nat) (x:Msg),l[j]? = some x->(l.map Msg.a).getD j .und = .agg [.int .i64 x.stamp,.int .i64 x.kind,.str x.key,.str x.hi,.bool x.op,.str x.val]:=fun j x hx=>by rw [List.getD_eq_getElem?_getD,List.getElem?_map,hx]; rfl
  have hgj:=hg j x hx
  have hw:IntKind.i64.wrap ((j:Int) + 1) = ((j + 1:Nat):Int):=by rw [IntWalk.i64_in _ (by omega)]; rfl
  rw [zza hx] at hr
  simp (maxSteps:=9^7) only [go_sem,Spn.a,Msg.a,Eff.a,t0,t3,hlt',hgj,List.length_map,Int.toNat_natCast]
  refine ⟨by omega,?_⟩
  (first | refine z01 (y4i x (hs x (List.mem_of_getElem? hx))) ?_ | refine z00 (y4i x (hs x (List.mem_of_getElem? hx))) ?_)
  cases hxr:x.right with
  | false =>
   rw [hxr] at hr
   simp only [Bool.false_and] at hr
   simp (maxSteps:=9^7) only [go_sem,Spn.a,Msg.a,Eff.a,t0,t3,hlt']
   exact hr.symm
  | true =>
   rw [hxr] at hr
   simp only [Bool.true_and] at hr
   cases j with
   | zero =>
    simp only [beq_self_eq_true,Bool.true_or,Bool.true_and] at hr
    have hz:¬ ((0:Nat):Int) > 0:=by omega
    simp (maxSteps:=9^7) only [go_sem,Spn.a,Msg.a,Eff.a,t0,t3,hz,hw]
    refine ⟨l.length - (0 + 1),by omega,0 + 1,by omega,rfl,?_,?_,hr⟩ <;>
     (simp (maxSteps:=9^7) only [go_sem,Spn.a,Msg.a,Eff.a,t0,t3,hw])
   | succ i =>
    obtain ⟨y,hy⟩:∃ y,l[i]? = some y:=⟨_,List.getElem?_eq_getElem (by omega)⟩
    have hgi:=hg i y hy
    have hz:((i + 1:Nat):Int) > 0:=by omega
    have hw1:IntKind.i64.wrap (((i + 1:Nat):Int) - 1) = (i:Int):=by rw [IntWalk.i64_in _ (by omega)]; omega
    have hli:(i:Int) < (l.length:Int):=by omega
    have hz2:(i + 1 == 0) = false:=by simp
    rw [hz2,Bool.false_or,Nat.add_sub_cancel,hy] at hr
    simp only at hr
    by_cases hst:x.stamp≤y.stamp
    ·have:¬ y.stamp < x.stamp:=by omega
     simp only [this,decide_false,Bool.false_and] at hr
     simp (maxSteps:=9^7) only [go_sem,Spn.a,Msg.a,Eff.a,t0,t3,hz,hw,hw1,hli,hgi,hgj,hlt',hst,List.length_map,Int.toNat_natCast]
     exact ⟨by omega,by omega,hr.symm⟩
    ·have:y.stamp < x.stamp:=by omega
     simp only [this,decide_true,Bool.true_and] at hr
     simp (maxSteps:=9^7) only [go_sem,Spn.a,Msg.a,Eff.a,t0,t3,hz,hw,hw1,hli,hgi,hgj,hlt',hst,List.length_map,Int.toNat_natCast]
     refine ⟨by omega,by omega,l.length - (i + 1 + 1),by omega,i + 1 + 1,by omega,rfl,?_,?_,hr⟩ <;>
      (simp (maxSteps:=9^7) only [go_sem,Spn.a,Msg.a,Eff.a,t0,t3,hw])
 ·have hlt':¬ (j:Int) < (l.length:Int):=by omega
  simp (maxSteps:=9^7) only [go_sem,Spn.a,Msg.a,Eff.a,t0,t3,hlt',List.length_map]
  rw [← hr]
  unfold zci
  rw [List.drop_eq_nil_of_le (by omega),List.getElem?_eq_none (by omega:l.length≤j)]
  cases l[j - 1]? <;> simp [z2b]
end
section
open Go.RowKit
theorem z0g {T:Ty} {fs:List Ty} {ds:List AV} (h:TypedC (.st (T :: fs)) ds):∃ c r,ds = c ++ r∧TypedC T c∧TypedC (.st fs) r:=by
 cases h with
 | cons h1 h2=>exact ⟨_,_,rfl,h1,h2⟩
theorem zkw {ds:List AV} (h:TypedC (.st []) ds):ds = []:=by cases h; rfl
theorem z0w {ds:List AV} (h:TypedC (.int .i64) ds):∃ n,ds = [.int .i64 n]∧-9223372036854775808≤n∧n≤9223372036854775807:=by
 cases h with
 | int k n h=>exact ⟨n,rfl,bounds_i64 h⟩
theorem z7v {ds:List AV} (h:TypedC .str ds):∃ s,ds = [.str s]∧s.size≤281474976710656:=by
 cases h with
 | str s h=>exact ⟨s,rfl,h⟩
theorem zsh {ds:List AV} (h:TypedC .bool ds):∃ b,ds = [.bool b]:=by
 cases h with
 | bool b=>exact ⟨b,rfl⟩
theorem zrg {α:Type} (f:α->AV) (ok:α->Prop) {T:Ty} {ds:List AV} (h:TypedC (.sl T) ds) (hel:∀ c,TypedC T c->∃ a,zko T c = f a∧ok a):∃ l:List α,ds = [.sl (l.map f)]∧l.length≤281474976710656∧∀ a,a ∈ l->ok a:=by
 cases h with
 | sl T ls hlen h =>
  have:∃ l:List α,ls.map (zko T) = l.map f∧l.length = ls.length∧∀ a,a ∈ l->ok a:=by
   clear hlen
   induction ls with
   | nil=>exact ⟨[],rfl,rfl,fun a ha=>by cases ha⟩
   | cons c ls ih =>
    obtain ⟨l,h1,h2,h3⟩:=ih fun x hx=>h x (List.mem_cons_of_mem _ hx)
    obtain ⟨a,ha,hok⟩:=hel c (h c (List.mem_cons_self ..))
    refine ⟨a :: l,by rw [List.map_cons,List.map_cons,h1,ha],by rw [List.length_cons,List.length_cons,h2],fun b hb=>?_⟩
    rcases List.mem_cons.1 hb with rfl | hb
    ·exact hok
    ·exact h3 b hb
  obtain ⟨l,h1,h2,h3⟩:=this
  exact ⟨l,by rw [h1],by omega,h3⟩
structure Msg.ok (x:Msg):Prop where
 stamp:(-9223372036854775808≤x.stamp∧x.stamp≤9223372036854775807)
 kind:(-9223372036854775808≤x.kind∧x.kind≤9223372036854775807)
 key:x.key.size≤281474976710656
 hi:x.hi.size≤281474976710656
 op:True
 val:x.val.size≤281474976710656
def MsgT:Ty:=.st [.int .i64,.int .i64,.str,.str,.bool,.str]
theorem Msg.of {c:List AV} (h:TypedC MsgT c):∃ x:Msg,AV.agg c = x.a∧x.ok:=by
 obtain ⟨c0,r0,rfl,h0,h⟩:=z0g h
 obtain ⟨c1,r1,rfl,h1,h⟩:=z0g h
 obtain ⟨c2,r2,rfl,h2,h⟩:=z0g h
 obtain ⟨c3,r3,rfl,h3,h⟩:=z0g h
 obtain ⟨c4,r4,rfl,h4,h⟩:=z0g h
 obtain ⟨c5,r5,rfl,h5,h⟩:=z0g h
 obtain rfl:=zkw h
 obtain ⟨v0,rfl,b0⟩:=z0w h0
 obtain ⟨v1,rfl,b1⟩:=z0w h1
 obtain ⟨v2,rfl,b2⟩:=z7v h2
 obtain ⟨v3,rfl,b3⟩:=z7v h3
 obtain ⟨v4,rfl⟩:=zsh h4
 have b4:=True.intro
 obtain ⟨v5,rfl,b5⟩:=z7v h5
 exact ⟨⟨v0,v1,v2,v3,v4,v5⟩,rfl,⟨b0,b1,b2,b3,b4,b5⟩⟩
structure Par where
 key:ByteArray
 val:ByteArray
def Par.a (x:Par):AV:=.agg [.str x.key,.str x.val]
structure Par.ok (x:Par):Prop where
 key:x.key.size≤281474976710656
 val:x.val.size≤281474976710656
def ParT:Ty:=.st [.str,.str]
theorem Par.of {c:List AV} (h:TypedC ParT c):∃ x:Par,AV.agg c = x.a∧x.ok:=by
 obtain ⟨c0,r0,rfl,h0,h⟩:=z0g h
 obtain ⟨c1,r1,rfl,h1,h⟩:=z0g h
 obtain rfl:=zkw h
 obtain ⟨v0,rfl,b0⟩:=z7v h0
 obtain ⟨v1,rfl,b1⟩:=z7v h1
 exact ⟨⟨v0,v1⟩,rfl,⟨b0,b1⟩⟩
structure Nd where
 slot:Int
 level:Int
 pivots:List ByteArray
 kids:List Int
 high:ByteArray
 top:Bool
 right:Int
 seen:Int
 msgs:List Msg
 rows:List Par
def Nd.a (x:Nd):AV:=.agg [.int .i64 x.slot,.int .i64 x.level,.sl (x.pivots.map AV.str),.sl (x.kids.map (AV.int .i64)),.str x.high,.bool x.top,.int .i64 x.right,.int .i64 x.seen,.sl (x.msgs.map Msg.a),.sl (x.rows.map Par.a)]
structure Nd.ok (x:Nd):Prop where
 slot:(-9223372036854775808≤x.slot∧x.slot≤9223372036854775807)
 level:(-9223372036854775808≤x.level∧x.level≤9223372036854775807)
 pivots:(x.pivots.length≤281474976710656∧∀ z,z ∈ x.pivots->z.size≤281474976710656)
 kids:(x.kids.length≤281474976710656∧∀ z,z ∈ x.kids->(-9223372036854775808≤z∧z≤9223372036854775807))
 high:x.high.size≤281474976710656
 top:True
 right:(-9223372036854775808≤x.right∧x.right≤9223372036854775807)
 seen:(-9223372036854775808≤x.seen∧x.seen≤9223372036854775807)
 msgs:(x.msgs.length≤281474976710656∧∀ z,z ∈ x.msgs->z.ok)
 rows:(x.rows.length≤281474976710656∧∀ z,z ∈ x.rows->z.ok)
def NdT:Ty:=.st [.int .i64,.int .i64,.sl (.str),.sl (.int .i64),.str,.bool,.int .i64,.int .i64,.sl MsgT,.sl ParT]
theorem Nd.of {c:List AV} (h:TypedC NdT c):∃ x:Nd,AV.agg c = x.a∧x.ok:=by
 obtain ⟨c0,r0,rfl,h0,h⟩:=z0g h
 obtain ⟨c1,r1,rfl,h1,h⟩:=z0g h
 obtain ⟨c2,r2,rfl,h2,h⟩:=z0g h
 obtain ⟨c3,r3,rfl,h3,h⟩:=z0g h
 obtain ⟨c4,r4,rfl,h4,h⟩:=z0g h
 obtain ⟨c5,r5,rfl,h5,h⟩:=z0g h
 obtain ⟨c6,r6,rfl,h6,h⟩:=z0g h
 obtain ⟨c7,r7,rfl,h7,h⟩:=z0g h
 obtain ⟨c8,r8,rfl,h8,h⟩:=z0g h
 obtain ⟨c9,r9,rfl,h9,h⟩:=z0g h
 obtain rfl:=zkw h
 obtain ⟨v0,rfl,b0⟩:=z0w h0
 obtain ⟨v1,rfl,b1⟩:=z0w h1
 obtain ⟨v2,rfl,b2⟩:=zrg AV.str (fun z:ByteArray=>z.size≤281474976710656) h2 (fun c hc=>by obtain ⟨v,rfl,b⟩:=z7v hc; exact ⟨v,rfl,b⟩)
 obtain ⟨v3,rfl,b3⟩:=zrg (AV.int .i64) (fun z:Int=>-9223372036854775808≤z∧z≤9223372036854775807) h3 (fun c hc=>by obtain ⟨v,rfl,b⟩:=z0w hc; exact ⟨v,rfl,b⟩)
 obtain ⟨v4,rfl,b4⟩:=z7v h4
 obtain ⟨v5,rfl⟩:=zsh h5
 have b5:=True.intro
 obtain ⟨v6,rfl,b6⟩:=z0w h6
 obtain ⟨v7,rfl,b7⟩:=z0w h7
 obtain ⟨v8,rfl,b8⟩:=zrg Msg.a Msg.ok h8 (fun c hc=>Msg.of hc)
 obtain ⟨v9,rfl,b9⟩:=zrg Par.a Par.ok h9 (fun c hc=>Par.of hc)
 exact ⟨⟨v0,v1,v2,v3,v4,v5,v6,v7,v8,v9⟩,rfl,⟨b0,b1,b2,b3,b4,b5,b6,b7,b8,b9⟩⟩
structure Hld where
 thread:Int
 slot:Int
 wr:Bool
def Hld.a (x:Hld):AV:=.agg [.int .i64 x.thread,.int .i64 x.slot,.bool x.wr]
structure Hld.ok (x:Hld):Prop where
 thread:(-9223372036854775808≤x.thread∧x.thread≤9223372036854775807)
 slot:(-9223372036854775808≤x.slot∧x.slot≤9223372036854775807)
 wr:True
def HldT:Ty:=.st [.int .i64,.int .i64,.bool]
theorem Hld.of {c:List AV} (h:TypedC HldT c):∃ x:Hld,AV.agg c = x.a∧x.ok:=by
 obtain ⟨c0,r0,rfl,h0,h⟩:=z0g h
 obtain ⟨c1,r1,rfl,h1,h⟩:=z0g h
 obtain ⟨c2,r2,rfl,h2,h⟩:=z0g h
 obtain rfl:=zkw h
 obtain ⟨v0,rfl,b0⟩:=z0w h0
 obtain ⟨v1,rfl,b1⟩:=z0w h1
 obtain ⟨v2,rfl⟩:=zsh h2
 have b2:=True.intro
 exact ⟨⟨v0,v1,v2⟩,rfl,⟨b0,b1,b2⟩⟩
structure Cfg where
 fanout:Int
 leaf:Int
 budget:Int
 slots:Int
 restarts:Int
def Cfg.a (x:Cfg):AV:=.agg [.int .i64 x.fanout,.int .i64 x.leaf,.int .i64 x.budget,.int .i64 x.slots,.int .i64 x.restarts]
structure Cfg.ok (x:Cfg):Prop where
 fanout:(-9223372036854775808≤x.fanout∧x.fanout≤9223372036854775807)
 leaf:(-9223372036854775808≤x.leaf∧x.leaf≤9223372036854775807)
 budget:(-9223372036854775808≤x.budget∧x.budget≤9223372036854775807)
 slots:(-9223372036854775808≤x.slots∧x.slots≤9223372036854775807)
 restarts:(-9223372036854775808≤x.restarts∧x.restarts≤9223372036854775807)
def CfgT:Ty:=.st [.int .i64,.int .i64,.int .i64,.int .i64,.int .i64]
theorem Cfg.of {c:List AV} (h:TypedC CfgT c):∃ x:Cfg,AV.agg c = x.a∧x.ok:=by
 obtain ⟨c0,r0,rfl,h0,h⟩:=z0g h
 obtain ⟨c1,r1,rfl,h1,h⟩:=z0g h
 obtain ⟨c2,r2,rfl,h2,h⟩:=z0g h
 obtain ⟨c3,r3,rfl,h3,h⟩:=z0g h
 obtain ⟨c4,r4,rfl,h4,h⟩:=z0g h
 obtain rfl:=zkw h
 obtain ⟨v0,rfl,b0⟩:=z0w h0
 obtain ⟨v1,rfl,b1⟩:=z0w h1
 obtain ⟨v2,rfl,b2⟩:=z0w h2
 obtain ⟨v3,rfl,b3⟩:=z0w h3
 obtain ⟨v4,rfl,b4⟩:=z0w h4
 exact ⟨⟨v0,v1,v2,v3,v4⟩,rfl,⟨b0,b1,b2,b3,b4⟩⟩
structure Gau where
 nodes:Int
 leaves:Int
 height:Int
 rows:Int
 msgs:Int
 bytes:Int
 empty:Int
 levels:List Int
 waits:List Int
def Gau.a (x:Gau):AV:=.agg [.int .i64 x.nodes,.int .i64 x.leaves,.int .i64 x.height,.int .i64 x.rows,.int .i64 x.msgs,.int .i64 x.bytes,.int .i64 x.empty,.sl (x.levels.map (AV.int .i64)),.sl (x.waits.map (AV.int .i64))]
structure Gau.ok (x:Gau):Prop where
 nodes:(-9223372036854775808≤x.nodes∧x.nodes≤9223372036854775807)
 leaves:(-9223372036854775808≤x.leaves∧x.leaves≤9223372036854775807)
 height:(-9223372036854775808≤x.height∧x.height≤9223372036854775807)
 rows:(-9223372036854775808≤x.rows∧x.rows≤9223372036854775807)
 msgs:(-9223372036854775808≤x.msgs∧x.msgs≤9223372036854775807)
 bytes:(-9223372036854775808≤x.bytes∧x.bytes≤9223372036854775807)
 empty:(-9223372036854775808≤x.empty∧x.empty≤9223372036854775807)
 levels:(x.levels.length≤281474976710656∧∀ z,z ∈ x.levels->(-9223372036854775808≤z∧z≤9223372036854775807))
 waits:(x.waits.length≤281474976710656∧∀ z,z ∈ x.waits->(-9223372036854775808≤z∧z≤9223372036854775807))
def GauT:Ty:=.st [.int .i64,.int .i64,.int .i64,.int .i64,.int .i64,.int .i64,.int .i64,.sl (.int .i64),.sl (.int .i64)]
theorem Gau.of {c:List AV} (h:TypedC GauT c):∃ x:Gau,AV.agg c = x.a∧x.ok:=by
 obtain ⟨c0,r0,rfl,h0,h⟩:=z0g h
 obtain ⟨c1,r1,rfl,h1,h⟩:=z0g h
 obtain ⟨c2,r2,rfl,h2,h⟩:=z0g h
 obtain ⟨c3,r3,rfl,h3,h⟩:=z0g h
 obtain ⟨c4,r4,rfl,h4,h⟩:=z0g h
 obtain ⟨c5,r5,rfl,h5,h⟩:=z0g h
 obtain ⟨c6,r6,rfl,h6,h⟩:=z0g h
 obtain ⟨c7,r7,rfl,h7,h⟩:=z0g h
 obtain ⟨c8,r8,rfl,h8,h⟩:=z0g h
 obtain rfl:=zkw h
 obtain ⟨v0,rfl,b0⟩:=z0w h0
 obtain ⟨v1,rfl,b1⟩:=z0w h1
 obtain ⟨v2,rfl,b2⟩:=z0w h2
 obtain ⟨v3,rfl,b3⟩:=z0w h3
 obtain ⟨v4,rfl,b4⟩:=z0w h4
 obtain ⟨v5,rfl,b5⟩:=z0w h5
 obtain ⟨v6,rfl,b6⟩:=z0w h6
 obtain ⟨v7,rfl,b7⟩:=zrg (AV.int .i64) (fun z:Int=>-9223372036854775808≤z∧z≤9223372036854775807) h7 (fun c hc=>by obtain ⟨v,rfl,b⟩:=z0w hc; exact ⟨v,rfl,b⟩)
 obtain ⟨v8,rfl,b8⟩:=zrg (AV.int .i64) (fun z:Int=>-9223372036854775808≤z∧z≤9223372036854775807) h8 (fun c hc=>by obtain ⟨v,rfl,b⟩:=z0w hc; exact ⟨v,rfl,b⟩)
 exact ⟨⟨v0,v1,v2,v3,v4,v5,v6,v7,v8⟩,rfl,⟨b0,b1,b2,b3,b4,b5,b6,b7,b8⟩⟩
theorem z0k {α:Type} {f:α->AV} {l:List α} {j:Nat} {x:α} (h:l[j]? = some x):(l.map f).getD j .und = f x:=by
 rw [List.getD_eq_getElem?_getD,List.getElem?_map,h]; rfl
theorem z0f {α:Type} {l:List α} {j:Nat} (h:j < l.length):∃ x,l[j]? = some x:=⟨_,List.getElem?_eq_getElem h⟩
theorem z1a {j:Nat} (h:j≤1000000000000000):IntKind.i64.wrap ((j:Int) + 1) = ((j + 1:Nat):Int):=by rw [IntWalk.i64_in _ (by omega)]; rfl
theorem z0d {α:Type} {l:List α} {j:Nat} {x:α} (h:l[j]? = some x):l.drop j = x :: l.drop (j + 1):=by
 obtain ⟨hlt,e⟩:=List.getElem?_eq_some_iff.1 h
 rw [List.drop_eq_getElem_cons hlt,e]
theorem take_at {α:Type} {l:List α} {j:Nat} {x:α} (h:l[j]? = some x):l.take (j + 1) = l.take j ++ [x]:=by
 rw [List.take_add_one,h]; rfl
end
section
open Go.RowKit
attribute [local go_sem ↓] z18 z0h
def sumN {α:Type} (f:α->Nat):List α->Nat
 | []=>0
 | x :: l=>f x + sumN f l
theorem sumN_at {α:Type} {f:α->Nat} {l:List α} {j:Nat} {x:α} (h:l[j]? = some x):sumN f (l.drop j) = f x + sumN f (l.drop (j + 1)):=by
 rw [z0d h]; rfl
theorem zdg {α:Type} {f:α->Nat}:∀ {l:List α} {x:α},x ∈ l->f x≤sumN f l
 | y :: l,x,h=>by
  show _≤f y + sumN f l
  rcases List.mem_cons.1 h with rfl | h
  ·omega
  ·have:=zdg (f:=f) h; omega
theorem zdh {α:Type} {f:α->Nat} (hf:∀ x,1≤f x):∀ l:List α,l.length≤sumN f l
 | []=>Nat.le_refl _
 | x :: l=>by
  have:=zdh hf l
  have:=hf x
  show l.length + 1≤f x + sumN f l
  omega
def Par.bulk (p:Par):Nat:=1 + p.key.size + p.val.size
def Msg.bulkN (m:Msg):Nat:=1 + m.key.size + m.hi.size + m.val.size
def z2q (s:ByteArray):Nat:=s.size + 1
def longInv (l:List AV) (most:Int) (rest:Nat->Nat) (r:Bool) (k:Nat) (σ:St):Prop :=
 ∃ (j n:Nat),j≤l.length∧k = l.length - j∧σ.T 0 = .sl l∧σ.T 1 = .int .i64 most∧σ.T 5 = .int .i64 n∧σ.T 6 = .int .i64 j∧n≤900000000000000∧decide (((n + rest j:Nat):Int)≤most) = r
def zmr:Reg:=⟨[],[⟨.mv (.c (.bool false)),some 4,none,[],[]⟩],[],[],false⟩
def zmq:Reg:=⟨[],[⟨.mv (.c (.int .i64 0)),some 5,none,[],[]⟩],[],[],false⟩
def zmp:Reg:=⟨[],[⟨.mv (.c (.int .i64 0)),some 6,none,[],[]⟩],[],[],false⟩
def za5:List ROp:=[⟨.mv (.t 6),some 7,none,[],[]⟩,⟨.mv (.t 0),some 8,none,[],[]⟩,⟨.len false (.t 8),some 9,none,[],[]⟩,⟨.bin .lss (.t 7) (.t 9),some 10,none,[],[]⟩,⟨.mv (.t 10),some 11,none,[],[]⟩,⟨.mv (.t 5),some 12,(some (11,true)),[],[]⟩,⟨.mv (.t 1),some 13,(some (11,true)),[],[]⟩,⟨.bin .leq (.t 12) (.t 13),some 14,(some (11,true)),[],[]⟩,⟨.pick (.t 11) (.t 14) (.c (.bool false)),some 15,none,[],[]⟩]
def zmo:Reg:=⟨[],za5,[],[],false⟩
def zc0:List ROp:=[⟨.mv (.t 5),some 18,none,[],[]⟩,⟨.mv (.t 0),some 19,none,[],[]⟩,⟨.mv (.t 6),some 20,none,[],[]⟩,⟨.iaddr 2 (.t 19) (.t 20),some 21,none,[],[]⟩,⟨.faddr 0 (.t 21),some 22,none,[],[]⟩,⟨.load 1 false (.t 22),some 23,none,[],[]⟩,⟨.len true (.t 23),some 24,none,[],[]⟩,⟨.bin .add (.c (.int .i64 1)) (.t 24),some 25,none,[],[]⟩,⟨.mv (.t 0),some 26,none,[],[]⟩,⟨.mv (.t 6),some 27,none,[],[]⟩,⟨.iaddr 2 (.t 26) (.t 27),some 28,none,[],[]⟩,⟨.faddr 1 (.t 28),some 29,none,[],[]⟩,⟨.load 1 false (.t 29),some 30,none,[],[]⟩,⟨.len true (.t 30),some 31,none,[],[]⟩,⟨.bin .add (.t 25) (.t 31),some 32,none,[],[]⟩]
def zmn:Reg:=⟨zc0,[⟨.bin .add (.t 18) (.t 32),some 33,none,[],[]⟩,⟨.mv (.t 33),some 5,none,[],[]⟩],[],[],true⟩
def za4:List ROp:=[⟨.mv (.t 6),some 16,none,[],[]⟩,⟨.bin .add (.t 16) (.c (.int .i64 1)),some 17,none,[],[]⟩,⟨.mv (.t 17),some 6,none,[],[]⟩]
def zmm:Reg:=⟨[],za4,[],[],false⟩
def zha:IR:=(.seq (.seq (.reg zmo)
 (.cond (.t 15) .skip
 (.exit 0)))
 (.seq (.block 1 (.reg zmn))
 (.reg zmm)))
def za3:List ROp:=[⟨.mv (.t 5),some 34,none,[],[]⟩,⟨.mv (.t 1),some 35,none,[],[]⟩,⟨.bin .leq (.t 34) (.t 35),some 36,none,[],[]⟩,⟨.mv (.t 36),some 4,none,[],[]⟩]
def zml:Reg:=⟨[],za3,[],[],false⟩
def zy6:IR:=(.seq (.reg zmr)
 (.seq (.reg zmq)
 (.seq (.seq (.reg zmp)
 (.block 0 (.loop zha)))
 (.seq (.reg zml)
 .ret))))
def zl4:List RDesc:=[(.tmp 4)]
theorem e_rLong9_0:EqR zmr [⟨.mv (.c (.bool false)),some 4,none,[],[]⟩] []:=fun _ _ _=>rfl
theorem e_rLong9_1:EqR zmq [⟨.mv (.c (.int .i64 0)),some 5,none,[],[]⟩] []:=fun _ _ _=>rfl
theorem e_rLong9_2:EqR zmp [⟨.mv (.c (.int .i64 0)),some 6,none,[],[]⟩] []:=fun _ _ _=>rfl
theorem e_rLong9_3:EqR zmo za5 []:=fun _ _ _=>rfl
theorem e_rLong9_4 (C:FuncId->List AV->AV->Prop) (σ:St) (K:St->Prop):z0l C zmn σ K = z08 C [] [⟨.bin .add (.t 18) (.t 32),some 33,none,[],[]⟩,⟨.mv (.t 33),some 5,none,[],[]⟩] zc0 (σ.kills []) K:=rfl
theorem e_rLong9_5:EqR zmm za4 []:=fun _ _ _=>rfl
theorem e_rLong9_7:EqR zml za3 []:=fun _ _ _=>rfl
theorem fn_rLong9 {args:List AV} {r:AV} (ha:args.length.ble Tryz.f37.ntmps = true) (h:run (AFn Tryz.prog) zy6 (endQ zl4 r) (z0b args)):AFn Tryz.prog 37 args r :=
 AFn.of_code (pv:=false) (hint:=fun _=>[]) (c:=Tryz.f37.body.getD .skip) (by kernel_rfl) (by kernel_rfl) Tryz.func37 (by kernel_rfl) (by kernel_rfl) (by kernel_rfl) (of_decide_eq_true (by kernel_rfl)) (Nat.le_of_ble_eq_true ha) (Nat.le_of_ble_eq_true (by kernel_rfl)) (z09 h)
def zvp:Reg:=⟨[],[⟨.mv (.c (.bool false)),some 4,none,[],[]⟩],[],[],false⟩
def zvo:Reg:=⟨[],[⟨.mv (.c (.int .i64 0)),some 5,none,[],[]⟩],[],[],false⟩
def zvn:Reg:=⟨[],[⟨.mv (.c (.int .i64 0)),some 6,none,[],[]⟩],[],[],false⟩
def zf1:List ROp:=[⟨.mv (.t 6),some 7,none,[],[]⟩,⟨.mv (.t 0),some 8,none,[],[]⟩,⟨.len false (.t 8),some 9,none,[],[]⟩,⟨.bin .lss (.t 7) (.t 9),some 10,none,[],[]⟩,⟨.mv (.t 10),some 11,none,[],[]⟩,⟨.mv (.t 5),some 12,(some (11,true)),[],[]⟩,⟨.mv (.t 1),some 13,(some (11,true)),[],[]⟩,⟨.bin .leq (.t 12) (.t 13),some 14,(some (11,true)),[],[]⟩,⟨.pick (.t 11) (.t 14) (.c (.bool false)),some 15,none,[],[]⟩]
def zvm:Reg:=⟨[],zf1,[],[],false⟩
def zjl:List ROp:=[⟨.mv (.t 5),some 18,none,[],[]⟩,⟨.mv (.t 0),some 19,none,[],[]⟩,⟨.mv (.t 6),some 20,none,[],[]⟩,⟨.iaddr 6 (.t 19) (.t 20),some 21,none,[],[]⟩,⟨.faddr 2 (.t 21),some 22,none,[],[]⟩,⟨.load 1 false (.t 22),some 23,none,[],[]⟩,⟨.len true (.t 23),some 24,none,[],[]⟩,⟨.bin .add (.c (.int .i64 1)) (.t 24),some 25,none,[],[]⟩,⟨.mv (.t 0),some 26,none,[],[]⟩,⟨.mv (.t 6),some 27,none,[],[]⟩,⟨.iaddr 6 (.t 26) (.t 27),some 28,none,[],[]⟩,⟨.faddr 3 (.t 28),some 29,none,[],[]⟩,⟨.load 1 false (.t 29),some 30,none,[],[]⟩,⟨.len true (.t 30),some 31,none,[],[]⟩,⟨.bin .add (.t 25) (.t 31),some 32,none,[],[]⟩,⟨.mv (.t 0),some 33,none,[],[]⟩,⟨.mv (.t 6),some 34,none,[],[]⟩,⟨.iaddr 6 (.t 33) (.t 34),some 35,none,[],[]⟩,⟨.faddr 5 (.t 35),some 36,none,[],[]⟩,⟨.load 1 false (.t 36),some 37,none,[],[]⟩,⟨.len true (.t 37),some 38,none,[],[]⟩,⟨.bin .add (.t 32) (.t 38),some 39,none,[],[]⟩]
def zvl:Reg:=⟨zjl,[⟨.bin .add (.t 18) (.t 39),some 40,none,[],[]⟩,⟨.mv (.t 40),some 5,none,[],[]⟩],[],[],true⟩
def zf0:List ROp:=[⟨.mv (.t 6),some 16,none,[],[]⟩,⟨.bin .add (.t 16) (.c (.int .i64 1)),some 17,none,[],[]⟩,⟨.mv (.t 17),some 6,none,[],[]⟩]
def zvk:Reg:=⟨[],zf0,[],[],false⟩
def zn0:IR:=(.seq (.seq (.reg zvm)
 (.cond (.t 15) .skip
 (.exit 0)))
 (.seq (.block 1 (.reg zvl))
 (.reg zvk)))
def zez:List ROp:=[⟨.mv (.t 5),some 41,none,[],[]⟩,⟨.mv (.t 1),some 42,none,[],[]⟩,⟨.bin .leq (.t 41) (.t 42),some 43,none,[],[]⟩,⟨.mv (.t 43),some 4,none,[],[]⟩]
def zvj:Reg:=⟨[],zez,[],[],false⟩
def y79:IR:=(.seq (.reg zvp)
 (.seq (.reg zvo)
 (.seq (.seq (.reg zvn)
 (.block 0 (.loop zn0)))
 (.seq (.reg zvj)
 .ret))))
def ztm:List RDesc:=[(.tmp 4)]
theorem e_rFewN_0:EqR zvp [⟨.mv (.c (.bool false)),some 4,none,[],[]⟩] []:=fun _ _ _=>rfl
theorem e_rFewN_1:EqR zvo [⟨.mv (.c (.int .i64 0)),some 5,none,[],[]⟩] []:=fun _ _ _=>rfl
theorem e_rFewN_2:EqR zvn [⟨.mv (.c (.int .i64 0)),some 6,none,[],[]⟩] []:=fun _ _ _=>rfl
theorem e_rFewN_3:EqR zvm zf1 []:=fun _ _ _=>rfl
theorem e_rFewN_4 (C:FuncId->List AV->AV->Prop) (σ:St) (K:St->Prop):z0l C zvl σ K = z08 C [] [⟨.bin .add (.t 18) (.t 39),some 40,none,[],[]⟩,⟨.mv (.t 40),some 5,none,[],[]⟩] zjl (σ.kills []) K:=rfl
theorem e_rFewN_5:EqR zvk zf0 []:=fun _ _ _=>rfl
theorem e_rFewN_7:EqR zvj zez []:=fun _ _ _=>rfl
theorem fn_rFewN {args:List AV} {r:AV} (ha:args.length.ble Tryz.f39.ntmps = true) (h:run (AFn Tryz.prog) y79 (endQ ztm r) (z0b args)):AFn Tryz.prog 39 args r :=
 AFn.of_code (pv:=false) (hint:=fun _=>[]) (c:=Tryz.f39.body.getD .skip) (by kernel_rfl) (by kernel_rfl) Tryz.func39 (by kernel_rfl) (by kernel_rfl) (by kernel_rfl) (of_decide_eq_true (by kernel_rfl)) (Nat.le_of_ble_eq_true ha) (Nat.le_of_ble_eq_true (by kernel_rfl)) (z09 h)
def zmy:Reg:=⟨[],[⟨.mv (.c (.int .i64 0)),some 4,none,[],[]⟩],[],[],false⟩
def zmx:Reg:=⟨[],[⟨.mv (.c (.int .i64 0)),some 5,none,[],[]⟩],[],[],false⟩
def zmw:Reg:=⟨[],[⟨.mv (.c (.int .i64 0)),some 6,none,[],[]⟩],[],[],false⟩
def za8:List ROp:=[⟨.mv (.t 6),some 7,none,[],[]⟩,⟨.mv (.t 0),some 8,none,[],[]⟩,⟨.len false (.t 8),some 9,none,[],[]⟩,⟨.bin .lss (.t 7) (.t 9),some 10,none,[],[]⟩,⟨.mv (.t 10),some 11,none,[],[]⟩,⟨.mv (.t 5),some 12,(some (11,true)),[],[]⟩,⟨.mv (.t 1),some 13,(some (11,true)),[],[]⟩,⟨.bin .leq (.t 12) (.t 13),some 14,(some (11,true)),[],[]⟩,⟨.pick (.t 11) (.t 14) (.c (.bool false)),some 15,none,[],[]⟩]
def zmv:Reg:=⟨[],za8,[],[],false⟩
def za7:List ROp:=[⟨.mv (.t 5),some 18,none,[],[]⟩,⟨.mv (.t 0),some 19,none,[],[]⟩,⟨.mv (.t 6),some 20,none,[],[]⟩,⟨.iaddr 1 (.t 19) (.t 20),some 21,none,[],[]⟩,⟨.load 1 false (.t 21),some 22,none,[],[]⟩,⟨.len true (.t 22),some 23,none,[],[]⟩,⟨.bin .add (.t 23) (.c (.int .i64 1)),some 24,none,[],[]⟩,⟨.bin .add (.t 18) (.t 24),some 25,none,[],[]⟩,⟨.mv (.t 25),some 5,none,[],[]⟩]
def zmu:Reg:=⟨[],za7,[],[],false⟩
def za6:List ROp:=[⟨.mv (.t 6),some 16,none,[],[]⟩,⟨.bin .add (.t 16) (.c (.int .i64 1)),some 17,none,[],[]⟩,⟨.mv (.t 17),some 6,none,[],[]⟩]
def zmt:Reg:=⟨[],za6,[],[],false⟩
def zhb:IR:=(.seq (.seq (.reg zmv)
 (.cond (.t 15) .skip
 (.exit 0)))
 (.seq (.block 1 (.reg zmu))
 (.reg zmt)))
def zms:Reg:=⟨[],[⟨.mv (.t 5),some 26,none,[],[]⟩,⟨.mv (.t 26),some 4,none,[],[]⟩],[],[],false⟩
def zy7:IR:=(.seq (.reg zmy)
 (.seq (.reg zmx)
 (.seq (.seq (.reg zmw)
 (.block 0 (.loop zhb)))
 (.seq (.reg zms)
 .ret))))
def zl5:List RDesc:=[(.tmp 4)]
theorem e_rLong1_0:EqR zmy [⟨.mv (.c (.int .i64 0)),some 4,none,[],[]⟩] []:=fun _ _ _=>rfl
theorem e_rLong1_1:EqR zmx [⟨.mv (.c (.int .i64 0)),some 5,none,[],[]⟩] []:=fun _ _ _=>rfl
theorem e_rLong1_2:EqR zmw [⟨.mv (.c (.int .i64 0)),some 6,none,[],[]⟩] []:=fun _ _ _=>rfl
theorem e_rLong1_3:EqR zmv za8 []:=fun _ _ _=>rfl
theorem e_rLong1_4:EqR zmu za7 []:=fun _ _ _=>rfl
theorem e_rLong1_5:EqR zmt za6 []:=fun _ _ _=>rfl
theorem e_rLong1_7:EqR zms [⟨.mv (.t 5),some 26,none,[],[]⟩,⟨.mv (.t 26),some 4,none,[],[]⟩] []:=fun _ _ _=>rfl
theorem fn_rLong1 {args:List AV} {r:AV} (ha:args.length.ble Tryz.f38.ntmps = true) (h:run (AFn Tryz.prog) zy7 (endQ zl5 r) (z0b args)):AFn Tryz.prog 38 args r :=
 AFn.of_code (pv:=false) (hint:=fun _=>[]) (c:=Tryz.f38.body.getD .skip) (by kernel_rfl) (by kernel_rfl) Tryz.func38 (by kernel_rfl) (by kernel_rfl) (by kernel_rfl) (of_decide_eq_true (by kernel_rfl)) (Nat.le_of_ble_eq_true ha) (Nat.le_of_ble_eq_true (by kernel_rfl)) (z09 h)
attribute [local go_sem ↓] zy6
attribute [local go_sem] zl4 e_rLong9_0 e_rLong9_1 e_rLong9_2 e_rLong9_3 za5 e_rLong9_4 zc0 e_rLong9_5 za4 e_rLong9_7 za3
attribute [local go_sem ↓] y79
attribute [local go_sem] ztm e_rFewN_0 e_rFewN_1 e_rFewN_2 e_rFewN_3 zf1 e_rFewN_4 zjl e_rFewN_5 zf0 e_rFewN_7 zez
attribute [local go_sem ↓] zy7
attribute [local go_sem] zl5 e_rLong1_0 e_rLong1_1 e_rLong1_2 e_rLong1_3 za8 e_rLong1_4 za7 e_rLong1_5 za6 e_rLong1_7
theorem rLong9_ok (l:List Par) (most:Int) (h1:0≤most) (h2:most≤1000000) (hs:∀ m,m ∈ l->m.key.size≤281474976710656∧m.val.size≤281474976710656) (hl:l.length≤281474976710656) :
  AFn Tryz.prog 37 [.sl (l.map Par.a),.int .i64 most] (.bool (decide ((sumN Par.bulk l:Int)≤most))):=by
 refine fn_rLong9 rfl ?_
 simp (maxSteps:=9^7) only [go_sem,Msg.a,Par.a,Nd.a]
 refine z06 (longInv (l.map Par.a) most (fun j=>sumN Par.bulk (l.drop j)) (decide ((sumN Par.bulk l:Int)≤most))) (k:=(l.map Par.a).length) ⟨0,0,by omega,rfl,rfl,rfl,rfl,rfl,by omega,?_⟩ ?_
 ·simp
 rintro k σ ⟨j,n,hj,rfl,t0,t1,t5,t6,hn2,hr⟩
 rw [List.length_map] at hj
 simp only [zha]
 by_cases hlt:j < l.length
 ·have hlt':(j:Int) < (l.length:Int):=by omega
  by_cases hm:(n:Int)≤most
  ·obtain ⟨x,hx⟩:=z0f hlt
   have hgj:=z0k (f:=Par.a) hx
   simp only [Par.a] at hgj
   have hw:=z1a (j:=j) (by omega)
   obtain ⟨s1,s3⟩:=hs x (List.mem_of_getElem? hx)
   have w1:IntKind.i64.wrap (1 + (x.key.size:Int)) = 1 + (x.key.size:Int):=IntWalk.i64_in _ (by omega)
   have w3:IntKind.i64.wrap (1 + (x.key.size:Int) + (x.val.size:Int)) = 1 + (x.key.size:Int) + (x.val.size:Int):=IntWalk.i64_in _ (by omega)
   have w4:IntKind.i64.wrap ((n:Int) + (1 + (x.key.size:Int) + (x.val.size:Int))) = ((n + x.bulk:Nat):Int):=by
    rw [IntWalk.i64_in _ (by omega)]; unfold Par.bulk; omega
   simp only [sumN_at hx] at hr
   simp (maxSteps:=9^7) only [go_sem,Msg.a,Par.a,Nd.a,t0,t1,t5,t6,hlt',hm,hgj,List.length_map,Int.toNat_natCast,w1,w3,w4,hw]
   (repeat refine And.intro (by omega) ?_)
   refine ⟨l.length - (j + 1),by omega,j + 1,n + x.bulk,by rw [List.length_map]; omega,by rw [List.length_map],?_,?_,?_,?_,by unfold Par.bulk; omega,?_⟩
   iterate 4 focus ((simp (maxSteps:=9^7) only [go_sem,Msg.a,Par.a,Nd.a,t0,t1,t5,t6]) <;> rfl)
   ·rw [← hr,Nat.add_assoc]
  ·simp (maxSteps:=9^7) only [go_sem,Msg.a,Par.a,Nd.a,t0,t1,t5,t6,hlt',hm,List.length_map]
   have:¬ ((n + sumN Par.bulk (l.drop j):Nat):Int)≤most:=by omega
   simp only [decide_eq_false this] at hr
   exact of_decide_eq_false hr.symm
 ·have hlt':¬ (j:Int) < (l.length:Int):=by omega
  simp (maxSteps:=9^7) only [go_sem,Msg.a,Par.a,Nd.a,t0,t1,t5,t6,hlt',List.length_map]
  rw [← hr]
  show decide (((n + sumN Par.bulk (l.drop j):Nat):Int)≤most) = _
  rw [List.drop_eq_nil_of_le (by omega)]
  exact decide_eq_decide.2 Iff.rfl
theorem rFewN_ok (l:List Msg) (most:Int) (h1:0≤most) (h2:most≤1000000) (hs:∀ m,m ∈ l->m.key.size≤281474976710656∧m.hi.size≤281474976710656∧m.val.size≤281474976710656) (hl:l.length≤281474976710656) :
  AFn Tryz.prog 39 [.sl (l.map Msg.a),.int .i64 most] (.bool (decide ((sumN Msg.bulkN l:Int)≤most))):=by
 refine fn_rFewN rfl ?_
 simp (maxSteps:=9^7) only [go_sem,Msg.a,Par.a,Nd.a]
 refine z06 (longInv (l.map Msg.a) most (fun j=>sumN Msg.bulkN (l.drop j)) (decide ((sumN Msg.bulkN l:Int)≤most))) (k:=(l.map Msg.a).length) ⟨0,0,by omega,rfl,rfl,rfl,rfl,rfl,by omega,?_⟩ ?_
 ·simp
 rintro k σ ⟨j,n,hj,rfl,t0,t1,t5,t6,hn2,hr⟩
 rw [List.length_map] at hj
 simp only [zn0]
 by_cases hlt:j < l.length
 ·have hlt':(j:Int) < (l.length:Int):=by omega
  by_cases hm:(n:Int)≤most
  ·obtain ⟨x,hx⟩:=z0f hlt
   have hgj:=z0k (f:=Msg.a) hx
   simp only [Msg.a] at hgj
   have hw:=z1a (j:=j) (by omega)
   obtain ⟨s1,s2,s3⟩:=hs x (List.mem_of_getElem? hx)
   have w1:IntKind.i64.wrap (1 + (x.key.size:Int)) = 1 + (x.key.size:Int):=IntWalk.i64_in _ (by omega)
   have w2:IntKind.i64.wrap (1 + (x.key.size:Int) + (x.hi.size:Int)) = 1 + (x.key.size:Int) + (x.hi.size:Int):=IntWalk.i64_in _ (by omega)
   have w3:IntKind.i64.wrap (1 + (x.key.size:Int) + (x.hi.size:Int) + (x.val.size:Int)) = 1 + (x.key.size:Int) + (x.hi.size:Int) + (x.val.size:Int):=IntWalk.i64_in _ (by omega)
   have w4:IntKind.i64.wrap ((n:Int) + (1 + (x.key.size:Int) + (x.hi.size:Int) + (x.val.size:Int))) = ((n + x.bulkN:Nat):Int):=by
    rw [IntWalk.i64_in _ (by omega)]; unfold Msg.bulkN; omega
   simp only [sumN_at hx] at hr
   simp (maxSteps:=9^7) only [go_sem,Msg.a,Par.a,Nd.a,t0,t1,t5,t6,hlt',hm,hgj,List.length_map,Int.toNat_natCast,w1,w2,w3,w4,hw]
   (repeat refine And.intro (by omega) ?_)
   refine ⟨l.length - (j + 1),by omega,j + 1,n + x.bulkN,by rw [List.length_map]; omega,by rw [List.length_map],?_,?_,?_,?_,by unfold Msg.bulkN; omega,?_⟩
   iterate 4 focus ((simp (maxSteps:=9^7) only [go_sem,Msg.a,Par.a,Nd.a,t0,t1,t5,t6]) <;> rfl)
   ·rw [← hr,Nat.add_assoc]
  ·simp (maxSteps:=9^7) only [go_sem,Msg.a,Par.a,Nd.a,t0,t1,t5,t6,hlt',hm,List.length_map]
   have:¬ ((n + sumN Msg.bulkN (l.drop j):Nat):Int)≤most:=by omega
   simp only [decide_eq_false this] at hr
   exact of_decide_eq_false hr.symm
 ·have hlt':¬ (j:Int) < (l.length:Int):=by omega
  simp (maxSteps:=9^7) only [go_sem,Msg.a,Par.a,Nd.a,t0,t1,t5,t6,hlt',List.length_map]
  rw [← hr]
  show decide (((n + sumN Msg.bulkN (l.drop j):Nat):Int)≤most) = _
  rw [List.drop_eq_nil_of_le (by omega)]
  exact decide_eq_decide.2 Iff.rfl
def sGo (most:Int):Nat->List ByteArray->Nat
 | n,[]=>n
 | n,x :: l=>if (n:Int)≤most then sGo most (n + z2q x) l else n
theorem sGo_iff (most:Int):∀ (l:List ByteArray) (n:Nat),decide (most < (sGo most n l:Int)) = !decide (((n + sumN z2q l:Nat):Int)≤most)
 | [],n=>by
  show decide (most < (n:Int)) = !decide (((n + 0:Nat):Int)≤most)
  by_cases h:(n:Int)≤most
  ·rw [decide_eq_false (by omega),decide_eq_true (by omega)]; rfl
  ·rw [decide_eq_true (by omega),decide_eq_false (by omega)]; rfl
 | x :: l,n=>by
  rw [sGo]
  by_cases h:(n:Int)≤most
  ·rw [if_pos h,sGo_iff most l (n + z2q x),Nat.add_assoc]; rfl
  ·rw [if_neg h,decide_eq_true (by omega),decide_eq_false (by omega)]; rfl
def long1Inv (l:List ByteArray) (most:Int) (r:Nat) (k:Nat) (σ:St):Prop :=
 ∃ (j n:Nat),j≤l.length∧k = l.length - j∧σ.T 0 = .sl (l.map .str)∧σ.T 1 = .int .i64 most∧σ.T 5 = .int .i64 n∧σ.T 6 = .int .i64 j∧n≤900000000000000∧sGo most n (l.drop j) = r
theorem rLong1_ok (l:List ByteArray) (most:Int) (h1:0≤most) (h2:most≤1000000) (hs:∀ m,m ∈ l->m.size≤281474976710656) (hl:l.length≤281474976710656) :
  AFn Tryz.prog 38 [.sl (l.map .str),.int .i64 most] (.int .i64 (sGo most 0 l:Int)):=by
 refine fn_rLong1 rfl ?_
 simp (maxSteps:=9^7) only [go_sem,Msg.a,Par.a,Nd.a]
 refine z06 (long1Inv l most (sGo most 0 l)) (k:=l.length) ⟨0,0,by omega,rfl,rfl,rfl,rfl,rfl,by omega,?_⟩ ?_
 ·rfl
 rintro k σ ⟨j,n,hj,rfl,t0,t1,t5,t6,hn2,hr⟩
 simp only [zhb]
 by_cases hlt:j < l.length
 ·have hlt':(j:Int) < (l.length:Int):=by omega
  obtain ⟨x,hx⟩:=z0f hlt
  rw [z0d hx,sGo] at hr
  by_cases hm:(n:Int)≤most
  ·have hgj:=z0k (f:=AV.str) hx
   have hw:=z1a (j:=j) (by omega)
   have s1:=hs x (List.mem_of_getElem? hx)
   have w1:IntKind.i64.wrap ((x.size:Int) + 1) = (x.size:Int) + 1:=IntWalk.i64_in _ (by omega)
   have w4:IntKind.i64.wrap ((n:Int) + ((x.size:Int) + 1)) = ((n + z2q x:Nat):Int):=by
    rw [IntWalk.i64_in _ (by omega)]; unfold z2q; omega
   rw [if_pos hm] at hr
   simp (maxSteps:=9^7) only [go_sem,Msg.a,Par.a,Nd.a,t0,t1,t5,t6,hlt',hm,hgj,List.length_map,Int.toNat_natCast,w1,w4,hw]
   (repeat refine And.intro (by omega) ?_)
   refine ⟨l.length - (j + 1),by omega,j + 1,n + z2q x,by omega,rfl,?_,?_,?_,?_,by unfold z2q; omega,hr⟩ <;> (simp (maxSteps:=9^7) only [go_sem,Msg.a,Par.a,Nd.a,t0,t1,t5,t6])
  ·rw [if_neg hm] at hr
   simp (maxSteps:=9^7) only [go_sem,Msg.a,Par.a,Nd.a,t0,t1,t5,t6,hlt',hm,List.length_map,← hr]
 ·have hlt':¬ (j:Int) < (l.length:Int):=by omega
  rw [List.drop_eq_nil_of_le (by omega),sGo] at hr
  simp (maxSteps:=9^7) only [go_sem,Msg.a,Par.a,Nd.a,t0,t1,t5,t6,hlt',List.length_map,← hr]
def Nd.light (most:Int) (x:Nd):Bool:=decide ((sumN Par.bulk x.rows:Int)≤most) && decide ((sumN z2q x.pivots:Int)≤most) && decide ((x.kids.length:Int)≤most) && decide ((sumN Msg.bulkN x.msgs:Int)≤most) && decide ((x.high.size:Int)≤most)
def zpi (l:List Nd) (n most:Int):Bool:=decide ((l.length:Int)≤n) && l.all (Nd.light most)
def zwy:Reg:=⟨[],[⟨.mv (.c (.bool false)),some 6,none,[],[]⟩],[],[],false⟩
def zfn:List ROp:=[⟨.mv (.t 0),some 8,none,[],[]⟩,⟨.len false (.t 8),some 9,none,[],[]⟩,⟨.mv (.t 1),some 10,none,[],[]⟩,⟨.bin .gtr (.t 9) (.t 10),some 11,none,[],[]⟩]
def zwx:Reg:=⟨[],zfn,[],[],false⟩
def zww:Reg:=⟨[],[⟨.mv (.c (.bool false)),some 6,none,[],[]⟩],[],[],false⟩
def zwv:Reg:=⟨[],[⟨.mv (.c (.int .i64 0)),some 7,none,[],[]⟩],[],[],false⟩
def zfm:List ROp:=[⟨.mv (.t 7),some 12,none,[],[]⟩,⟨.mv (.t 0),some 13,none,[],[]⟩,⟨.len false (.t 13),some 14,none,[],[]⟩,⟨.bin .lss (.t 12) (.t 14),some 15,none,[],[]⟩]
def zwu:Reg:=⟨[],zfm,[],[],false⟩
def zfl:List ROp:=[⟨.mv (.t 0),some 18,none,[24,33,54],[]⟩,⟨.mv (.t 7),some 19,none,[24,33,54],[]⟩,⟨.iaddr 10 (.t 18) (.t 19),some 20,none,[24,33,54],[]⟩,⟨.faddr 9 (.t 20),some 21,none,[24,33,54],[]⟩,⟨.load 1 false (.t 21),some 22,none,[24,33,54],[]⟩,⟨.mv (.t 2),some 23,none,[24,33,54],[]⟩,⟨.callv (.c (.clo 37 [] [])) [(.t 22),(.t 23)],some 24,none,[33,54],[]⟩,⟨.un .not (.t 24),some 25,none,[33,54],[]⟩,⟨.mv (.t 25),some 26,none,[33,54],[]⟩,⟨.mv (.t 0),some 27,(some (26,false)),[33,54],[]⟩,⟨.mv (.t 7),some 28,(some (26,false)),[33,54],[]⟩,⟨.iaddr 10 (.t 27) (.t 28),some 29,(some (26,false)),[33,54],[]⟩,⟨.faddr 2 (.t 29),some 30,(some (26,false)),[33,54],[]⟩,⟨.load 1 false (.t 30),some 31,(some (26,false)),[33,54],[]⟩,⟨.mv (.t 2),some 32,(some (26,false)),[33,54],[]⟩,⟨.callv (.c (.clo 38 [] [])) [(.t 31),(.t 32)],some 33,(some (26,false)),[54],[]⟩,⟨.mv (.t 2),some 34,(some (26,false)),[54],[]⟩,⟨.bin .gtr (.t 33) (.t 34),some 35,(some (26,false)),[54],[]⟩,⟨.pick (.t 26) (.c (.bool true)) (.t 35),some 36,none,[54],[]⟩,⟨.mv (.t 36),some 37,none,[54],[]⟩,⟨.mv (.t 0),some 38,(some (37,false)),[54],[]⟩,⟨.mv (.t 7),some 39,(some (37,false)),[54],[]⟩,⟨.iaddr 10 (.t 38) (.t 39),some 40,(some (37,false)),[54],[]⟩,⟨.faddr 3 (.t 40),some 41,(some (37,false)),[54],[]⟩,⟨.load 1 false (.t 41),some 42,(some (37,false)),[54],[]⟩,⟨.len false (.t 42),some 43,(some (37,false)),[54],[]⟩,⟨.mv (.t 2),some 44,(some (37,false)),[54],[]⟩,⟨.bin .gtr (.t 43) (.t 44),some 45,(some (37,false)),[54],[]⟩,⟨.pick (.t 37) (.c (.bool true)) (.t 45),some 46,none,[54],[]⟩,⟨.mv (.t 46),some 47,none,[54],[]⟩,⟨.mv (.t 0),some 48,(some (47,false)),[54],[]⟩,⟨.mv (.t 7),some 49,(some (47,false)),[54],[]⟩,⟨.iaddr 10 (.t 48) (.t 49),some 50,(some (47,false)),[54],[]⟩,⟨.faddr 8 (.t 50),some 51,(some (47,false)),[54],[]⟩,⟨.load 1 false (.t 51),some 52,(some (47,false)),[54],[]⟩,⟨.mv (.t 2),some 53,(some (47,false)),[54],[]⟩,⟨.callv (.c (.clo 39 [] [])) [(.t 52),(.t 53)],some 54,(some (47,false)),[],[]⟩,⟨.un .not (.t 54),some 55,(some (47,false)),[],[]⟩,⟨.pick (.t 47) (.c (.bool true)) (.t 55),some 56,none,[],[]⟩,⟨.mv (.t 56),some 57,none,[],[]⟩,⟨.mv (.t 0),some 58,(some (57,false)),[],[]⟩,⟨.mv (.t 7),some 59,(some (57,false)),[],[]⟩,⟨.iaddr 10 (.t 58) (.t 59),some 60,(some (57,false)),[],[]⟩,⟨.faddr 4 (.t 60),some 61,(some (57,false)),[],[]⟩,⟨.load 1 false (.t 61),some 62,(some (57,false)),[],[]⟩,⟨.len true (.t 62),some 63,(some (57,false)),[],[]⟩,⟨.mv (.t 2),some 64,(some (57,false)),[],[]⟩,⟨.bin .gtr (.t 63) (.t 64),some 65,(some (57,false)),[],[]⟩,⟨.pick (.t 57) (.c (.bool true)) (.t 65),some 66,none,[],[]⟩]
def zwt:Reg:=⟨[],zfl,[24,33,54],[],false⟩
def zws:Reg:=⟨[],[⟨.mv (.c (.bool false)),some 6,none,[],[]⟩],[],[],false⟩
def zfk:List ROp:=[⟨.mv (.t 7),some 16,none,[],[]⟩,⟨.bin .add (.t 16) (.c (.int .i64 1)),some 17,none,[],[]⟩,⟨.mv (.t 17),some 7,none,[],[]⟩]
def zwr:Reg:=⟨[],zfk,[],[],false⟩
def zo5:IR:=(.seq (.seq (.reg zwu)
 (.cond (.t 15) .skip
 (.exit 0)))
 (.seq (.block 1 (.seq (.reg zwt)
 (.cond (.t 66) (.seq (.reg zws)
 .ret)
 .skip)))
 (.reg zwr)))
def zwq:Reg:=⟨[],[⟨.mv (.c (.bool true)),some 6,none,[],[]⟩],[],[],false⟩
def y7d:IR:=(.seq (.reg zwy)
 (.seq (.seq (.reg zwx)
 (.cond (.t 11) (.seq (.reg zww)
 .ret)
 .skip))
 (.seq (.seq (.reg zwv)
 (.block 0 (.loop zo5)))
 (.seq (.reg zwq)
 .ret))))
def ztq:List RDesc:=[(.tmp 6)]
theorem e_light_0:EqR zwy [⟨.mv (.c (.bool false)),some 6,none,[],[]⟩] []:=fun _ _ _=>rfl
theorem e_light_1:EqR zwx zfn []:=fun _ _ _=>rfl
theorem e_light_2:EqR zww [⟨.mv (.c (.bool false)),some 6,none,[],[]⟩] []:=fun _ _ _=>rfl
theorem e_light_3:EqR zwv [⟨.mv (.c (.int .i64 0)),some 7,none,[],[]⟩] []:=fun _ _ _=>rfl
theorem e_light_4:EqR zwu zfm []:=fun _ _ _=>rfl
theorem e_light_5:EqR zwt zfl [24,33,54]:=fun _ _ _=>rfl
theorem e_light_6:EqR zws [⟨.mv (.c (.bool false)),some 6,none,[],[]⟩] []:=fun _ _ _=>rfl
theorem e_light_7:EqR zwr zfk []:=fun _ _ _=>rfl
theorem e_light_9:EqR zwq [⟨.mv (.c (.bool true)),some 6,none,[],[]⟩] []:=fun _ _ _=>rfl
theorem fn_light {args:List AV} {r:AV} (ha:args.length.ble Tryz.f13.ntmps = true) (h:run (AFn Tryz.prog) y7d (endQ ztq r) (z0b args)):AFn Tryz.prog 13 args r :=
 AFn.of_code (pv:=false) (hint:=fun _=>[]) (c:=Tryz.f13.body.getD .skip) (by kernel_rfl) (by kernel_rfl) Tryz.func13 (by kernel_rfl) (by kernel_rfl) (by kernel_rfl) (of_decide_eq_true (by kernel_rfl)) (Nat.le_of_ble_eq_true ha) (Nat.le_of_ble_eq_true (by kernel_rfl)) (z09 h)
attribute [local go_sem ↓] y7d
attribute [local go_sem] ztq e_light_0 e_light_1 zfn e_light_2 e_light_3 e_light_4 zfm e_light_5 zfl e_light_6 e_light_7 zfk e_light_9
def lightInv (l:List Nd) (n most:Int) (r:Bool) (k:Nat) (σ:St):Prop :=
 ∃ j:Nat,j≤l.length∧k = l.length - j∧σ.T 0 = .sl (l.map Nd.a)∧σ.T 2 = .int .i64 most∧σ.T 7 = .int .i64 j∧(l.drop j).all (Nd.light most) = r
theorem light_ok (l:List Nd) (n most:Int) (h1:0≤most) (h2:most≤1000000) (hs:∀ x,x ∈ l->x.ok) (hl:l.length≤281474976710656) :
  AFn Tryz.prog 13 [.sl (l.map Nd.a),.int .i64 n,.int .i64 most] (.bool (zpi l n most)):=by
 refine fn_light rfl ?_
 unfold zpi
 by_cases hn:(l.length:Int)≤n
 case neg =>
  have hn':n < (l.length:Int):=by omega
  rw [decide_eq_false hn]
  simp (maxSteps:=9^7) only [go_sem,Msg.a,Par.a,Nd.a,hn',List.length_map,Bool.false_and]
 have hn':¬ n < (l.length:Int):=by omega
 rw [decide_eq_true hn]
 obtain ⟨R,hR⟩:∃ R,l.all (Nd.light most) = R:=⟨_,rfl⟩
 rw [hR]
 simp (maxSteps:=9^7) only [go_sem,Msg.a,Par.a,Nd.a,hn',List.length_map,Bool.true_and]
 refine z06 (lightInv l n most R) (k:=l.length) ⟨0,by omega,rfl,rfl,rfl,rfl,hR⟩ ?_
 clear hR
 rintro k σ ⟨j,hj,rfl,t0,t2,t7,hr⟩
 simp only [zo5]
 by_cases hlt:j < l.length
 ·have hlt':(j:Int) < (l.length:Int):=by omega
  obtain ⟨x,hx⟩:=z0f hlt
  have hgj:=z0k (f:=Nd.a) hx
  simp only [Nd.a] at hgj
  have hw:=z1a (j:=j) (by omega)
  have ok:=hs x (List.mem_of_getElem? hx)
  have c1:=rLong9_ok x.rows most h1 h2 (fun m hm=>⟨(ok.rows.2 m hm).key,(ok.rows.2 m hm).val⟩) ok.rows.1
  have c2:=rLong1_ok x.pivots most h1 h2 ok.pivots.2 ok.pivots.1
  have c3:=rFewN_ok x.msgs most h1 h2 (fun m hm=>⟨(ok.msgs.2 m hm).key,(ok.msgs.2 m hm).hi,(ok.msgs.2 m hm).val⟩) ok.msgs.1
  have e2:=sGo_iff most x.pivots 0
  rw [z0d hx,List.all_cons] at hr
  unfold Nd.light at hr
  rw [Nat.zero_add] at e2
  have z0:IntKind.i64.wrap (j:Int) = (j:Int):=IntWalk.i64_in _ (by omega)
  cases q1:decide ((sumN Par.bulk x.rows:Int)≤most) with
  | false =>
   rw [q1] at c1 hr
   simp only [Bool.false_and] at hr
   (repeat (first | simp (maxSteps:=9^7) only [go_sem,Msg.a,Par.a,Nd.a,t0,t2,t7,hlt',hgj,List.length_map,Int.toNat_natCast,← hr] | refine z01 (c1) ?_ | refine z00 (c1) ?_ | refine And.intro (by omega) ?_ | refine And.intro (fun d hd=>by (repeat (rcases hd with rfl | hd; · exact ⟨rfl,rfl⟩)); cases hd) ?_))
  | true =>
   rw [q1] at c1 hr
   cases q2:decide ((sumN z2q x.pivots:Int)≤most) with
   | false =>
    rw [q2] at e2 hr
    have e3:=of_decide_eq_true e2
    simp only [Bool.false_and,Bool.and_false] at hr
    (repeat (first | simp (maxSteps:=9^7) only [go_sem,Msg.a,Par.a,Nd.a,t0,t2,t7,hlt',hgj,List.length_map,Int.toNat_natCast,e3,← hr] | refine z01 (c1) ?_ | refine z00 (c1) ?_ | refine z01 (c2) ?_ | refine z00 (c2) ?_ | refine And.intro (by omega) ?_ | refine And.intro (fun d hd=>by (repeat (rcases hd with rfl | hd; · exact ⟨rfl,rfl⟩)); cases hd) ?_))
   | true =>
    rw [q2] at e2 hr
    have e3:=of_decide_eq_false e2
    by_cases q3:(x.kids.length:Int)≤most
    case neg =>
     rw [decide_eq_false q3] at hr
     have q3':most < (x.kids.length:Int):=by omega
     simp only [Bool.false_and,Bool.and_false] at hr
     (repeat (first | simp (maxSteps:=9^7) only [go_sem,Msg.a,Par.a,Nd.a,t0,t2,t7,hlt',hgj,List.length_map,Int.toNat_natCast,e3,q3',← hr] | refine z01 (c1) ?_ | refine z00 (c1) ?_ | refine z01 (c2) ?_ | refine z00 (c2) ?_ | refine And.intro (by omega) ?_ | refine And.intro (fun d hd=>by (repeat (rcases hd with rfl | hd; · exact ⟨rfl,rfl⟩)); cases hd) ?_))
     all_goals omega
    rw [decide_eq_true q3] at hr
    have q3':¬ most < (x.kids.length:Int):=by omega
    cases q4:decide ((sumN Msg.bulkN x.msgs:Int)≤most) with
    | false =>
     rw [q4] at c3 hr
     simp only [Bool.false_and,Bool.and_false] at hr
     (repeat (first | simp (maxSteps:=9^7) only [go_sem,Msg.a,Par.a,Nd.a,t0,t2,t7,hlt',hgj,List.length_map,Int.toNat_natCast,e3,q3',← hr] | refine z01 (c1) ?_ | refine z00 (c1) ?_ | refine z01 (c2) ?_ | refine z00 (c2) ?_ | refine z01 (c3) ?_ | refine z00 (c3) ?_ | refine And.intro (by omega) ?_ | refine And.intro (fun d hd=>by (repeat (rcases hd with rfl | hd; · exact ⟨rfl,rfl⟩)); cases hd) ?_))
    | true =>
     rw [q4] at c3 hr
     by_cases q5:(x.high.size:Int)≤most
     case neg =>
      rw [decide_eq_false q5] at hr
      have q5':most < (x.high.size:Int):=by omega
      simp only [Bool.false_and,Bool.and_false] at hr
      (repeat (first | simp (maxSteps:=9^7) only [go_sem,Msg.a,Par.a,Nd.a,t0,t2,t7,hlt',hgj,List.length_map,Int.toNat_natCast,e3,q3',q5',← hr] | refine z01 (c1) ?_ | refine z00 (c1) ?_ | refine z01 (c2) ?_ | refine z00 (c2) ?_ | refine z01 (c3) ?_ | refine z00 (c3) ?_ | refine And.intro (by omega) ?_ | refine And.intro (fun d hd=>by (repeat (rcases hd with rfl | hd; · exact ⟨rfl,rfl⟩)); cases hd) ?_))
      all_goals omega
     rw [decide_eq_true q5] at hr
     have q5':¬ most < (x.high.size:Int):=by omega
     simp only [Bool.true_and,Bool.and_true] at hr
     (repeat (first | simp (maxSteps:=9^7) only [go_sem,Msg.a,Par.a,Nd.a,t0,t2,t7,hlt',hgj,List.length_map,Int.toNat_natCast,e3,q3',q5',hw] | refine z01 (c1) ?_ | refine z00 (c1) ?_ | refine z01 (c2) ?_ | refine z00 (c2) ?_ | refine z01 (c3) ?_ | refine z00 (c3) ?_ | refine And.intro (by omega) ?_ | refine And.intro (fun d hd=>by (repeat (rcases hd with rfl | hd; · exact ⟨rfl,rfl⟩)); cases hd) ?_))
     refine ⟨l.length - (j + 1),by omega,j + 1,by omega,rfl,?_,?_,?_,hr⟩ <;> (simp (maxSteps:=9^7) only [go_sem,Msg.a,Par.a,Nd.a,t0,t2,t7,hw])
 ·have hlt':¬ (j:Int) < (l.length:Int):=by omega
  rw [List.drop_eq_nil_of_le (by omega)] at hr
  simp (maxSteps:=9^7) only [go_sem,Msg.a,Par.a,Nd.a,t0,t2,t7,hlt',List.length_map,← hr,List.all_nil]
end
section
open Go.RowKit
def onceP (l:List Msg):Prop:=∀ (i j:Nat) (m x:Msg),i < j->l[i]? = some m->l[j]? = some x->m.kind ≠ 4->(m.span.meet x.span).empty = true
end
end Go.Proofs.YtlhblpbfhfhlpaaGreat
