/-
  Part 13 of a proof: PkI, PkJ, Join, HpS, SyM, Glue, KeyPure, SqA, SqB, SqC, SqD, SqF, NdA, EvB, HsB.
-/
import Derived.Lib.ItoaLen
import Derived.Lib.AppendIntMem
import Derived.SizedLaws
import Derived.OpenShut
import GoSem.Op.String
import Derived.IntWalk
import Derived.Test.YtlhblpbfhfhlpaaGreatDoorSB12
set_option linter.unusedVariables false
set_option linter.unusedSimpArgs false
set_option maxRecDepth 100000
attribute [local go_sem] reduceCtorEq Nat.reduceEqDiff Nat.reduceBEq Nat.reduceAdd Nat.reduceSub Nat.reduceMul Nat.reduceLT Nat.reduceLeDiff Nat.reduceBNe Int.reduceBEq Int.reduceBNe Int.reduceLT Int.reduceLE
attribute [local go_sem ↓] reduceIte
namespace Go.Proofs.YtlhblpbfhfhlpaaGreatDoor
attribute [go_sem] ev0 ev1 ev2 ev3 ev4 evA zkh.eq_1 zkh.eq_2 zkg.eq_1 zkg.eq_2 okV valV fzV okF valF okBld zg1 mxOk.eq_1 mxOk.eq_2 mxVal.eq_1 mxVal.eq_2 z2t.eq_1 z2t.eq_2 z2t.eq_3 zat.eq_1 zat.eq_2 zat.eq_3 upd_at AV.flatB AV.flatBs zr7 binIV zr6 binSV z3i.eq_1 z3i.eq_2 z30.eq_1 z30.eq_2 z08.eq_1 z08.eq_2 objZ.eq_1 objZ.eq_2 z1o.eq_1 z1o.eq_2 zhr zkv.eq_1 zkv.eq_2 zkv.eq_3 z1t.eq_1 z1t.eq_2 z1t.eq_3 zle.eq_1 zle.eq_2 zle.eq_3 zle.eq_4 za4.eq_1 za4.eq_2 za4.eq_3 za4.eq_4 faOk.eq_1 faOk.eq_2 faOk.eq_3 faVal.eq_1 faVal.eq_2 faVal.eq_3 iaOk.eq_1 iaOk.eq_2 iaOk.eq_3 iaVal.eq_1 iaVal.eq_2 iaVal.eq_3 z4k.eq_1 z4k.eq_2 z4k.eq_3 z4k.eq_4 bdOk.eq_1 bdOk.eq_2 z7q.eq_1 z7q.eq_2 zgb.eq_1 zgb.eq_2 zgb.eq_3 zgb.eq_4 zgb.eq_5 slcKV.eq_1 slcKV.eq_2 slcKV.eq_3 zbg.eq_1 zbg.eq_2 zbg.eq_3 zbg.eq_4 slcFz.eq_1 slcFz.eq_2 loK.eq_1 loK.eq_2 loK.eq_3 zkr.eq_1 zkr.eq_2 zkr.eq_3 byOk.eq_1 byOk.eq_2 byOk.eq_3 byOk.eq_4 byOk.eq_5 byOk.eq_6 byOk.eq_7 byOk.eq_8 z1k.eq_1 z1k.eq_2 z1k.eq_3 byFz.eq_1 byFz.eq_2 byFz.eq_3 z4z z17 z5q zj0 z82.eq_1 z82.eq_2 z1w.eq_1 z1w.eq_2 stOk.eq_1 stOk.eq_2 stArr.eq_1 stArr.eq_2 stSt.eq_1 stSt.eq_2 AV.patch zl4 gB.eq_1 gB.eq_2 gB.eq_3 gIs.eq_1 gIs.eq_2 gIs.eq_3 retV resV resVs z05 z2u St.byval List.getD_cons_zero List.getD_cons_succ List.getD_nil List.map_cons List.map_nil List.length_cons List.length_nil List.take_succ_cons List.take_zero List.drop_succ_cons List.drop_zero List.headD_cons List.set_cons_zero List.append_nil List.nil_append List.cons_append List.contains_cons List.contains_nil List.elem_cons List.elem_nil List.all_cons List.all_nil List.getElem?_cons_zero List.getElem?_cons_succ List.filterMap_cons List.filterMap_nil Option.isSome_some Option.isSome_none Option.map_some Option.map_none Option.some.injEq AV.int.injEq AV.bool.injEq AV.str.injEq AV.tup.injEq AV.agg.injEq AV.sl.injEq List.cons.injEq Bool.false_eq_true Bool.true_eq_false Bool.not_true Bool.not_false Bool.and_true Bool.true_and Bool.or_false Bool.or_true Bool.false_or Bool.true_or Bool.or_self Bool.and_self Bool.not_eq_true' Bool.not_eq_false' Bool.not_not beq_self_eq_true true_and and_true false_and and_false and_self not_true_eq_false not_false_eq_true forall_const true_implies false_implies implies_true imp_self Nat.lt_add_one Nat.le_refl Nat.zero_le Nat.add_zero Nat.zero_add decide_true decide_false decide_eq_true_eq decide_eq_false_iff_not exists_eq_left exists_eq_left' ge_iff_le gt_iff_lt ite_branch zlf nilOk.eq_1 nilOk.eq_2 zhv.eq_1 zhv.eq_2 AV.isSl.eq_1 zht.eq_1 zht.eq_2 apSt.eq_1 apArr.eq_1 apArr.eq_2 apTwo.eq_1 apTwo.eq_2 apSt2.eq_1 zr9.eq_1 zr9.eq_2 slOf.eq_1 fitsV List.mem_cons List.not_mem_nil Bool.false_and Bool.and_false z3u.eq_1 z3u.eq_2 z3u.eq_3 z3u.eq_4 z3u.eq_5 z1n.eq_1 z1n.eq_2 z1n.eq_3 z1n.eq_4 z1n.eq_5 mOk.eq_1 mOk.eq_2 mVal.eq_1 mVal.eq_2 mFz.eq_1 mFz.eq_2 mOks zlb mFzs zi2.eq_1 zi2.eq_2 mFn.eq_1 mFn.eq_2 mArgs.eq_1 mArgs.eq_2 ckOk.eq_1 ckOk.eq_2 cloOk.eq_1 ptrAt.eq_1 sh.eq_1 sh.eq_2 sh.eq_3 sh.eq_4 sh.eq_5 sh.eq_6 retM shH_small evM zb7.eq_1 zb7.eq_2 ents.eq_1 ents.eq_2 kI.eq_1 mpOk.eq_1 mpR.eq_1 lkV.eq_1 lkV.eq_2 remp.eq_2 evP pvOk.eq_1 pvOk.eq_2 pvVal.eq_1 pvVal.eq_2 plOk.eq_1 plOk.eq_2 plOk.eq_3 plV.eq_1 plV.eq_2 plF.eq_1 plF.eq_2 plVal.eq_1 plVal.eq_2 plFz.eq_1 plFz.eq_2 lpOk.eq_1 lpOk.eq_2 lpVal.eq_1 lpVal.eq_2 lpFz.eq_1 lpFz.eq_2 stpOk.eq_1 stpOk.eq_2 zg7.eq_1 zg7.eq_2 zg8.eq_1 keepS.eq_1 keepS.eq_2 evCl
section
open Go.RowKit
attribute [local go_sem ↓] z1y z0n
def wb (l:List UInt8):ByteArray:=⟨l.toArray⟩
end
section
open Go.RowKit
attribute [local go_sem ↓] z1y z0n
def r_dec_0:Reg:=⟨[],[⟨.mv (.c (.str ⟨#[]⟩)),some 2,none,[],[]⟩],[],[],false⟩
def zkc:List ROp:=[⟨.mv (.t 0),some 3,none,[4],[]⟩,⟨.callv (.c (.clo 59 [] [])) [(.t 3)],some 4,none,[],[]⟩,⟨.mv (.t 4),some 2,none,[],[]⟩]
def r_dec_1:Reg:=⟨[],zkc,[4],[],false⟩
def ir_dec:IR:=(.seq (.reg r_dec_0)
 (.seq (.reg r_dec_1)
 .ret))
def res_dec:List RDesc:=[(.tmp 2)]
theorem e_dec_0:EqR r_dec_0 [⟨.mv (.c (.str ⟨#[]⟩)),some 2,none,[],[]⟩] []:=fun _ _ _=>rfl
theorem e_dec_1:EqR r_dec_1 zkc [4]:=fun _ _ _=>rfl
theorem fn_dec {args:List AV} {r:AV} (ha:args.length.ble Tryz.f32.ntmps = true) (h:run (AFn Tryz.prog) ir_dec (endQ res_dec r) (z0h args)):AFn Tryz.prog 32 args r :=
 AFn.of_code (pv:=false) (hint:=fun _=>[]) (c:=Tryz.f32.body.getD .skip) (by kernel_rfl) (by kernel_rfl) Tryz.func32 (by kernel_rfl) (by kernel_rfl) (by kernel_rfl) (of_decide_eq_true (by kernel_rfl)) (Nat.le_of_ble_eq_true ha) (Nat.le_of_ble_eq_true (by kernel_rfl)) (z0g h)
def zoi:Reg:=⟨[],[⟨.mv (.c (.str ⟨#[]⟩)),some 2,none,[],[]⟩],[],[],false⟩
def zoh:Reg:=⟨[],[⟨.mv (.c (.str ⟨#[]⟩)),some 3,none,[],[]⟩],[],[],false⟩
def zog:Reg:=⟨[],[⟨.mv (.t 0),some 6,none,[],[]⟩,⟨.mv (.t 6),some 4,none,[],[]⟩],[],[],false⟩
def zdb:List ROp:=[⟨.mv (.t 4),some 7,none,[],[]⟩,⟨.bin .rem (.t 7) (.c (.int .i64 10)),some 8,none,[],[]⟩,⟨.mv (.t 8),some 5,none,[],[]⟩]
def zof:Reg:=⟨[],zdb,[],[],false⟩
def zoe:Reg:=⟨[],[⟨.mv (.t 5),some 9,none,[],[]⟩,⟨.bin .lss (.t 9) (.c (.int .i64 0)),some 10,none,[],[]⟩],[],[],false⟩
def zda:List ROp:=[⟨.mv (.t 5),some 11,none,[],[]⟩,⟨.un .neg (.t 11),some 12,none,[],[]⟩,⟨.mv (.t 12),some 5,none,[],[]⟩]
def zod:Reg:=⟨[],zda,[],[],false⟩
def zd9:List ROp:=[⟨.mv (.t 5),some 13,none,[16,17],[]⟩,⟨.bin .add (.c (.int .i64 48)) (.t 13),some 14,none,[16,17],[]⟩,⟨.conv .u8 (.t 14),some 15,none,[16,17],[]⟩,⟨.bsl 1 5 [(.t 15)],some 16,none,[17],[]⟩,⟨.call 1 [(.t 16)],some 17,none,[],[]⟩,⟨.mv (.t 3),some 18,none,[],[]⟩,⟨.bin .add (.t 17) (.t 18),some 19,none,[],[]⟩,⟨.mv (.t 19),some 3,none,[],[]⟩]
def zoc:Reg:=⟨[],zd9,[16,17],[],false⟩
def zd8:List ROp:=[⟨.mv (.t 4),some 20,none,[],[]⟩,⟨.bin .quo (.t 20) (.c (.int .i64 10)),some 21,none,[],[]⟩,⟨.mv (.t 21),some 4,none,[],[]⟩]
def zob:Reg:=⟨[],zd8,[],[],false⟩
def zoa:Reg:=⟨[],[⟨.mv (.t 4),some 22,none,[],[]⟩,⟨.bin .eql (.t 22) (.c (.int .i64 0)),some 23,none,[],[]⟩],[],[],false⟩
def zgz:IR:=(.block 1 (.seq (.reg zof)
 (.seq (.seq (.reg zoe)
 (.cond (.t 10) (.reg zod)
 .skip))
 (.seq (.reg zoc)
 (.seq (.reg zob)
 (.seq (.reg zoa)
 (.cond (.t 23) (.exit 0)
 .skip)))))))
def zh2:Reg:=⟨[],[⟨.mv (.t 0),some 24,none,[],[]⟩,⟨.bin .lss (.t 24) (.c (.int .i64 0)),some 25,none,[],[]⟩],[],[],false⟩
def z90:List ROp:=[⟨.mv (.t 3),some 26,none,[],[]⟩,⟨.bin .add (.c (.str ⟨#[45]⟩)) (.t 26),some 27,none,[],[]⟩,⟨.mv (.t 27),some 2,none,[],[]⟩]
def zh1:Reg:=⟨[],z90,[],[],false⟩
def zh0:Reg:=⟨[],[⟨.mv (.t 3),some 28,none,[],[]⟩,⟨.mv (.t 28),some 2,none,[],[]⟩],[],[],false⟩
def ir_rDec:IR:=(.seq (.reg zoi)
 (.seq (.reg zoh)
 (.seq (.reg zog)
 (.seq (.block 0 (.loop zgz))
 (.seq (.seq (.reg zh2)
 (.cond (.t 25) (.seq (.reg zh1)
 .ret)
 .skip))
 (.seq (.reg zh0)
 .ret))))))
def zmu:List RDesc:=[(.tmp 2)]
theorem e_rDec_0:EqR zoi [⟨.mv (.c (.str ⟨#[]⟩)),some 2,none,[],[]⟩] []:=fun _ _ _=>rfl
theorem e_rDec_1:EqR zoh [⟨.mv (.c (.str ⟨#[]⟩)),some 3,none,[],[]⟩] []:=fun _ _ _=>rfl
theorem e_rDec_2:EqR zog [⟨.mv (.t 0),some 6,none,[],[]⟩,⟨.mv (.t 6),some 4,none,[],[]⟩] []:=fun _ _ _=>rfl
theorem e_rDec_3:EqR zof zdb []:=fun _ _ _=>rfl
theorem e_rDec_4:EqR zoe [⟨.mv (.t 5),some 9,none,[],[]⟩,⟨.bin .lss (.t 9) (.c (.int .i64 0)),some 10,none,[],[]⟩] []:=fun _ _ _=>rfl
theorem e_rDec_5:EqR zod zda []:=fun _ _ _=>rfl
theorem e_rDec_6:EqR zoc zd9 [16,17]:=fun _ _ _=>rfl
theorem e_rDec_7:EqR zob zd8 []:=fun _ _ _=>rfl
theorem e_rDec_8:EqR zoa [⟨.mv (.t 4),some 22,none,[],[]⟩,⟨.bin .eql (.t 22) (.c (.int .i64 0)),some 23,none,[],[]⟩] []:=fun _ _ _=>rfl
theorem e_rDec_10:EqR zh2 [⟨.mv (.t 0),some 24,none,[],[]⟩,⟨.bin .lss (.t 24) (.c (.int .i64 0)),some 25,none,[],[]⟩] []:=fun _ _ _=>rfl
theorem e_rDec_11:EqR zh1 z90 []:=fun _ _ _=>rfl
theorem e_rDec_12:EqR zh0 [⟨.mv (.t 3),some 28,none,[],[]⟩,⟨.mv (.t 28),some 2,none,[],[]⟩] []:=fun _ _ _=>rfl
theorem fn_rDec {args:List AV} {r:AV} (ha:args.length.ble Tryz.f20.ntmps = true) (h:run (AFn Tryz.prog) ir_rDec (endQ zmu r) (z0h args)):AFn Tryz.prog 20 args r :=
 AFn.of_code (pv:=false) (hint:=fun _=>[]) (c:=Tryz.f20.body.getD .skip) (by kernel_rfl) (by kernel_rfl) Tryz.func20 (by kernel_rfl) (by kernel_rfl) (by kernel_rfl) (of_decide_eq_true (by kernel_rfl)) (Nat.le_of_ble_eq_true ha) (Nat.le_of_ble_eq_true (by kernel_rfl)) (z0g h)
attribute [local go_sem ↓] ir_dec
attribute [local go_sem] res_dec e_dec_0 e_dec_1 zkc
attribute [local go_sem ↓] ir_rDec
attribute [local go_sem] zmu e_rDec_0 e_rDec_1 e_rDec_2 e_rDec_3 zdb e_rDec_4 e_rDec_5 zda e_rDec_6 zd9 e_rDec_7 zd8 e_rDec_8 e_rDec_10 e_rDec_11 z90 e_rDec_12
def decS (n:Int):ByteArray:=⟨(Lib.itoa n).toArray⟩
theorem decS_size (n:Int):(decS n).size = (Lib.itoa n).length:=rfl
def inI (n:Int):Prop:=-9223372036854775808≤n∧n≤9223372036854775807
theorem itoa_ok (n:Int) (h:inI n):AFn Tryz.prog 59 [.int .i64 n] (.str (decS n)) :=
 .flat1 (by kernel_rfl) int_flat (fun _ _ _=>.str _) fun w hG=>(Tryz.strconv_Itoa n h.1 h.2 w hG.2).mono fun e w' ⟨he,k,os,hw⟩=>by
  subst hw
  exact ⟨he,Lib.below_grow _ _ (Nat.le_refl _) _ _⟩
theorem zr2 (n:Int) (h:inI n):AFn Tryz.prog 32 [.int .i64 n] (.str (decS n)):=by
 refine fn_dec rfl ?_
 simp (maxSteps:=9^7) only [go_sem]
 (first | refine z01 (itoa_ok n h) ?_ | refine z00 (itoa_ok n h) ?_)
 simp (maxSteps:=9^7) only [go_sem]
open Lib (decDigits itoa nDigits)
theorem dd_step (u:Nat) (h:¬ u < 10):decDigits u = decDigits (u / 10) ++ [UInt8.ofNat (48 + u % 10)]:=by
 rw [Lib.decDigits,dif_neg h]
theorem dd_small (u:Nat) (h:u < 10):decDigits u = [UInt8.ofNat (48 + u)]:=Lib.decDigits_one h
def rdInv (n:Int) (k:Nat) (σ:St):Prop :=
 ∃ (m:Int) (s:List UInt8),k = m.natAbs∧inI m∧decDigits n.natAbs = decDigits m.natAbs ++ s∧(n < 0 ↔ n < 0)∧σ.T 0 = .int .i64 n∧σ.T 4 = .int .i64 m∧σ.T 3 = .str (wb s)
theorem u8_dig (d:Nat) (h:d < 10):IntKind.u8.wrap (IntKind.i64.wrap (48 + (d:Int))) = ((UInt8.ofNat (48 + d)).toNat:Int):=by
 rw [IntWalk.i64_in _ (by omega),show (UInt8.ofNat (48 + d)).toNat = (48 + d) % 256 from UInt8.toNat_ofNat' ..]
 simp [IntKind.wrap,IntKind.signed,IntKind.bits]
theorem z7g (n:Int) (h:inI n):AFn Tryz.prog 20 [.int .i64 n] (.str (decS n)):=by
 refine fn_rDec rfl ?_
 simp (maxSteps:=9^7) only [go_sem]
 refine z0c (rdInv n) (k:=n.natAbs) ⟨n,[],rfl,h,by simp,Iff.rfl,?_,?_,?_⟩ ?_
 iterate 2 focus ((simp (maxSteps:=9^7) only [go_sem]) <;> rfl)
 ·simp (maxSteps:=9^7) only [go_sem]
  rfl
 rintro k σ ⟨m,s,rfl,hm,hds,-,t0,t4,t3⟩
 simp only [zgz]
 obtain ⟨hm0,hm1⟩:=hm
 have hlen:s.length≤21:=by
  have h1:=congrArg List.length hds
  have h2:=Lib.itoa_length_le n h.1 h.2
  have h3:(decDigits n.natAbs).length≤(itoa n).length:=by
   unfold Lib.itoa
   split
   ·simp
   ·rename_i hn
    rw [show n.natAbs = n.toNat by omega]; exact Nat.le_refl _
  rw [List.length_append] at h1
  omega
 have hd:m.natAbs % 10 < 10:=Nat.mod_lt _ (by decide)
 have hqa:(m.tdiv 10).natAbs = m.natAbs / 10:=by
  rw [Int.natAbs_tdiv]; rfl
 have hta:(m.tmod 10).natAbs = m.natAbs % 10:=by
  rw [Int.natAbs_tmod]; rfl
 have hq:IntKind.i64.wrap (m.tdiv 10) = m.tdiv 10:=IntWalk.i64_in _ (by omega)
 have h45:#[(45:UInt8)].size = 1:=rfl
 have hu:=u8_dig (m.natAbs % 10) hd
 obtain ⟨c,hc⟩:∃ c,UInt8.ofNat (48 + m.natAbs % 10) = c:=⟨_,rfl⟩
 rw [hc] at hu
 have hcat:∀ x:ByteArray,x = ⟨#[c]⟩->x ++ wb s = wb (c :: s):=fun x hx=>by
  subst hx
  apply ba_ext
  rw [ByteArray.data_append,Array.toList_append]; rfl
 have hcs:=hcat _ rfl
 have hwc:(wb (c :: s)).size = s.length + 1:=rfl
 have hws:(wb s).size = s.length:=rfl
 have s1:#[c].size = 1:=rfl
 have hsplit:m.natAbs < 10->decDigits n.natAbs = c :: s:=fun hlt=>by
  rw [hds,dd_small _ hlt,← hc,Nat.mod_eq_of_lt hlt]; rfl
 have hsplit2:¬ m.natAbs < 10->decDigits n.natAbs = decDigits (m.tdiv 10).natAbs ++ (c :: s):=fun hge=>by
  rw [hds,dd_step _ hge,hqa,hc,List.append_assoc]; rfl
 have hfin:decDigits n.natAbs = c :: s->decS n = if n < 0 then (⟨#[45]⟩:ByteArray) ++ wb (c :: s) else wb (c :: s):=fun e=>by
  apply ba_ext
  unfold decS Lib.itoa
  by_cases hn:n < 0
  ·rw [if_pos hn,if_pos hn,ByteArray.data_append,Array.toList_append,e]; rfl
  ·rw [if_neg hn,if_neg hn,show n.toNat = n.natAbs by omega,e]; rfl
 by_cases hneg:m.tmod 10 < 0
 ·have hw:IntKind.i64.wrap (0 - m.tmod 10) = ((m.natAbs % 10:Nat):Int):=by
   rw [IntWalk.i64_in _ (by omega)]; omega
  by_cases hz:m.tdiv 10 = 0
  ·have hz':(m.tdiv 10 == 0) = true:=by rw [hz]; rfl
   have e:=hfin (hsplit (by omega))
   rw [e]
   by_cases hn:n < 0
   ·rw [if_pos hn]
    simp (maxSteps:=9^7) only [go_sem,t0,t4,t3,hneg,hw,hu,hq,hz',hcs,hn,zbe,z59]
    omega
   ·rw [if_neg hn]
    simp (maxSteps:=9^7) only [go_sem,t0,t4,t3,hneg,hw,hu,hq,hz',hcs,hn,zbe,z59]
    omega
  ·have hz':(m.tdiv 10 == 0) = false:=by rw [beq_eq_false_iff_ne]; exact hz
   have e:=hsplit2 (by omega)
   simp (maxSteps:=9^7) only [go_sem,t0,t4,t3,hneg,hw,hu,hq,hz',hcs,zbe,z59]
   refine ⟨by omega,by omega,by omega,(m.tdiv 10).natAbs,by omega,m.tdiv 10,c :: s,rfl,⟨by omega,by omega⟩,e,Iff.rfl,?_,?_,?_⟩ <;> (simp (maxSteps:=9^7) only [go_sem,t0,t4,t3,hcs])
 ·have hw:m.tmod 10 = ((m.natAbs % 10:Nat):Int):=by omega
  rw [hw] at hneg
  by_cases hz:m.tdiv 10 = 0
  ·have hz':(m.tdiv 10 == 0) = true:=by rw [hz]; rfl
   have e:=hfin (hsplit (by omega))
   rw [e]
   by_cases hn:n < 0
   ·rw [if_pos hn]
    simp (maxSteps:=9^7) only [go_sem,t0,t4,t3,hneg,hw,hu,hq,hz',hcs,hn,zbe,z59]
    omega
   ·rw [if_neg hn]
    simp (maxSteps:=9^7) only [go_sem,t0,t4,t3,hneg,hw,hu,hq,hz',hcs,hn,zbe,z59]
    omega
  ·have hz':(m.tdiv 10 == 0) = false:=by rw [beq_eq_false_iff_ne]; exact hz
   have e:=hsplit2 (by omega)
   simp (maxSteps:=9^7) only [go_sem,t0,t4,t3,hneg,hw,hu,hq,hz',hcs,zbe,z59]
   refine ⟨by omega,by omega,by omega,(m.tdiv 10).natAbs,by omega,m.tdiv 10,c :: s,rfl,⟨by omega,by omega⟩,e,Iff.rfl,?_,?_,?_⟩ <;> (simp (maxSteps:=9^7) only [go_sem,t0,t4,t3,hcs])
end
section
open Go.RowKit
def z4h (l:List ByteArray) (sep:ByteArray):ByteArray:=⟨(Lib.join (l.map (·.data.toList)) sep.data.toList).toArray⟩
theorem join_ok (l:List ByteArray) (sep:ByteArray) (hl:l.length≤140737488355328) (hj:(Lib.join (l.map (·.data.toList)) sep.data.toList).length≤140737488355328):AFn Tryz.prog 15 [.sl (l.map .str),.str sep] (.str (z4h l sep)):=by
 refine ⟨by kernel_rfl,fun w Pr vs hG hPr hlen hvs=>?_⟩
 obtain ⟨a,b,rfl⟩:∃ a b,vs = [a,b]:=by
  match vs,hlen with
  | [a,b],_=>exact ⟨a,b,rfl⟩
 have h1:=hvs 0 _ a rfl rfl
 have h2:=hvs 1 _ b rfl rfl
 obtain rfl:=h2.str_of
 have fin:∀ {v:Value},(Calls Tryz.prog 15 #[v,.string sep] w fun e w'=>e = .returned (.string (z4h l sep))∧Below w.heap.size w w')->Calls Tryz.prog 15 [v,.string sep].toArray w fun e w'=>∃ u,e = .returned u∧Below w.heap.size w w'∧RR (fun b o=>Pr b o∨w.heap.size≤b) w.heap.size w' (.str (z4h l sep)) u:=fun hc =>
  hc.mono fun e w' ⟨he,hb⟩=>⟨_,he,hb,.str _⟩
 generalize hq:l.map AV.str = q at h1
 cases h1 with
 | sl _ A cap z u hcap hmax hA h =>
  subst hq
  rw [List.length_map] at hcap hA ⊢
  refine fin ?_
  by_cases h0:l.length = 0
  ·have e0:l = []:=List.length_eq_zero_iff.1 h0
   subst e0
   refine (Tryz.strings_Join_none A cap sep w).mono fun e w' ⟨he,hw⟩=>⟨?_,by rw [hw]; exact Below.refl _ _⟩
   rw [he]; rfl
  ·obtain ⟨b,off,rfl,hlies⟩:=hA (by omega)
   have hz:z = 1:=by
    obtain ⟨x,hx⟩:∃ x,l[0]? = some x:=⟨_,List.getElem?_eq_getElem (by omega)⟩
    exact (hlies.len (.str x) (List.mem_map.2 ⟨x,List.mem_of_getElem? hx,rfl⟩)).symm
   subst hz
   refine (Tryz.strings_Join b off cap l sep w (fun j x hx=>?_) hlies.lt hl hcap hj).mono fun e w' ⟨he,hb⟩=>⟨he,hb⟩
   have hjl:=(List.getElem?_eq_some_iff.1 hx).1
   have:=(hlies.at_ j 0 (by rw [List.length_map]; exact hjl) (by omega)).2
   rw [Nat.mul_one,Nat.add_zero] at this
   rw [this]
   have hv:=h j (.str x) 0 (.str x) (by rw [List.getElem?_map,hx]; rfl) rfl
   rw [hv.str_of]
theorem join_len (sep:List UInt8):∀ l:List (List UInt8),(Lib.join l sep).length≤(l.map fun x=>x.length + sep.length).sum
 | []=>by simp [Lib.join_nil]
 | x :: r=>by
  rw [Lib.join_cons]
  have:∀ r:List (List UInt8),(Lib.joinTail sep r).length = (r.map fun x=>x.length + sep.length).sum:=by
   intro r
   induction r with
   | nil=>rfl
   | cons y r ih =>
    show ((sep ++ y) ++ Lib.joinTail sep r).length = _
    rw [List.length_append,ih,List.length_append,List.map_cons,List.sum_cons]; omega
  rw [List.length_append,this,List.map_cons,List.sum_cons]; omega
end
section
open Go.RowKit
namespace Hm
theorem za9 (sep:List UInt8) (x:ByteArray):∀ l:List ByteArray,z4h sep (x :: l) = x.data.toList ++ Lib.joinTail sep (l.map (·.data.toList))
 | []=>by simp [z4h,Lib.joinTail]
 | y :: l=>by
  rw [z4h,za9 sep y l]
  ·simp [Lib.joinTail]
  ·simp
theorem zqb (sep:List UInt8):∀ l:List ByteArray,z4h sep l = Lib.join (l.map (·.data.toList)) sep
 | []=>rfl
 | x :: l=>by rw [za9,List.map_cons,Lib.join_cons]
theorem zg6:∀ {cs:List V} {l:List ByteArray},strsC cs = some l->l.length = cs.length∧∀ (j:Nat) (x:ByteArray),l[j]? = some x->cs[j]? = some (.lit (.string x))
 | [],l,h=>by cases h; exact ⟨rfl,fun j x h=>by simp at h⟩
 | c :: cs,l,h=>by
  unfold strsC at h
  split at h
  ·rename_i heq; exact absurd heq (by simp)
  ·rename_i s r heq
   cases heq
   split at h
   ·rename_i r' hr
    cases h
    obtain ⟨g1,g2⟩:=zg6 hr
    refine ⟨by simp [g1],fun j x hj=>?_⟩
    cases j with
    | zero=>cases hj; rfl
    | succ j=>simpa using g2 j x (by simpa using hj)
   ·cases h
  ·cases h
theorem joinX_sound:XSound Tryz.prog (joinX 15):=by
 intro f args h r h' e
 unfold joinX at e
 split at e
 case h_2=>cases e
 rename_i hf
 have hf:=Nat.eq_of_beq_eq_true hf
 subst hf
 split at e
 case h_2=>cases e
 rename_i v sep
 split at e
 case h_2=>cases e
 rename_i l hl
 split at e
 case h_2=>cases e
 rename_i hb
 cases e
 rw [Bool.and_eq_true] at hb
 have hb1:=Nat.le_of_ble_eq_true hb.1
 have hb2:=Nat.le_of_ble_eq_true hb.2
 refine ⟨HStep.refl _,fun E w us hR hH hfr hus=>?_⟩
 unfold strsV at hl
 split at hl
 case h_2=>cases hl
 rename_i r o z len
 split at hl
 case h_2=>cases hl
 rename_i cs hz hg
 rw [Bool.and_eq_true] at hz
 have hz1:=Nat.eq_of_beq_eq_true hz.1
 have hz2:=z2e hz.2
 subst hz1
 split at hl
 case h_2=>cases hl
 rename_i hle
 have hle:=Nat.le_of_ble_eq_true hle
 obtain ⟨g1,g2⟩:=zg6 hl
 have g1':l.length = len:=by rw [g1]; simp; omega
 match us,hus with
 | [],hus=>exact absurd hus.len (by simp)
 | [_],hus=>exact absurd hus.len (by simp)
 | _ :: _ :: _ :: _,hus=>exact absurd hus.len (by simp)
 | [u,u2],hus =>
 have hu:=hus.head
 have hu2:=hus.tail.head.lit_inv
 subst hu2
 obtain ⟨A,cap,rfl,hU,h0,hlc,hm,hlv⟩:=hu.sl_inv
 obtain ⟨_,hA,vs,ty,fr,hb',hsz⟩:=hlv (by rw [hH _ _ hg]; rfl)
 have hA:=hA (by omega)
 subst hA
 subst g1'
 have hc:=Tryz.strings_Join (E.μ r).1 ((E.μ r).2 + o) cap l sep w (fun j x hj=>by
  have hcs:=g2 j x hj
  have hjl:=(List.getElem?_eq_some_iff.1 hj).1
  rw [List.getElem?_take,if_pos hjl,List.getElem?_drop] at hcs
  obtain ⟨u,q1,q2⟩:=hR.cell (hH _ _ hg) hcs
  rw [q2.lit_inv] at q1
  rw [Nat.add_assoc]; exact q1) (Array.getElem?_eq_some_iff.1 hb').1 (by omega) hlc (by rw [← zqb]; omega)
 refine hc.mono ?_
 rintro e w' ⟨rfl,hbel⟩
 obtain ⟨hR',hS'⟩:=hR.grow hbel
 refine ⟨_,E,rfl,?_,hR',hS',hH,fun q hq=>.inl hq,fun _ _ _=>rfl⟩
 rw [zqb]
 exact .lit _
end Hm
end
section
open Go.RowKit
namespace Hm
def storyX:z1v:=joinX 15
theorem mixed:Tryz.prog.follows .mixedOrders = true:=by kernel_rfl
theorem awake57_runs:okX (ziu Tryz.prog storyX 100000 5 [] H0) = true:=by kernel_rfl
end Hm
theorem awake57_ok:AFn Tryz.prog 5 [] (.bool true):=by
 refine ⟨by kernel_rfl,fun w Pr vs hG hPr hlen hvs=>?_⟩
 obtain rfl:vs = []:=List.eq_nil_of_length_eq_zero hlen.symm
 exact (Hm.law_of Hm.mixed Hm.joinX_sound (show 5 ≠ Hm.yldId by decide) w (us:=[]) .nil Hm.awake57_runs).mono fun e w' ⟨he,hb⟩=>⟨_,he,hb,.bool _⟩
end
section
open Go.ChangeShapes Go.WideShapes Go.ChangeAt Go.RowKit Go.Deep
inductive Ty where
 | int (k:IntKind)
 | str
 | bool
 | sl (e:Ty)
 | st (fs:List Ty)
def za6 (P:Program):List (Nat × TypeId)->Nat->Option Nat
 | [],o=>some o
 | (f,t) :: l,o=>if f = o then za6 P l (o + P.cellsOf t) else none
def zhp {α β:Type} (f:α->Option β):List α->Option (List β)
 | []=>some []
 | a :: l=>match f a,zhp f l with
  | some b,some r=>some (b :: r)
  | _,_=>none
def z2c (m z:Nat) (e:TypeId):Nat->List (Nat × TypeId)
 | 0=>[]
 | k + 1=>((m - (k + 1)) * z,e) :: z2c m z e k
def zma (P:Program):Nat->TypeId->Option Ty
 | 0,_=>none
 | n + 1,t=>match P.underlying t with
  | some (.int k)=>some (.int k)
  | some .string=>some .str
  | some .bool=>some .bool
  | some (.slice e)=>if 1≤P.bytesOf e∧1≤P.cellsOf e then (zma P n e).map .sl else none
  | some (.struct fs)=>if za6 P (fs.toList.map fun f=>(f.offset,f.type)) 0 = some (P.cellsOf t) then (zhp (zma P n) (fs.toList.map (·.type))).map .st else none
  | some (.array m e)=>if za6 P (z2c m (P.cellsOf e) e m) 0 = some (P.cellsOf t) then (zhp (zma P n) (List.replicate m e)).map .st else none
  | _=>none
def zb6:Ty->List AV->AV
 | .st _,cs=>.agg cs
 | _,cs=>cs.headD .und
inductive TypedC:Ty->List AV->Prop
 | int (k:IntKind) (n:Int) (h:(Lit.int k n).wf = true):TypedC (.int k) [.int k n]
 | str (s:ByteArray) (h:s.size≤281474976710656):TypedC .str [.str s]
 | bool (b:Bool):TypedC .bool [.bool b]
 | sl (T:Ty) (ls:List (List AV)) (hlen:ls.length≤281474976710656) (h:∀ c,c ∈ ls->TypedC T c):TypedC (.sl T) [.sl (ls.map (zb6 T))]
 | nil:TypedC (.st []) []
 | cons {T:Ty} {fs:List Ty} {c r:List AV} (h:TypedC T c) (hr:TypedC (.st fs) r):TypedC (.st (T :: fs)) (c ++ r)
theorem z9o {T:Ty} {c:List AV} (h:TypedC T c):(zb6 T c).cells = c:=by
 cases h <;> rfl
theorem zi6 {P:Program}:∀ {l:List (Nat × TypeId)} {o tot:Nat},za6 P l o = some tot->o≤tot
 | [],o,tot,h=>by cases h; exact Nat.le_refl _
 | (f,t) :: l,o,tot,h=>by
  rw [za6] at h
  split at h
  ·have:=zi6 h; omega
  ·cases h
section
variable {H:Type} {enc:TypeId × Value->H} {P:Program} {w:World} {sp:Nat->Bool} {held:Bool}
def z4c (w:World) (T:Ty) (cs:List Value) (ds:List AV):Prop :=
 TypedC T ds∧ds.length = cs.length∧∀ (j:Nat) (d:AV) (v:Value),ds[j]? = some d->cs[j]? = some v->VR (fun b _=>b < w.heap.size) w d v
theorem z5g {n m:Nat} (ih:∀ {t:TypeId} {T:Ty} {fuel:Nat} {cs:List Value} {x:DataW H × List MemPlace},zma P n t = some T->(x.1.weights P t).all (·≤reachBytes) = true->DataW.trod enc P w 0 sp held fuel t cs = some x->∃ ds,z4c w T cs ds)
  {cs:List Value}:∀ (pl:List (Nat × TypeId)) (o:Nat) (Ts:List Ty) (xs:List (DataW H × List MemPlace)),za6 P pl o = some cs.length->zhp (zma P n) (pl.map (·.2)) = some Ts->xs.length = pl.length ->
   (∀ (i:Nat) (f:Nat × TypeId),pl[i]? = some f->DataW.trod enc P w 0 sp held m f.2 ((cs.drop f.1).take (P.cellsOf f.2)) = xs[i]?) ->
   (DataW.weightsEach P (pl.map (·.2)) (xs.map (·.1))).all (·≤reachBytes) = true->∃ ds,z4c w (.st Ts) (cs.drop o) ds
 | [],o,Ts,xs,hl,ho,hx,ht,hw=>by
  cases hl; cases ho
  exact ⟨[],.nil,by simp,fun j d v h=>by simp at h⟩
 | (f,t) :: pl,o,Ts,xs,hl,ho,hx,ht,hw=>by
  rw [za6] at hl
  split at hl
  case isFalse=>cases hl
  rename_i hf
  subst hf
  rw [List.map_cons,zhp] at ho
  split at ho
  case h_2=>cases ho
  rename_i T Ts' h1 h2
  cases ho
  cases xs with
  | nil=>simp at hx
  | cons x xs =>
   rw [List.map_cons,List.map_cons,DataW.weightsEach,List.all_append,Bool.and_eq_true] at hw
   obtain ⟨d0,t0,l0,v0⟩:=ih h1 hw.1 (ht 0 _ rfl)
   obtain ⟨dr,tr,lr,vr⟩:=z5g ih pl (f + P.cellsOf t) Ts' xs hl h2 (by simpa using hx) (fun i g hg=>ht (i + 1) g (by simpa using hg)) hw.2
   have hle:=zi6 hl
   have hz:d0.length = P.cellsOf t:=by
    rw [l0,List.length_take,List.length_drop]; show min (P.cellsOf t) (cs.length - f) = _; omega
   refine ⟨d0 ++ dr,.cons t0 tr,?_,fun j d v hd hv=>?_⟩
   ·rw [List.length_append,hz,lr,List.length_drop,List.length_drop]; omega
   ·rw [List.getElem?_drop] at hv
    rcases Nat.lt_or_ge j d0.length with hj | hj
    ·rw [List.getElem?_append_left hj] at hd
     refine v0 j d v hd ?_
     show (List.take (P.cellsOf t) (List.drop f cs))[j]? = _
     rw [List.getElem?_take,if_pos (by omega),List.getElem?_drop]
     exact hv
    ·rw [List.getElem?_append_right hj] at hd
     refine vr _ d v hd ?_
     rw [List.getElem?_drop,hz,show f + P.cellsOf t + (j - P.cellsOf t) = f + j by omega]
     exact hv
theorem z8l {e:TypeId}:∀ {m:Nat} {l:List (DataW H)},l.length = m->(DataW.weightsAll P e l).all (·≤reachBytes) = true->(DataW.weightsEach P (List.replicate m e) l).all (·≤reachBytes) = true
 | 0,[],_,_=>rfl
 | m + 1,x :: l,hl,h=>by
  simp only [DataW.weightsAll,List.all_append,Bool.and_eq_true] at h
  rw [List.replicate_succ,DataW.weightsEach,List.all_append,Bool.and_eq_true]
  exact ⟨h.1,z8l (by simpa using hl) h.2⟩
theorem zho (m z:Nat) (e:TypeId):∀ (k i:Nat) (f:Nat × TypeId),k≤m->(z2c m z e k)[i]? = some f->i < k∧f = ((m - k + i) * z,e):=by
 intro k
 induction k with
 | zero=>intro i f _ h; simp [z2c] at h
 | succ k ih =>
  intro i f hk h
  cases i with
  | zero=>simp [z2c] at h; exact ⟨by omega,h.symm⟩
  | succ i =>
   obtain ⟨h1,rfl⟩:=ih i f (by omega) (by simpa [z2c] using h)
   exact ⟨by omega,by rw [show m - k + i = m - (k + 1) + (i + 1) by omega]⟩
theorem z5s:∀ (n:Nat) {t:TypeId} {T:Ty} {fuel:Nat} {cs:List Value} {x:DataW H × List MemPlace},zma P n t = some T->(x.1.weights P t).all (·≤reachBytes) = true->DataW.trod enc P w 0 sp held fuel t cs = some x->∃ ds,z4c w T cs ds
 | 0,t,T,fuel,cs,x,ht,hw,h=>by cases ht
 | n + 1,t,T,fuel,cs,x,ht,hw,h=>by
  rw [zma] at ht
  split at ht
  ·rename_i k hu
   cases ht
   obtain ⟨m,rfl,rfl,hb⟩:=DataW.trod_int hu h
   exact ⟨[.int k m],.int k m hb,rfl,fun j d v hd hv=>by
    cases j with
    | zero=>cases hd; cases hv; exact .int _ _
    | succ j=>simp at hd⟩
  ·rename_i hu
   cases ht
   obtain ⟨s,rfl,rfl,hb⟩:=DataW.trod_string hu h
   exact ⟨[.str s],.str s (str_reach hw),rfl,fun j d v hd hv=>by
    cases j with
    | zero=>cases hd; cases hv; exact .str _
    | succ j=>simp at hd⟩
  ·rename_i hu
   cases ht
   obtain ⟨b,rfl,rfl⟩:=DataW.trod_bool hu h
   exact ⟨[.bool b],.bool b,rfl,fun j d v hd hv=>by
    cases j with
    | zero=>cases hd; cases hv; exact .bool _
    | succ j=>simp at hd⟩
  ·rename_i e hu
   split at ht
   case isFalse=>cases ht
   rename_i hz
   obtain ⟨Te,hTe,rfl⟩:=Option.map_eq_some_iff.1 ht
   rcases open_slice hu h with ⟨hv,_⟩ | ⟨a,len,cap,m,n',D,Pl,hv,_,hl,hm,hmm,hx,hi⟩
   ·subst hv
    refine ⟨[.sl []],.sl Te [] (by simp) (fun c hc=>by cases hc),rfl,fun j d v hd hv=>?_⟩
    cases j with
    | zero =>
     cases hd; cases hv
     exact .sl [] none 0 1 (fun _ _=>.bool false) (by simp) (by simp) (fun h=>by simp at h) (fun i d j c hi=>by simp at hi)
    | succ j=>simp at hd
   ·subst hv
    have hlm:len≤m:=by rw [hmm]; split <;> omega
    rw [hx] at hw
    simp only [DataW.weights,hu,List.all_cons,Bool.and_eq_true,decide_eq_true_eq,List.length_map,List.length_range,List.all_append] at hw
    have hlr:len≤reachBytes:=Nat.le_trans (Nat.le_trans (Nat.le_add_right len (m - len)) (Nat.le_mul_of_pos_right _ hz.1)) hw.1
    have hwi:∀ i,i < len->((D i).weights P e).all (·≤reachBytes) = true:=fun i hil=>zb2 hw.2.1 (List.mem_map.2 ⟨i,List.mem_range.2 hil,rfl⟩)
    have each:∀ i,i < len->∃ y:List Value × List AV,w.cells? 0 (a.add (i * P.cellsOf e)) (P.cellsOf e) = some y.1∧z4c w Te y.1 y.2:=fun i him=>by
     obtain ⟨cs',h1,h2⟩:=hi i (by omega)
     obtain ⟨ds,hd⟩:=z5s n hTe (hwi i him) h2
     exact ⟨(cs',ds),h1,hd⟩
    obtain ⟨S,hS⟩:=choose_lt each
    have hL:((List.range len).map fun i=>(S i).2).length = len:=by simp
    have hcell:∀ i,i < len->∀ (j:Nat) (u:Value),((S i).1)[j]? = some u->w.cell? (a.add (i * P.cellsOf e + j)) = some u:=by
     intro i hil j u hj
     obtain ⟨_,hlen,hat⟩:=World.cells?_some (hS i hil).1
     have hjl:j < P.cellsOf e:=by rw [← hlen]; exact (List.getElem?_eq_some_iff.1 hj).1
     rw [← Go.Deep.add_add,hat j hjl,hj]
    refine ⟨[.sl (((List.range len).map fun i=>(S i).2).map (zb6 Te))],.sl Te _ (by rw [hL]; exact Nat.le_trans hlr (by decide)) (fun c hc=>?_),rfl,fun j d v hd hv=>?_⟩
    ·obtain ⟨i,hir,rfl⟩:=List.mem_map.1 hc
     exact (hS i (List.mem_range.1 hir)).2.1
    ·cases j with
     | succ j=>simp at hd
     | zero =>
      cases hd; cases hv
      have hL2:(((List.range len).map fun i=>(S i).2).map (zb6 Te)).length = len:=by simp
      have hget:∀ (i:Nat) (d:AV),(((List.range len).map fun i=>(S i).2).map (zb6 Te))[i]? = some d->i < len∧d = zb6 Te (S i).2:=by
       intro i d hd
       rw [List.getElem?_map,List.getElem?_map] at hd
       by_cases hlt:i < len
       ·rw [List.getElem?_range hlt] at hd; simp at hd
        exact ⟨hlt,hd.symm⟩
       ·rw [List.getElem?_eq_none (by simp; omega)] at hd; cases hd
      have key:VR (fun b _=>b < w.heap.size) w (.sl (((List.range len).map fun i=>(S i).2).map (zb6 Te))) (.slice (some a) (((List.range len).map fun i=>(S i).2).map (zb6 Te)).length cap):=by
       refine .sl _ (some a) cap (P.cellsOf e) (fun i j=>((S i).1).getD j (.bool false)) (by rw [hL2]; omega) hm (fun h0=>?_) (fun i d j c hi hj=>?_)
       ·rw [hL2] at h0
        obtain ⟨ab,ao,asp⟩:=a
        obtain ⟨_,hlen,_⟩:=World.cells?_some (hS 0 h0).1
        have hu0:((S 0).1)[0]? = some (((S 0).1)[0]'(by omega)):=List.getElem?_eq_getElem _
        have hc0:=hcell 0 h0 0 _ hu0
        have e0:(⟨ab,ao,asp⟩:Addr).add (0 * P.cellsOf e + 0) = ⟨ab,ao,asp⟩:=by simp [Addr.add]
        rw [e0] at hc0
        have hsp:asp = none:=by
         cases asp with
         | none=>rfl
         | some k =>
          simp only [World.cell?] at hc0
          split at hc0
          ·simp at hc0
          ·cases hc0
        subst hsp
        have hlt:=block_lt_of_cell hc0
        refine ⟨ab,ao,rfl,hlt,fun d hd=>?_,fun i j hi hj=>⟨hlt,?_⟩⟩
        ·obtain ⟨c,hc,rfl⟩:=List.mem_map.1 hd
         obtain ⟨i,hir,rfl⟩:=List.mem_map.1 hc
         have h2:=(hS i (List.mem_range.1 hir)).2
         obtain ⟨_,hlen,_⟩:=World.cells?_some (hS i (List.mem_range.1 hir)).1
         rw [z9o h2.1,h2.2.1,hlen]
        ·rw [hL2] at hi
         obtain ⟨_,hlen,_⟩:=World.cells?_some (hS i hi).1
         have hv:((S i).1)[j]? = some (((S i).1).getD j (.bool false)):=by
          rw [List.getD_eq_getElem?_getD,List.getElem?_eq_getElem (by omega)]; rfl
         have:=hcell i hi j _ hv
         have e:(⟨ab,ao,none⟩:Addr).add (i * P.cellsOf e + j) = ⟨ab,ao + (i * P.cellsOf e + j),none⟩:=by
          unfold Addr.add; split
          ·rename_i h; rw [h]; rfl
          ·rfl
         rwa [e] at this
       ·obtain ⟨hlt,rfl⟩:=hget i d hi
        obtain ⟨q1,q2,q3⟩:=(hS i hlt).2
        rw [z9o q1] at hj
        have hjl:=(List.getElem?_eq_some_iff.1 hj).1
        refine q3 j c _ hj ?_
        rw [List.getD_eq_getElem?_getD,List.getElem?_eq_getElem (by omega)]; rfl
      rw [hL2] at key
      exact key
  ·rename_i fs hu
   split at ht
   case isFalse=>cases ht
   rename_i hoff
   obtain ⟨Ts,hTs,rfl⟩:=Option.map_eq_some_iff.1 ht
   obtain ⟨xs,m,_,rfl,hl,hxs,hf⟩:=DataW.trod_struct hu h
   simp only [DataW.weights,hu] at hw
   have:=z5g (n:=n) (m:=m) (fun h1 h2 h3=>z5s n h1 h2 h3) (cs:=cs) (fs.toList.map fun f=>(f.offset,f.type)) 0 Ts xs (by rw [hl]; exact hoff) (by rw [List.map_map]; exact hTs) (by simpa using hxs)
    (fun i f hfi=>by
     rw [List.getElem?_map,Option.map_eq_some_iff] at hfi
     obtain ⟨g,hg,rfl⟩:=hfi
     exact hf i g (by simpa using hg)) (by rw [List.map_map]; exact hw)
   simpa using this
  ·rename_i k e hu
   split at ht
   case isFalse=>cases ht
   rename_i hoff
   obtain ⟨Ts,hTs,rfl⟩:=Option.map_eq_some_iff.1 ht
   obtain ⟨xs,m,_,rfl,hl,hxs,hf⟩:=DataW.trod_array hu h
   simp only [DataW.weights,hu] at hw
   have hm:(z2c k (P.cellsOf e) e k).map (·.2) = List.replicate k e:=by
    have:∀ j,(z2c k (P.cellsOf e) e j).map (·.2) = List.replicate j e:=by
     intro j
     induction j with
     | zero=>rfl
     | succ j ih=>rw [z2c,List.map_cons,ih,List.replicate_succ]
    exact this k
   have hlen:(z2c k (P.cellsOf e) e k).length = k:=by
    have:=congrArg List.length hm
    simpa using this
   have:=z5g (n:=n) (m:=m) (fun h1 h2 h3=>z5s n h1 h2 h3) (cs:=cs) (z2c k (P.cellsOf e) e k) 0 Ts xs (by rw [hl]; exact hoff) (by rw [hm]; exact hTs) (by rw [hlen,hxs])
    (fun i f hfi=>by
     obtain ⟨h1,rfl⟩:=zho _ _ _ _ _ _ (Nat.le_refl _) hfi
     rw [Nat.sub_self,Nat.zero_add]
     exact hf i h1) (by rw [hm]; exact z8l (by rw [List.length_map,hxs]) hw)
   simpa using this
  ·cases ht
end
end
section
namespace kp
open Go.Op (bytesLess)
def common:List UInt8->List UInt8->Nat
 | a :: x,b :: y=>if a = b then common x y + 1 else 0
 | _,_=>0
end kp
end
section
open Go.RowKit
attribute [local go_sem ↓] z1y z0n
structure Spn where
 lo:ByteArray
 hi:ByteArray
 op:Bool
deriving DecidableEq
def Spn.a (s:Spn):AV:=.agg [.str s.lo,.str s.hi,.bool s.op]
def lt (a b:ByteArray):Bool:=Op.bytesLess a.toList b.toList
def Spn.has (s:Spn) (k:ByteArray):Bool:=!lt k s.lo && (s.op || lt k s.hi)
def Spn.empty (s:Spn):Bool:=!s.op && !lt s.lo s.hi
def Spn.none:Spn:=⟨⟨#[]⟩,⟨#[]⟩,false⟩
def Spn.norm (s:Spn):Spn:=if s.empty then Spn.none else if s.op then ⟨s.lo,⟨#[]⟩,true⟩ else s
def maxS (a b:ByteArray):ByteArray:=if lt a b then b else a
def minS (a b:ByteArray):ByteArray:=if lt b a then b else a
def Spn.cut (a b:Spn):Spn:=⟨maxS a.lo b.lo,if a.op then b.hi else if b.op then a.hi else minS a.hi b.hi,a.op && b.op⟩
def Spn.meet (a b:Spn):Spn:=(a.cut b).norm
def Spn.within (a b:Spn):Bool:=decide ((a.meet b).norm = a.norm)
def Spn.touch (a b:Spn):Bool:=!(a.meet b).empty
attribute [local irreducible] mxS mnS
theorem Spn.ext' {a b:Spn} (h1:a.lo = b.lo) (h2:a.hi = b.hi) (h3:a.op = b.op):a = b:=by cases a; cases b; simp_all
def pointS (k:ByteArray):Spn:=⟨k,k ++ ⟨#[0]⟩,false⟩
end
section
open Go.RowKit
attribute [local go_sem ↓] z1y z0n
structure Eff where
 kind:Int
 val:ByteArray
deriving DecidableEq
structure Msg where
 stamp:Int
 kind:Int
 key:ByteArray
 hi:ByteArray
 op:Bool
 val:ByteArray
deriving DecidableEq
def Eff.a (e:Eff):AV:=.agg [.int .i64 e.kind,.str e.val]
def Msg.a (m:Msg):AV:=.agg [.int .i64 m.stamp,.int .i64 m.kind,.str m.key,.str m.hi,.bool m.op,.str m.val]
def Eff.none:Eff:=⟨0,⟨#[]⟩⟩
def Msg.span (m:Msg):Spn:=if m.kind = 4 then ⟨m.key,m.hi,m.op⟩ else pointS m.key
def Msg.on (m:Msg) (k:ByteArray):Eff:=if m.span.has k = true then (if m.kind = 1∨m.kind = 2 then ⟨m.kind,m.val⟩ else if m.kind = 3∨m.kind = 4 then ⟨3,⟨#[]⟩⟩ else Eff.none) else Eff.none
end
section
open Go.RowKit
attribute [local go_sem ↓] z1y z0n
def MOk (l:List Msg):Prop:=l.length≤1000000∧∀ m,m ∈ l->m.key.size≤9223372036854775806
def zij (p:Nat->Bool):Nat->Nat->Option Nat
 | 0,_=>none
 | f + 1,j=>if p j then some j else zij p f (j + 1)
def nextOf (l:List Msg) (i:Nat):Option Nat:=match l[i]? with
 | some m=>zij (fun j=>(l[j]?).any fun x=>x.span.touch m.span) (l.length - (i + 1)) (i + 1)
 | none=>none
def cov (l:List Msg) (i:Nat):Bool:=match l[i]? with
 | some m=>(l.drop (i + 1)).any fun x=>x.kind == 4 && m.span.within x.span
 | none=>false
def dead (l:List Msg) (i:Nat):Bool:=match l[i]? with
 | some m=>if m.kind = 4 then cov l i else match nextOf l i with
  | some j=>(l[j]?).any fun x=>x.kind != 2
  | none=>false
 | none=>false
end
section
open Go.RowKit
def ROk (l:List Msg):Prop:=l.length≤1000000∧∀ m,m ∈ l->m.key.size≤9223372036854775806∧m.val.size≤4611686018427387903
theorem ROk.ok {l:List Msg} (h:ROk l):MOk l:=⟨h.1,fun m hm=>(h.2 m hm).1⟩
end
section
open Go.RowKit
attribute [local go_sem ↓] z1y z0n
abbrev nilS (s:ByteArray):Bool:=s.toList == (ByteArray.mk #[]).toList
def Msg.right (m : Msg) : Bool := decide (1 ≤ m.stamp) && decide (m.key.size ≤ 16) && decide (m.val.size ≤ 16) && decide (m.hi.size ≤ 16) &&
  (if m.kind = 4 then nilS m.val && (!m.op || nilS m.hi) && !m.span.empty
   else nilS m.hi && !m.op && ((m.kind == 1) || (m.kind == 2) || ((m.kind == 3) && nilS m.val)))
def Msg.bulk (m:Msg):Nat:=1 + m.key.size + m.hi.size + m.val.size
end
section
open Go.RowKit
theorem z06 {T:Ty} {fs:List Ty} {ds:List AV} (h:TypedC (.st (T :: fs)) ds):∃ c r,ds = c ++ r∧TypedC T c∧TypedC (.st fs) r:=by
 cases h with
 | cons h1 h2=>exact ⟨_,_,rfl,h1,h2⟩
theorem z5b {ds:List AV} (h:TypedC (.st []) ds):ds = []:=by cases h; rfl
theorem z0e {ds:List AV} (h:TypedC (.int .i64) ds):∃ n,ds = [.int .i64 n]∧-9223372036854775808≤n∧n≤9223372036854775807:=by
 cases h with
 | int k n h=>exact ⟨n,rfl,bounds_i64 h⟩
theorem z3c {ds:List AV} (h:TypedC .str ds):∃ s,ds = [.str s]∧s.size≤281474976710656:=by
 cases h with
 | str s h=>exact ⟨s,rfl,h⟩
theorem z5a {ds:List AV} (h:TypedC .bool ds):∃ b,ds = [.bool b]:=by
 cases h with
 | bool b=>exact ⟨b,rfl⟩
theorem zb3 {α:Type} (f:α->AV) (ok:α->Prop) {T:Ty} {ds:List AV} (h:TypedC (.sl T) ds) (hel:∀ c,TypedC T c->∃ a,zb6 T c = f a∧ok a):∃ l:List α,ds = [.sl (l.map f)]∧l.length≤281474976710656∧∀ a,a ∈ l->ok a:=by
 cases h with
 | sl T ls hlen h =>
  have:∃ l:List α,ls.map (zb6 T) = l.map f∧l.length = ls.length∧∀ a,a ∈ l->ok a:=by
   clear hlen
   induction ls with
   | nil=>exact ⟨[],rfl,rfl,fun a ha=>by cases ha⟩
   | cons c ls ih =>
    obtain ⟨l,h1,h2,h3⟩:=ih fun x hx=>h x (List.mem_cons_of_mem _ hx)
    obtain ⟨a,ha,hok⟩:=hel c (h c (List.mem_cons_self ..))
    refine ⟨a :: l,by rw [List.map_cons,List.map_cons,h1,ha],by rw [List.length_cons,List.length_cons,h2],fun b hb=>?_⟩
    rcases List.mem_cons.1 hb with rfl | hb
    ·exact hok
    ·exact h3 b hb
  obtain ⟨l,h1,h2,h3⟩:=this
  exact ⟨l,by rw [h1],by omega,h3⟩
structure Msg.ok (x:Msg):Prop where
 stamp:(-9223372036854775808≤x.stamp∧x.stamp≤9223372036854775807)
 kind:(-9223372036854775808≤x.kind∧x.kind≤9223372036854775807)
 key:x.key.size≤281474976710656
 hi:x.hi.size≤281474976710656
 op:True
 val:x.val.size≤281474976710656
def MsgT:Ty:=.st [.int .i64,.int .i64,.str,.str,.bool,.str]
theorem Msg.of {c:List AV} (h:TypedC MsgT c):∃ x:Msg,AV.agg c = x.a∧x.ok:=by
 obtain ⟨c0,r0,rfl,h0,h⟩:=z06 h
 obtain ⟨c1,r1,rfl,h1,h⟩:=z06 h
 obtain ⟨c2,r2,rfl,h2,h⟩:=z06 h
 obtain ⟨c3,r3,rfl,h3,h⟩:=z06 h
 obtain ⟨c4,r4,rfl,h4,h⟩:=z06 h
 obtain ⟨c5,r5,rfl,h5,h⟩:=z06 h
 obtain rfl:=z5b h
 obtain ⟨v0,rfl,b0⟩:=z0e h0
 obtain ⟨v1,rfl,b1⟩:=z0e h1
 obtain ⟨v2,rfl,b2⟩:=z3c h2
 obtain ⟨v3,rfl,b3⟩:=z3c h3
 obtain ⟨v4,rfl⟩:=z5a h4
 have b4:=True.intro
 obtain ⟨v5,rfl,b5⟩:=z3c h5
 exact ⟨⟨v0,v1,v2,v3,v4,v5⟩,rfl,⟨b0,b1,b2,b3,b4,b5⟩⟩
structure Par where
 key:ByteArray
 val:ByteArray
def Par.a (x:Par):AV:=.agg [.str x.key,.str x.val]
structure Par.ok (x:Par):Prop where
 key:x.key.size≤281474976710656
 val:x.val.size≤281474976710656
def ParT:Ty:=.st [.str,.str]
theorem Par.of {c:List AV} (h:TypedC ParT c):∃ x:Par,AV.agg c = x.a∧x.ok:=by
 obtain ⟨c0,r0,rfl,h0,h⟩:=z06 h
 obtain ⟨c1,r1,rfl,h1,h⟩:=z06 h
 obtain rfl:=z5b h
 obtain ⟨v0,rfl,b0⟩:=z3c h0
 obtain ⟨v1,rfl,b1⟩:=z3c h1
 exact ⟨⟨v0,v1⟩,rfl,⟨b0,b1⟩⟩
structure Nd where
 slot:Int
 level:Int
 pivots:List ByteArray
 kids:List Int
 high:ByteArray
 top:Bool
 right:Int
 seen:Int
 msgs:List Msg
 rows:List Par
def Nd.a (x:Nd):AV:=.agg [.int .i64 x.slot,.int .i64 x.level,.sl (x.pivots.map AV.str),.sl (x.kids.map (AV.int .i64)),.str x.high,.bool x.top,.int .i64 x.right,.int .i64 x.seen,.sl (x.msgs.map Msg.a),.sl (x.rows.map Par.a)]
structure Nd.ok (x:Nd):Prop where
 slot:(-9223372036854775808≤x.slot∧x.slot≤9223372036854775807)
 level:(-9223372036854775808≤x.level∧x.level≤9223372036854775807)
 pivots:(x.pivots.length≤281474976710656∧∀ z,z ∈ x.pivots->z.size≤281474976710656)
 kids:(x.kids.length≤281474976710656∧∀ z,z ∈ x.kids->(-9223372036854775808≤z∧z≤9223372036854775807))
 high:x.high.size≤281474976710656
 top:True
 right:(-9223372036854775808≤x.right∧x.right≤9223372036854775807)
 seen:(-9223372036854775808≤x.seen∧x.seen≤9223372036854775807)
 msgs:(x.msgs.length≤281474976710656∧∀ z,z ∈ x.msgs->z.ok)
 rows:(x.rows.length≤281474976710656∧∀ z,z ∈ x.rows->z.ok)
def NdT:Ty:=.st [.int .i64,.int .i64,.sl (.str),.sl (.int .i64),.str,.bool,.int .i64,.int .i64,.sl MsgT,.sl ParT]
theorem Nd.of {c:List AV} (h:TypedC NdT c):∃ x:Nd,AV.agg c = x.a∧x.ok:=by
 obtain ⟨c0,r0,rfl,h0,h⟩:=z06 h
 obtain ⟨c1,r1,rfl,h1,h⟩:=z06 h
 obtain ⟨c2,r2,rfl,h2,h⟩:=z06 h
 obtain ⟨c3,r3,rfl,h3,h⟩:=z06 h
 obtain ⟨c4,r4,rfl,h4,h⟩:=z06 h
 obtain ⟨c5,r5,rfl,h5,h⟩:=z06 h
 obtain ⟨c6,r6,rfl,h6,h⟩:=z06 h
 obtain ⟨c7,r7,rfl,h7,h⟩:=z06 h
 obtain ⟨c8,r8,rfl,h8,h⟩:=z06 h
 obtain ⟨c9,r9,rfl,h9,h⟩:=z06 h
 obtain rfl:=z5b h
 obtain ⟨v0,rfl,b0⟩:=z0e h0
 obtain ⟨v1,rfl,b1⟩:=z0e h1
 obtain ⟨v2,rfl,b2⟩:=zb3 AV.str (fun z:ByteArray=>z.size≤281474976710656) h2 (fun c hc=>by obtain ⟨v,rfl,b⟩:=z3c hc; exact ⟨v,rfl,b⟩)
 obtain ⟨v3,rfl,b3⟩:=zb3 (AV.int .i64) (fun z:Int=>-9223372036854775808≤z∧z≤9223372036854775807) h3 (fun c hc=>by obtain ⟨v,rfl,b⟩:=z0e hc; exact ⟨v,rfl,b⟩)
 obtain ⟨v4,rfl,b4⟩:=z3c h4
 obtain ⟨v5,rfl⟩:=z5a h5
 have b5:=True.intro
 obtain ⟨v6,rfl,b6⟩:=z0e h6
 obtain ⟨v7,rfl,b7⟩:=z0e h7
 obtain ⟨v8,rfl,b8⟩:=zb3 Msg.a Msg.ok h8 (fun c hc=>Msg.of hc)
 obtain ⟨v9,rfl,b9⟩:=zb3 Par.a Par.ok h9 (fun c hc=>Par.of hc)
 exact ⟨⟨v0,v1,v2,v3,v4,v5,v6,v7,v8,v9⟩,rfl,⟨b0,b1,b2,b3,b4,b5,b6,b7,b8,b9⟩⟩
structure Hld where
 thread:Int
 slot:Int
 wr:Bool
def Hld.a (x:Hld):AV:=.agg [.int .i64 x.thread,.int .i64 x.slot,.bool x.wr]
structure Hld.ok (x:Hld):Prop where
 thread:(-9223372036854775808≤x.thread∧x.thread≤9223372036854775807)
 slot:(-9223372036854775808≤x.slot∧x.slot≤9223372036854775807)
 wr:True
def HldT:Ty:=.st [.int .i64,.int .i64,.bool]
theorem Hld.of {c:List AV} (h:TypedC HldT c):∃ x:Hld,AV.agg c = x.a∧x.ok:=by
 obtain ⟨c0,r0,rfl,h0,h⟩:=z06 h
 obtain ⟨c1,r1,rfl,h1,h⟩:=z06 h
 obtain ⟨c2,r2,rfl,h2,h⟩:=z06 h
 obtain rfl:=z5b h
 obtain ⟨v0,rfl,b0⟩:=z0e h0
 obtain ⟨v1,rfl,b1⟩:=z0e h1
 obtain ⟨v2,rfl⟩:=z5a h2
 have b2:=True.intro
 exact ⟨⟨v0,v1,v2⟩,rfl,⟨b0,b1,b2⟩⟩
structure Cfg where
 fanout:Int
 leaf:Int
 budget:Int
 slots:Int
 restarts:Int
def Cfg.a (x:Cfg):AV:=.agg [.int .i64 x.fanout,.int .i64 x.leaf,.int .i64 x.budget,.int .i64 x.slots,.int .i64 x.restarts]
structure Cfg.ok (x:Cfg):Prop where
 fanout:(-9223372036854775808≤x.fanout∧x.fanout≤9223372036854775807)
 leaf:(-9223372036854775808≤x.leaf∧x.leaf≤9223372036854775807)
 budget:(-9223372036854775808≤x.budget∧x.budget≤9223372036854775807)
 slots:(-9223372036854775808≤x.slots∧x.slots≤9223372036854775807)
 restarts:(-9223372036854775808≤x.restarts∧x.restarts≤9223372036854775807)
def CfgT:Ty:=.st [.int .i64,.int .i64,.int .i64,.int .i64,.int .i64]
theorem Cfg.of {c:List AV} (h:TypedC CfgT c):∃ x:Cfg,AV.agg c = x.a∧x.ok:=by
 obtain ⟨c0,r0,rfl,h0,h⟩:=z06 h
 obtain ⟨c1,r1,rfl,h1,h⟩:=z06 h
 obtain ⟨c2,r2,rfl,h2,h⟩:=z06 h
 obtain ⟨c3,r3,rfl,h3,h⟩:=z06 h
 obtain ⟨c4,r4,rfl,h4,h⟩:=z06 h
 obtain rfl:=z5b h
 obtain ⟨v0,rfl,b0⟩:=z0e h0
 obtain ⟨v1,rfl,b1⟩:=z0e h1
 obtain ⟨v2,rfl,b2⟩:=z0e h2
 obtain ⟨v3,rfl,b3⟩:=z0e h3
 obtain ⟨v4,rfl,b4⟩:=z0e h4
 exact ⟨⟨v0,v1,v2,v3,v4⟩,rfl,⟨b0,b1,b2,b3,b4⟩⟩
structure Gau where
 nodes:Int
 leaves:Int
 height:Int
 rows:Int
 msgs:Int
 bytes:Int
 empty:Int
 levels:List Int
 waits:List Int
def Gau.a (x:Gau):AV:=.agg [.int .i64 x.nodes,.int .i64 x.leaves,.int .i64 x.height,.int .i64 x.rows,.int .i64 x.msgs,.int .i64 x.bytes,.int .i64 x.empty,.sl (x.levels.map (AV.int .i64)),.sl (x.waits.map (AV.int .i64))]
structure Gau.ok (x:Gau):Prop where
 nodes:(-9223372036854775808≤x.nodes∧x.nodes≤9223372036854775807)
 leaves:(-9223372036854775808≤x.leaves∧x.leaves≤9223372036854775807)
 height:(-9223372036854775808≤x.height∧x.height≤9223372036854775807)
 rows:(-9223372036854775808≤x.rows∧x.rows≤9223372036854775807)
 msgs:(-9223372036854775808≤x.msgs∧x.msgs≤9223372036854775807)
 bytes:(-9223372036854775808≤x.bytes∧x.bytes≤9223372036854775807)
 empty:(-9223372036854775808≤x.empty∧x.empty≤9223372036854775807)
 levels:(x.levels.length≤281474976710656∧∀ z,z ∈ x.levels->(-9223372036854775808≤z∧z≤9223372036854775807))
 waits:(x.waits.length≤281474976710656∧∀ z,z ∈ x.waits->(-9223372036854775808≤z∧z≤9223372036854775807))
def GauT:Ty:=.st [.int .i64,.int .i64,.int .i64,.int .i64,.int .i64,.int .i64,.int .i64,.sl (.int .i64),.sl (.int .i64)]
theorem Gau.of {c:List AV} (h:TypedC GauT c):∃ x:Gau,AV.agg c = x.a∧x.ok:=by
 obtain ⟨c0,r0,rfl,h0,h⟩:=z06 h
 obtain ⟨c1,r1,rfl,h1,h⟩:=z06 h
 obtain ⟨c2,r2,rfl,h2,h⟩:=z06 h
 obtain ⟨c3,r3,rfl,h3,h⟩:=z06 h
 obtain ⟨c4,r4,rfl,h4,h⟩:=z06 h
 obtain ⟨c5,r5,rfl,h5,h⟩:=z06 h
 obtain ⟨c6,r6,rfl,h6,h⟩:=z06 h
 obtain ⟨c7,r7,rfl,h7,h⟩:=z06 h
 obtain ⟨c8,r8,rfl,h8,h⟩:=z06 h
 obtain rfl:=z5b h
 obtain ⟨v0,rfl,b0⟩:=z0e h0
 obtain ⟨v1,rfl,b1⟩:=z0e h1
 obtain ⟨v2,rfl,b2⟩:=z0e h2
 obtain ⟨v3,rfl,b3⟩:=z0e h3
 obtain ⟨v4,rfl,b4⟩:=z0e h4
 obtain ⟨v5,rfl,b5⟩:=z0e h5
 obtain ⟨v6,rfl,b6⟩:=z0e h6
 obtain ⟨v7,rfl,b7⟩:=zb3 (AV.int .i64) (fun z:Int=>-9223372036854775808≤z∧z≤9223372036854775807) h7 (fun c hc=>by obtain ⟨v,rfl,b⟩:=z0e hc; exact ⟨v,rfl,b⟩)
 obtain ⟨v8,rfl,b8⟩:=zb3 (AV.int .i64) (fun z:Int=>-9223372036854775808≤z∧z≤9223372036854775807) h8 (fun c hc=>by obtain ⟨v,rfl,b⟩:=z0e hc; exact ⟨v,rfl,b⟩)
 exact ⟨⟨v0,v1,v2,v3,v4,v5,v6,v7,v8⟩,rfl,⟨b0,b1,b2,b3,b4,b5,b6,b7,b8⟩⟩
theorem z0v {α:Type} {f:α->AV} {l:List α} {j:Nat} {x:α} (h:l[j]? = some x):(l.map f).getD j .und = f x:=by
 rw [List.getD_eq_getElem?_getD,List.getElem?_map,h]; rfl
theorem z0o {α:Type} {l:List α} {j:Nat} (h:j < l.length):∃ x,l[j]? = some x:=⟨_,List.getElem?_eq_getElem h⟩
theorem z2s {j:Nat} (h:j≤1000000000000000):IntKind.i64.wrap ((j:Int) + 1) = ((j + 1:Nat):Int):=by rw [IntWalk.i64_in _ (by omega)]; rfl
theorem z0u {α:Type} {l:List α} {j:Nat} {x:α} (h:l[j]? = some x):l.drop j = x :: l.drop (j + 1):=by
 obtain ⟨hlt,e⟩:=List.getElem?_eq_some_iff.1 h
 rw [List.drop_eq_getElem_cons hlt,e]
theorem zd0 {α:Type} {l:List α} {j:Nat} {x:α} (h:l[j]? = some x):l.take (j + 1) = l.take j ++ [x]:=by
 rw [List.take_add_one,h]; rfl
end
section
open Go.RowKit
def nul:ByteArray:=⟨#[]⟩
structure Opr where
 kind:Int
 key:ByteArray
 hi:ByteArray
 op:Bool
 val:ByteArray
 lim:Int
def Opr.a (o:Opr):AV:=.agg [.int .i64 o.kind,.str o.key,.str o.hi,.bool o.op,.str o.val,.int .i64 o.lim]
def Opr.zero:Opr:=⟨0,⟨#[]⟩,⟨#[]⟩,false,⟨#[]⟩,0⟩
structure Ans where
 err:Int
 has:Bool
 val:ByteArray
 prs:List Par
def Ans.a (x:Ans):AV:=.agg [.int .i64 x.err,.bool x.has,.str x.val,.sl (x.prs.map Par.a)]
def Ans.zero:Ans:=⟨0,false,nul,[]⟩
structure Evt where
 client:Int
 op:Opr
 ans:Ans
 began:Int
 point:Int
 ended:Int
 done:Bool
def Evt.a (x:Evt):AV:=.agg [.int .i64 x.client,.int .i64 x.op.kind,.str x.op.key,.str x.op.hi,.bool x.op.op,.str x.op.val,.int .i64 x.op.lim,.int .i64 x.ans.err,.bool x.ans.has,.str x.ans.val,.sl (x.ans.prs.map Par.a),.int .i64 x.began,.int .i64 x.point,.int .i64 x.ended,.bool x.done]
def Evt.zero:Evt:=⟨0,Opr.zero,Ans.zero,0,0,0,false⟩
structure Opr.ok (x:Opr):Prop where
 kind:(-9223372036854775808≤x.kind∧x.kind≤9223372036854775807)
 key:x.key.size≤281474976710656
 hi:x.hi.size≤281474976710656
 op:True
 val:x.val.size≤281474976710656
 lim:(-9223372036854775808≤x.lim∧x.lim≤9223372036854775807)
def OprT:Ty:=.st [.int .i64,.str,.str,.bool,.str,.int .i64]
theorem Opr.of {c:List AV} (h:TypedC OprT c):∃ x:Opr,AV.agg c = x.a∧x.ok:=by
 obtain ⟨c0,r0,rfl,h0,h⟩:=z06 h
 obtain ⟨c1,r1,rfl,h1,h⟩:=z06 h
 obtain ⟨c2,r2,rfl,h2,h⟩:=z06 h
 obtain ⟨c3,r3,rfl,h3,h⟩:=z06 h
 obtain ⟨c4,r4,rfl,h4,h⟩:=z06 h
 obtain ⟨c5,r5,rfl,h5,h⟩:=z06 h
 obtain rfl:=z5b h
 obtain ⟨v0,rfl,b0⟩:=z0e h0
 obtain ⟨v1,rfl,b1⟩:=z3c h1
 obtain ⟨v2,rfl,b2⟩:=z3c h2
 obtain ⟨v3,rfl⟩:=z5a h3
 have b3:=True.intro
 obtain ⟨v4,rfl,b4⟩:=z3c h4
 obtain ⟨v5,rfl,b5⟩:=z0e h5
 exact ⟨⟨v0,v1,v2,v3,v4,v5⟩,rfl,⟨b0,b1,b2,b3,b4,b5⟩⟩
structure Ans.ok (x:Ans):Prop where
 err:(-9223372036854775808≤x.err∧x.err≤9223372036854775807)
 has:True
 val:x.val.size≤281474976710656
 prs:(x.prs.length≤281474976710656∧∀ z,z ∈ x.prs->z.ok)
def AnsT:Ty:=.st [.int .i64,.bool,.str,.sl ParT]
theorem Ans.of {c:List AV} (h:TypedC AnsT c):∃ x:Ans,AV.agg c = x.a∧x.ok:=by
 obtain ⟨c0,r0,rfl,h0,h⟩:=z06 h
 obtain ⟨c1,r1,rfl,h1,h⟩:=z06 h
 obtain ⟨c2,r2,rfl,h2,h⟩:=z06 h
 obtain ⟨c3,r3,rfl,h3,h⟩:=z06 h
 obtain rfl:=z5b h
 obtain ⟨v0,rfl,b0⟩:=z0e h0
 obtain ⟨v1,rfl⟩:=z5a h1
 have b1:=True.intro
 obtain ⟨v2,rfl,b2⟩:=z3c h2
 obtain ⟨v3,rfl,b3⟩:=zb3 Par.a Par.ok h3 (fun c hc=>Par.of hc)
 exact ⟨⟨v0,v1,v2,v3⟩,rfl,⟨b0,b1,b2,b3⟩⟩
structure Evt.ok (x:Evt):Prop where
 client:(-9223372036854775808≤x.client∧x.client≤9223372036854775807)
 op:x.op.ok
 ans:x.ans.ok
 began:(-9223372036854775808≤x.began∧x.began≤9223372036854775807)
 point:(-9223372036854775808≤x.point∧x.point≤9223372036854775807)
 ended:(-9223372036854775808≤x.ended∧x.ended≤9223372036854775807)
 done:True
def EvtT:Ty:=.st [.int .i64,OprT,AnsT,.int .i64,.int .i64,.int .i64,.bool]
theorem Evt.of {c:List AV} (h:TypedC EvtT c):∃ x:Evt,AV.agg c = x.a∧x.ok:=by
 obtain ⟨c0,r0,rfl,h0,h⟩:=z06 h
 obtain ⟨c1,r1,rfl,h1,h⟩:=z06 h
 obtain ⟨c2,r2,rfl,h2,h⟩:=z06 h
 obtain ⟨c3,r3,rfl,h3,h⟩:=z06 h
 obtain ⟨c4,r4,rfl,h4,h⟩:=z06 h
 obtain ⟨c5,r5,rfl,h5,h⟩:=z06 h
 obtain ⟨c6,r6,rfl,h6,h⟩:=z06 h
 obtain rfl:=z5b h
 obtain ⟨v0,rfl,b0⟩:=z0e h0
 obtain ⟨v1,e1,b1⟩:=Opr.of h1
 cases e1
 obtain ⟨v2,e2,b2⟩:=Ans.of h2
 cases e2
 obtain ⟨v3,rfl,b3⟩:=z0e h3
 obtain ⟨v4,rfl,b4⟩:=z0e h4
 obtain ⟨v5,rfl,b5⟩:=z0e h5
 obtain ⟨v6,rfl⟩:=z5a h6
 have b6:=True.intro
 exact ⟨⟨v0,v1,v2,v3,v4,v5,v6⟩,rfl,⟨b0,b1,b2,b3,b4,b5,b6⟩⟩
end
section
open Go.RowKit
attribute [local go_sem ↓] z1y z0n
def r_peq_0:Reg:=⟨[],[⟨.mv (.c (.bool false)),some 4,none,[],[]⟩],[],[],false⟩
def zk1:List ROp:=[⟨.mv (.t 0),some 6,none,[],[]⟩,⟨.len false (.t 6),some 7,none,[],[]⟩,⟨.mv (.t 1),some 8,none,[],[]⟩,⟨.len false (.t 8),some 9,none,[],[]⟩,⟨.bin .neq (.t 7) (.t 9),some 10,none,[],[]⟩]
def r_peq_1:Reg:=⟨[],zk1,[],[],false⟩
def r_peq_2:Reg:=⟨[],[⟨.mv (.c (.bool false)),some 4,none,[],[]⟩],[],[],false⟩
def zk0:List ROp:=[⟨.mv (.t 0),some 11,none,[],[]⟩,⟨.len false (.t 11),some 12,none,[],[]⟩,⟨.mv (.c (.int .i64 0)),some 13,none,[],[]⟩]
def r_peq_3:Reg:=⟨[],zk0,[],[],false⟩
def r_peq_4:Reg:=⟨[],[⟨.bin .lss (.t 13) (.t 12),some 14,none,[],[]⟩],[],[],false⟩
def r_peq_5:Reg:=⟨[],[⟨.mv (.t 13),some 15,none,[],[]⟩,⟨.mv (.t 15),some 5,none,[],[]⟩],[],[],false⟩
def zln:List ROp:=[⟨.mv (.t 0),some 16,none,[],[]⟩,⟨.mv (.t 5),some 17,none,[],[]⟩,⟨.iaddr 2 (.t 16) (.t 17),some 18,none,[],[]⟩,⟨.load 2 true (.t 18),some 19,none,[],[]⟩,⟨.mv (.t 1),some 20,none,[],[]⟩,⟨.mv (.t 5),some 21,none,[],[]⟩,⟨.iaddr 2 (.t 20) (.t 21),some 22,none,[],[]⟩,⟨.load 2 true (.t 22),some 23,none,[],[]⟩]
def r_peq_6:Reg:=⟨zln,[⟨.feq true [(0,1),(1,1)] (.t 19) (.t 23),some 24,none,[],[]⟩],[],[],true⟩
def r_peq_7:Reg:=⟨[],[⟨.mv (.c (.bool false)),some 4,none,[],[]⟩],[],[],false⟩
def r_peq_8:Reg:=⟨[],[⟨.bin .add (.t 13) (.c (.int .i64 1)),some 25,none,[],[]⟩,⟨.mv (.t 25),some 13,none,[],[]⟩],[],[],false⟩
def zpq:IR:=(.seq (.reg r_peq_4)
 (.seq (.cond (.t 14) .skip
 (.exit 0))
 (.seq (.block 1 (.seq (.reg r_peq_5)
 (.seq (.reg r_peq_6)
 (.cond (.t 24) (.seq (.reg r_peq_7)
 .ret)
 .skip))))
 (.reg r_peq_8))))
def zpr:Reg:=⟨[],[⟨.mv (.c (.bool true)),some 4,none,[],[]⟩],[],[],false⟩
def ir_peq:IR:=(.seq (.reg r_peq_0)
 (.seq (.seq (.reg r_peq_1)
 (.cond (.t 10) (.seq (.reg r_peq_2)
 .ret)
 .skip))
 (.seq (.seq (.reg r_peq_3)
 (.block 0 (.loop zpq)))
 (.seq (.reg zpr)
 .ret))))
def res_peq:List RDesc:=[(.tmp 4)]
theorem e_peq_0:EqR r_peq_0 [⟨.mv (.c (.bool false)),some 4,none,[],[]⟩] []:=fun _ _ _=>rfl
theorem e_peq_1:EqR r_peq_1 zk1 []:=fun _ _ _=>rfl
theorem e_peq_2:EqR r_peq_2 [⟨.mv (.c (.bool false)),some 4,none,[],[]⟩] []:=fun _ _ _=>rfl
theorem e_peq_3:EqR r_peq_3 zk0 []:=fun _ _ _=>rfl
theorem e_peq_4:EqR r_peq_4 [⟨.bin .lss (.t 13) (.t 12),some 14,none,[],[]⟩] []:=fun _ _ _=>rfl
theorem e_peq_5:EqR r_peq_5 [⟨.mv (.t 13),some 15,none,[],[]⟩,⟨.mv (.t 15),some 5,none,[],[]⟩] []:=fun _ _ _=>rfl
theorem e_peq_6 (C:FuncId->List AV->AV->Prop) (σ:St) (K:St->Prop):z1d C r_peq_6 σ K = z07 C [] [⟨.feq true [(0,1),(1,1)] (.t 19) (.t 23),some 24,none,[],[]⟩] zln (σ.kills []) K:=rfl
theorem e_peq_7:EqR r_peq_7 [⟨.mv (.c (.bool false)),some 4,none,[],[]⟩] []:=fun _ _ _=>rfl
theorem e_peq_8:EqR r_peq_8 [⟨.bin .add (.t 13) (.c (.int .i64 1)),some 25,none,[],[]⟩,⟨.mv (.t 25),some 13,none,[],[]⟩] []:=fun _ _ _=>rfl
theorem e_peq_10:EqR zpr [⟨.mv (.c (.bool true)),some 4,none,[],[]⟩] []:=fun _ _ _=>rfl
theorem fn_peq {args:List AV} {r:AV} (ha:args.length.ble Tryz.f88.ntmps = true) (h:run (AFn Tryz.prog) ir_peq (endQ res_peq r) (z0h args)):AFn Tryz.prog 88 args r :=
 AFn.of_code (pv:=false) (hint:=fun _=>[]) (c:=Tryz.f88.body.getD .skip) (by kernel_rfl) (by kernel_rfl) Tryz.func88 (by kernel_rfl) (by kernel_rfl) (by kernel_rfl) (of_decide_eq_true (by kernel_rfl)) (Nat.le_of_ble_eq_true ha) (Nat.le_of_ble_eq_true (by kernel_rfl)) (z0g h)
def r_r9s_0:Reg:=⟨[],[⟨.mv (.c (.bool false)),some 4,none,[],[]⟩],[],[],false⟩
def zjz:List ROp:=[⟨.mv (.t 0),some 6,none,[],[]⟩,⟨.len false (.t 6),some 7,none,[],[]⟩,⟨.mv (.t 1),some 8,none,[],[]⟩,⟨.len false (.t 8),some 9,none,[],[]⟩,⟨.bin .neq (.t 7) (.t 9),some 10,none,[],[]⟩]
def r_r9s_1:Reg:=⟨[],zjz,[],[],false⟩
def r_r9s_2:Reg:=⟨[],[⟨.mv (.c (.bool false)),some 4,none,[],[]⟩],[],[],false⟩
def r_r9s_3:Reg:=⟨[],[⟨.mv (.c (.int .i64 0)),some 5,none,[],[]⟩],[],[],false⟩
def zjy:List ROp:=[⟨.mv (.t 5),some 11,none,[],[]⟩,⟨.mv (.t 0),some 12,none,[],[]⟩,⟨.len false (.t 12),some 13,none,[],[]⟩,⟨.bin .lss (.t 11) (.t 13),some 14,none,[],[]⟩]
def r_r9s_4:Reg:=⟨[],zjy,[],[],false⟩
def zlm:List ROp:=[⟨.mv (.t 0),some 17,none,[],[]⟩,⟨.mv (.t 5),some 18,none,[],[]⟩,⟨.iaddr 2 (.t 17) (.t 18),some 19,none,[],[]⟩,⟨.load 2 true (.t 19),some 20,none,[],[]⟩,⟨.mv (.t 1),some 21,none,[],[]⟩,⟨.mv (.t 5),some 22,none,[],[]⟩,⟨.iaddr 2 (.t 21) (.t 22),some 23,none,[],[]⟩,⟨.load 2 true (.t 23),some 24,none,[],[]⟩]
def r_r9s_5:Reg:=⟨zlm,[⟨.feq true [(0,1),(1,1)] (.t 20) (.t 24),some 25,none,[],[]⟩],[],[],true⟩
def r_r9s_6:Reg:=⟨[],[⟨.mv (.c (.bool false)),some 4,none,[],[]⟩],[],[],false⟩
def zjx:List ROp:=[⟨.mv (.t 5),some 15,none,[],[]⟩,⟨.bin .add (.t 15) (.c (.int .i64 1)),some 16,none,[],[]⟩,⟨.mv (.t 16),some 5,none,[],[]⟩]
def r_r9s_7:Reg:=⟨[],zjx,[],[],false⟩
def zoj:IR:=(.seq (.seq (.reg r_r9s_4)
 (.cond (.t 14) .skip
 (.exit 0)))
 (.seq (.block 1 (.seq (.reg r_r9s_5)
 (.cond (.t 25) (.seq (.reg r_r9s_6)
 .ret)
 .skip)))
 (.reg r_r9s_7)))
def r_r9s_9:Reg:=⟨[],[⟨.mv (.c (.bool true)),some 4,none,[],[]⟩],[],[],false⟩
def ir_r9s:IR:=(.seq (.reg r_r9s_0)
 (.seq (.seq (.reg r_r9s_1)
 (.cond (.t 10) (.seq (.reg r_r9s_2)
 .ret)
 .skip))
 (.seq (.seq (.reg r_r9s_3)
 (.block 0 (.loop zoj)))
 (.seq (.reg r_r9s_9)
 .ret))))
def res_r9s:List RDesc:=[(.tmp 4)]
theorem e_r9s_0:EqR r_r9s_0 [⟨.mv (.c (.bool false)),some 4,none,[],[]⟩] []:=fun _ _ _=>rfl
theorem e_r9s_1:EqR r_r9s_1 zjz []:=fun _ _ _=>rfl
theorem e_r9s_2:EqR r_r9s_2 [⟨.mv (.c (.bool false)),some 4,none,[],[]⟩] []:=fun _ _ _=>rfl
theorem e_r9s_3:EqR r_r9s_3 [⟨.mv (.c (.int .i64 0)),some 5,none,[],[]⟩] []:=fun _ _ _=>rfl
theorem e_r9s_4:EqR r_r9s_4 zjy []:=fun _ _ _=>rfl
theorem e_r9s_5 (C:FuncId->List AV->AV->Prop) (σ:St) (K:St->Prop):z1d C r_r9s_5 σ K = z07 C [] [⟨.feq true [(0,1),(1,1)] (.t 20) (.t 24),some 25,none,[],[]⟩] zlm (σ.kills []) K:=rfl
theorem e_r9s_6:EqR r_r9s_6 [⟨.mv (.c (.bool false)),some 4,none,[],[]⟩] []:=fun _ _ _=>rfl
theorem e_r9s_7:EqR r_r9s_7 zjx []:=fun _ _ _=>rfl
theorem e_r9s_9:EqR r_r9s_9 [⟨.mv (.c (.bool true)),some 4,none,[],[]⟩] []:=fun _ _ _=>rfl
theorem fn_r9s {args:List AV} {r:AV} (ha:args.length.ble Tryz.f47.ntmps = true) (h:run (AFn Tryz.prog) ir_r9s (endQ res_r9s r) (z0h args)):AFn Tryz.prog 47 args r :=
 AFn.of_code (pv:=false) (hint:=fun _=>[]) (c:=Tryz.f47.body.getD .skip) (by kernel_rfl) (by kernel_rfl) Tryz.func47 (by kernel_rfl) (by kernel_rfl) (by kernel_rfl) (of_decide_eq_true (by kernel_rfl)) (Nat.le_of_ble_eq_true ha) (Nat.le_of_ble_eq_true (by kernel_rfl)) (z0g h)
def zhb:Reg:=⟨[],[⟨.mv (.c (.bool false)),some 4,none,[],[]⟩],[],[],false⟩
def z94:List ROp:=[⟨.mv (.t 0),some 5,none,[7],[]⟩,⟨.mv (.t 1),some 6,none,[7],[]⟩,⟨.callv (.c (.clo 88 [] [])) [(.t 5),(.t 6)],some 7,none,[],[]⟩,⟨.mv (.t 7),some 4,none,[],[]⟩]
def zha:Reg:=⟨[],z94,[7],[],false⟩
def zqf:IR:=(.seq (.reg zhb)
 (.seq (.reg zha)
 .ret))
def zgl:List RDesc:=[(.tmp 4)]
theorem e_mSame_0:EqR zhb [⟨.mv (.c (.bool false)),some 4,none,[],[]⟩] []:=fun _ _ _=>rfl
theorem e_mSame_1:EqR zha z94 [7]:=fun _ _ _=>rfl
theorem fn_mSame {args:List AV} {r:AV} (ha:args.length.ble Tryz.f67.ntmps = true) (h:run (AFn Tryz.prog) zqf (endQ zgl r) (z0h args)):AFn Tryz.prog 67 args r :=
 AFn.of_code (pv:=false) (hint:=fun _=>[]) (c:=Tryz.f67.body.getD .skip) (by kernel_rfl) (by kernel_rfl) Tryz.func67 (by kernel_rfl) (by kernel_rfl) (by kernel_rfl) (of_decide_eq_true (by kernel_rfl)) (Nat.le_of_ble_eq_true ha) (Nat.le_of_ble_eq_true (by kernel_rfl)) (z0g h)
attribute [local go_sem ↓] ir_peq
attribute [local go_sem] res_peq e_peq_0 e_peq_1 zk1 e_peq_2 e_peq_3 zk0 e_peq_4 e_peq_5 e_peq_6 zln e_peq_7 e_peq_8 e_peq_10
attribute [local go_sem ↓] ir_r9s
attribute [local go_sem] res_r9s e_r9s_0 e_r9s_1 zjz e_r9s_2 e_r9s_3 e_r9s_4 zjy e_r9s_5 zlm e_r9s_6 e_r9s_7 zjx e_r9s_9
attribute [local go_sem ↓] zqf
attribute [local go_sem] zgl e_mSame_0 e_mSame_1 z94
def eqP (a b:Par):Bool:=(a.key.toList == b.key.toList) && (a.val.toList == b.val.toList)
def eqPs:List Par->List Par->Bool
 | [],[]=>true
 | x :: a,y :: b=>eqP x y && eqPs a b
 | _,_=>false
theorem zel:∀ (a b:List Par),a.length ≠ b.length->eqPs a b = false
 | [],[],h=>absurd rfl h
 | [],y :: b,_=>rfl
 | x :: a,[],_=>rfl
 | x :: a,y :: b,h=>by
  rw [eqPs,zel a b (fun e=>h (by rw [List.length_cons,List.length_cons,e])),Bool.and_false]
def peqInv (a b:List Par) (R:Bool) (k:Nat) (σ:St):Prop :=
 ∃ j:Nat,j≤a.length∧k = a.length - j∧σ.T 0 = .sl (a.map Par.a)∧σ.T 1 = .sl (b.map Par.a)∧σ.T 13 = .int .i64 j∧σ.T 12 = .int .i64 a.length∧eqPs (a.drop j) (b.drop j) = R
set_option maxHeartbeats 1000000 in
theorem peq_ok (a b:List Par) (ha:a.length≤1000000000) (hb:b.length≤1000000000):AFn Tryz.prog 88 [.sl (a.map Par.a),.sl (b.map Par.a)] (.bool (eqPs a b)):=by
 refine fn_peq rfl ?_
 by_cases hl:a.length = b.length
 case neg =>
  have hl':(((a.length:Nat):Int) != ((b.length:Nat):Int)) = true:=by simp; omega
  rw [zel a b hl]
  simp (maxSteps:=9^7) only [go_sem,Par.a,Opr.a,Ans.a,Evt.a,nul,hl',List.length_map]
 have hl':(((a.length:Nat):Int) != ((b.length:Nat):Int)) = false:=by simp; omega
 obtain ⟨R,hR⟩:∃ R,eqPs a b = R:=⟨_,rfl⟩
 rw [hR]
 simp (maxSteps:=9^7) only [go_sem,Par.a,Opr.a,Ans.a,Evt.a,nul,hl',List.length_map]
 refine z0c (peqInv a b R) (k:=a.length) ⟨0,by omega,rfl,?_,?_,?_,?_,hR⟩ ?_
 iterate 4 focus ((simp (maxSteps:=9^7) only [go_sem,Par.a,Opr.a,Ans.a,Evt.a,nul,List.length_map]) <;> rfl)
 clear hR
 rintro k σ ⟨j,hj,rfl,t0,t1,t5,t8,hr⟩
 simp only [zpq]
 by_cases hlt:j < a.length
 case neg =>
  have hlt':¬ (j:Int) < (a.length:Int):=by omega
  rw [List.drop_eq_nil_of_le (by omega),List.drop_eq_nil_of_le (by omega),eqPs] at hr
  subst hr
  simp (maxSteps:=9^7) only [go_sem,Par.a,Opr.a,Ans.a,Evt.a,nul,t0,t1,t5,t8,hlt',List.length_map]
 have hlt':(j:Int) < (a.length:Int):=by omega
 have hlt2:j < b.length:=by omega
 obtain ⟨x,hx⟩:=z0o hlt
 obtain ⟨y,hy⟩:=z0o hlt2
 have hgx:=z0v (f:=Par.a) hx
 have hgy:=z0v (f:=Par.a) hy
 simp only [Par.a] at hgx hgy
 have hw:=z2s (j:=j) (by omega)
 rw [z0u hx,z0u hy,eqPs] at hr
 unfold eqP at hr
 cases q1:x.key.toList == y.key.toList <;> cases q2:x.val.toList == y.val.toList <;> rw [q1,q2] at hr
 case true.true =>
  rw [Bool.and_self,Bool.true_and] at hr
  simp (maxSteps:=9^7) only [go_sem,Par.a,Opr.a,Ans.a,Evt.a,nul,t0,t1,t5,t8,hlt',hgx,hgy,q1,q2,hw,hlt,hlt2,List.length_map,Int.toNat_natCast]
  (repeat refine And.intro (by omega) ?_)
  refine ⟨a.length - (j + 1),by omega,j + 1,by omega,rfl,?_,?_,?_,?_,hr⟩
  iterate 4 focus ((simp (maxSteps:=9^7) only [go_sem,Par.a,Opr.a,Ans.a,Evt.a,nul,t0,t1,hw,t8]) <;> rfl)
 all_goals
  simp only [Bool.and_false,Bool.false_and,Bool.and_true,Bool.and_self] at hr
  subst hr
  simp (maxSteps:=9^7) only [go_sem,Par.a,Opr.a,Ans.a,Evt.a,nul,t0,t1,t5,t8,hlt',hgx,hgy,q1,q2,hlt,hlt2,List.length_map,Int.toNat_natCast]
  all_goals omega
def r9sInv (a b:List Par) (R:Bool) (k:Nat) (σ:St):Prop :=
 ∃ j:Nat,j≤a.length∧k = a.length - j∧σ.T 0 = .sl (a.map Par.a)∧σ.T 1 = .sl (b.map Par.a)∧σ.T 5 = .int .i64 j∧eqPs (a.drop j) (b.drop j) = R
set_option maxHeartbeats 1000000 in
theorem r9s_ok (a b:List Par) (ha:a.length≤1000000000) (hb:b.length≤1000000000):AFn Tryz.prog 47 [.sl (a.map Par.a),.sl (b.map Par.a)] (.bool (eqPs a b)):=by
 refine fn_r9s rfl ?_
 by_cases hl:a.length = b.length
 case neg =>
  have hl':(((a.length:Nat):Int) != ((b.length:Nat):Int)) = true:=by simp; omega
  rw [zel a b hl]
  simp (maxSteps:=9^7) only [go_sem,Par.a,Opr.a,Ans.a,Evt.a,nul,hl',List.length_map]
 have hl':(((a.length:Nat):Int) != ((b.length:Nat):Int)) = false:=by simp; omega
 obtain ⟨R,hR⟩:∃ R,eqPs a b = R:=⟨_,rfl⟩
 rw [hR]
 simp (maxSteps:=9^7) only [go_sem,Par.a,Opr.a,Ans.a,Evt.a,nul,hl',List.length_map]
 refine z0c (r9sInv a b R) (k:=a.length) ⟨0,by omega,rfl,?_,?_,?_,hR⟩ ?_
 iterate 3 focus ((simp (maxSteps:=9^7) only [go_sem,Par.a,Opr.a,Ans.a,Evt.a,nul]) <;> rfl)
 clear hR
 rintro k σ ⟨j,hj,rfl,t0,t1,t5,hr⟩
 simp only [zoj]
 by_cases hlt:j < a.length
 case neg =>
  have hlt':¬ (j:Int) < (a.length:Int):=by omega
  rw [List.drop_eq_nil_of_le (by omega),List.drop_eq_nil_of_le (by omega),eqPs] at hr
  subst hr
  simp (maxSteps:=9^7) only [go_sem,Par.a,Opr.a,Ans.a,Evt.a,nul,t0,t1,t5,hlt',List.length_map]
 have hlt':(j:Int) < (a.length:Int):=by omega
 have hlt2:j < b.length:=by omega
 obtain ⟨x,hx⟩:=z0o hlt
 obtain ⟨y,hy⟩:=z0o hlt2
 have hgx:=z0v (f:=Par.a) hx
 have hgy:=z0v (f:=Par.a) hy
 simp only [Par.a] at hgx hgy
 have hw:=z2s (j:=j) (by omega)
 rw [z0u hx,z0u hy,eqPs] at hr
 unfold eqP at hr
 cases q1:x.key.toList == y.key.toList <;> cases q2:x.val.toList == y.val.toList <;> rw [q1,q2] at hr
 case true.true =>
  rw [Bool.and_self,Bool.true_and] at hr
  simp (maxSteps:=9^7) only [go_sem,Par.a,Opr.a,Ans.a,Evt.a,nul,t0,t1,t5,hlt',hgx,hgy,q1,q2,hw,hlt,hlt2,List.length_map,Int.toNat_natCast]
  (repeat refine And.intro (by omega) ?_)
  refine ⟨a.length - (j + 1),by omega,j + 1,by omega,rfl,?_,?_,?_,hr⟩
  iterate 3 focus ((simp (maxSteps:=9^7) only [go_sem,Par.a,Opr.a,Ans.a,Evt.a,nul,t0,t1,hw]) <;> rfl)
 all_goals
  simp only [Bool.and_false,Bool.false_and,Bool.and_true,Bool.and_self] at hr
  subst hr
  simp (maxSteps:=9^7) only [go_sem,Par.a,Opr.a,Ans.a,Evt.a,nul,t0,t1,t5,hlt',hgx,hgy,q1,q2,hlt,hlt2,List.length_map,Int.toNat_natCast]
  all_goals omega
theorem mSame_ok (a b:List Par) (ha:a.length≤1000000000) (hb:b.length≤1000000000):AFn Tryz.prog 67 [.sl (a.map Par.a),.sl (b.map Par.a)] (.bool (eqPs a b)):=by
 refine fn_mSame rfl ?_
 have c:=peq_ok a b ha hb
 (repeat (first | simp (maxSteps:=9^7) only [go_sem,Par.a,Opr.a,Ans.a,Evt.a,nul] | refine z01 (c) ?_ | refine z00 (c) ?_ | refine And.intro (by omega) ?_ | refine And.intro (fun d hd=>by (repeat (rcases hd with rfl | hd; · exact ⟨rfl,rfl⟩)); cases hd) ?_))
end
end Go.Proofs.YtlhblpbfhfhlpaaGreatDoor
