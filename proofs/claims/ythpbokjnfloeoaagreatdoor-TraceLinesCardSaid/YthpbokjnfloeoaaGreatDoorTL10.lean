/-
  Part 10 of a proof: PkJ, Join, TrB, TrC, TrD.
-/
import Derived.Lib.ItoaLen
import Derived.Lib.AppendIntMem
import Derived.Test.YthpbokjnfloeoaaGreatDoorTL9
namespace Go.Proofs.YthpbokjnfloeoaaGreatDoor
attribute [go_sem] ev0 ev1 ev2 ev3 ev4 evA zjt.eq_1 zjt.eq_2 zjs.eq_1 zjs.eq_2 okV valV fzV okF valF okBld zh0 mxOk.eq_1 mxOk.eq_2 y9f.eq_1 y9f.eq_2 z1q.eq_1 z1q.eq_2 z1q.eq_3 z5l.eq_1 z5l.eq_2 z5l.eq_3 upd_at AV.flatB AV.flatBs zxi binIV zxh binSV z2k.eq_1 z2k.eq_2 z25.eq_1 z25.eq_2 z0e.eq_1 z0e.eq_2 objZ.eq_1 objZ.eq_2 z1l.eq_1 z1l.eq_2 znj ze6.eq_1 ze6.eq_2 ze6.eq_3 z0v.eq_1 z0v.eq_2 z0v.eq_3 z94.eq_1 z94.eq_2 z94.eq_3 z94.eq_4 z3f.eq_1 z3f.eq_2 z3f.eq_3 z3f.eq_4 faOk.eq_1 faOk.eq_2 faOk.eq_3 zoc.eq_1 zoc.eq_2 zoc.eq_3 iaOk.eq_1 iaOk.eq_2 iaOk.eq_3 znz.eq_1 znz.eq_2 znz.eq_3 z2l.eq_1 z2l.eq_2 z2l.eq_3 z2l.eq_4 bdOk.eq_1 bdOk.eq_2 z9f.eq_1 z9f.eq_2 z8l.eq_1 z8l.eq_2 z8l.eq_3 z8l.eq_4 z3e.eq_1 z3e.eq_2 z3e.eq_3 z3e.eq_4 zz0.eq_1 zz0.eq_2 loK.eq_1 loK.eq_2 loK.eq_3 zdy.eq_1 zdy.eq_2 zdy.eq_3 byOk.eq_1 byOk.eq_2 byOk.eq_3 byOk.eq_4 byOk.eq_5 byOk.eq_6 byOk.eq_7 byOk.eq_8 z18.eq_1 z18.eq_2 z18.eq_3 byFz.eq_1 byFz.eq_2 byFz.eq_3 z5m z17 z71 zpb z6y.eq_1 z6y.eq_2 z1b.eq_1 z1b.eq_2 stOk.eq_1 stOk.eq_2 zpg.eq_1 zpg.eq_2 stSt.eq_1 stSt.eq_2 AV.patch z91 gB.eq_1 gB.eq_2 gB.eq_3 gIs.eq_1 gIs.eq_2 gIs.eq_3 retV resV y0w z09 z2o St.byval List.getD_cons_zero List.getD_cons_succ List.getD_nil List.map_cons List.map_nil List.length_cons List.length_nil List.take_succ_cons List.take_zero List.drop_succ_cons List.drop_zero List.headD_cons List.set_cons_zero List.append_nil List.nil_append List.cons_append List.contains_cons List.contains_nil List.elem_cons List.elem_nil List.all_cons List.all_nil List.getElem?_cons_zero List.getElem?_cons_succ List.filterMap_cons List.filterMap_nil Option.isSome_some Option.isSome_none Option.map_some Option.map_none Option.some.injEq AV.int.injEq AV.bool.injEq AV.str.injEq AV.tup.injEq AV.agg.injEq AV.sl.injEq List.cons.injEq Bool.false_eq_true Bool.true_eq_false Bool.not_true Bool.not_false Bool.and_true Bool.true_and Bool.or_false Bool.or_true Bool.false_or Bool.true_or Bool.or_self Bool.and_self Bool.not_eq_true' Bool.not_eq_false' Bool.not_not beq_self_eq_true true_and and_true false_and and_false and_self not_true_eq_false not_false_eq_true forall_const true_implies false_implies implies_true imp_self Nat.lt_add_one Nat.le_refl Nat.zero_le Nat.add_zero Nat.zero_add decide_true decide_false decide_eq_true_eq decide_eq_false_iff_not exists_eq_left exists_eq_left' ge_iff_le gt_iff_lt zeg z95 zzb.eq_1 zzb.eq_2 z9z.eq_1 z9z.eq_2 AV.isSl.eq_1 z9y.eq_1 z9y.eq_2 apSt.eq_1 y8e.eq_1 y8e.eq_2 y8d.eq_1 y8d.eq_2 apSt2.eq_1 zgp.eq_1 zgp.eq_2 slOf.eq_1 y9v List.mem_cons List.not_mem_nil Bool.false_and Bool.and_false z1p.eq_1 z1p.eq_2 z1p.eq_3 z1p.eq_4 z1p.eq_5 z0q.eq_1 z0q.eq_2 z0q.eq_3 z0q.eq_4 z0q.eq_5 mOk.eq_1 mOk.eq_2 mVal.eq_1 mVal.eq_2 mFz.eq_1 mFz.eq_2 mOks zzg mFzs za0.eq_1 za0.eq_2 mFn.eq_1 mFn.eq_2 zzh.eq_1 zzh.eq_2 ckOk.eq_1 ckOk.eq_2 cloOk.eq_1 ptrAt.eq_1 sh.eq_1 sh.eq_2 sh.eq_3 sh.eq_4 sh.eq_5 sh.eq_6 retM zjy evM za8.eq_1 za8.eq_2 ents.eq_1 ents.eq_2 kI.eq_1 mpOk.eq_1 mpR.eq_1 lkV.eq_1 lkV.eq_2 remp.eq_2 evP pvOk.eq_1 pvOk.eq_2 zz5.eq_1 zz5.eq_2 plOk.eq_1 plOk.eq_2 plOk.eq_3 plV.eq_1 plV.eq_2 plF.eq_1 plF.eq_2 zpj.eq_1 zpj.eq_2 plFz.eq_1 plFz.eq_2 lpOk.eq_1 lpOk.eq_2 y6a.eq_1 y6a.eq_2 lpFz.eq_1 lpFz.eq_2 zpf.eq_1 zpf.eq_2 zgq.eq_1 zgq.eq_2 zjq.eq_1 zpl.eq_1 zpl.eq_2
section
/-
 Layer 6: a number's digits,a text as a number,and the law PackNumbers.
-/
open Go.RowKit
set_option linter.unusedVariables false
set_option linter.unusedSimpArgs false
set_option maxRecDepth 100000
attribute [local go_sem ↓] z11 z0l
/-! ### percolate/pack.Dec -/
def r_dec_0:Reg:=⟨[],[⟨.mv (.c (.str ⟨#[]⟩)),some 2,none,[],[]⟩],[],[],false⟩
def y8o:List ROp:=[⟨.mv (.t 0),some 3,none,[4],[]⟩,⟨.callv (.c (.clo 48 [] [])) [(.t 3)],some 4,none,[],[]⟩,⟨.mv (.t 4),some 2,none,[],[]⟩]
def r_dec_1:Reg:=⟨[],y8o,[4],[],false⟩
def ir_dec:IR:=(.seq (.reg r_dec_0)
 (.seq (.reg r_dec_1)
 .ret))
def res_dec:List RDesc:=[(.tmp 2)]
theorem e_dec_0:EqR r_dec_0 [⟨.mv (.c (.str ⟨#[]⟩)),some 2,none,[],[]⟩] []:=fun _ _ _=>rfl
theorem e_dec_1:EqR r_dec_1 y8o [4]:=fun _ _ _=>rfl
theorem fn_dec {args:List AV} {r:AV} (ha:args.length.ble Tryz.f17.ntmps = true) (h:run (AFn Tryz.prog) ir_dec (endQ res_dec r) (z0b args)):AFn Tryz.prog 17 args r :=
 AFn.of_code (pv:=false) (hint:=fun _=>[]) (c:=Tryz.f17.body.getD .skip) (by kernel_rfl) (by kernel_rfl) Tryz.func17 (by kernel_rfl) (by kernel_rfl) (by kernel_rfl) (of_decide_eq_true (by kernel_rfl)) (Nat.le_of_ble_eq_true ha) (Nat.le_of_ble_eq_true (by kernel_rfl)) (z0c h)
/-! ### percolate/percolateref06.Dec -/
def ye9:Reg:=⟨[],[⟨.mv (.c (.str ⟨#[]⟩)),some 2,none,[],[]⟩],[],[],false⟩
def ye8:Reg:=⟨[],[⟨.mv (.c (.str ⟨#[]⟩)),some 3,none,[],[]⟩],[],[],false⟩
def ye7:Reg:=⟨[],[⟨.mv (.t 0),some 6,none,[],[]⟩,⟨.mv (.t 6),some 4,none,[],[]⟩],[],[],false⟩
def zyh:List ROp:=[⟨.mv (.t 4),some 7,none,[],[]⟩,⟨.bin .rem (.t 7) (.c (.int .i64 10)),some 8,none,[],[]⟩,⟨.mv (.t 8),some 5,none,[],[]⟩]
def ye6:Reg:=⟨[],zyh,[],[],false⟩
def ye5:Reg:=⟨[],[⟨.mv (.t 5),some 9,none,[],[]⟩,⟨.bin .lss (.t 9) (.c (.int .i64 0)),some 10,none,[],[]⟩],[],[],false⟩
def zyg:List ROp:=[⟨.mv (.t 5),some 11,none,[],[]⟩,⟨.un .neg (.t 11),some 12,none,[],[]⟩,⟨.mv (.t 12),some 5,none,[],[]⟩]
def ye4:Reg:=⟨[],zyg,[],[],false⟩
def zyf:List ROp:=[⟨.mv (.t 5),some 13,none,[16,17],[]⟩,⟨.bin .add (.c (.int .i64 48)) (.t 13),some 14,none,[16,17],[]⟩,⟨.conv .u8 (.t 14),some 15,none,[16,17],[]⟩,⟨.bsl 1 5 [(.t 15)],some 16,none,[17],[]⟩,⟨.call 1 [(.t 16)],some 17,none,[],[]⟩,⟨.mv (.t 3),some 18,none,[],[]⟩,⟨.bin .add (.t 17) (.t 18),some 19,none,[],[]⟩,⟨.mv (.t 19),some 3,none,[],[]⟩]
def ye3:Reg:=⟨[],zyf,[16,17],[],false⟩
def zye:List ROp:=[⟨.mv (.t 4),some 20,none,[],[]⟩,⟨.bin .quo (.t 20) (.c (.int .i64 10)),some 21,none,[],[]⟩,⟨.mv (.t 21),some 4,none,[],[]⟩]
def ye2:Reg:=⟨[],zye,[],[],false⟩
def ye1:Reg:=⟨[],[⟨.mv (.t 4),some 22,none,[],[]⟩,⟨.bin .eql (.t 22) (.c (.int .i64 0)),some 23,none,[],[]⟩],[],[],false⟩
def y3o:IR:=(.block 1 (.seq (.reg ye6)
 (.seq (.seq (.reg ye5)
 (.cond (.t 10) (.reg ye4)
 .skip))
 (.seq (.reg ye3)
 (.seq (.reg ye2)
 (.seq (.reg ye1)
 (.cond (.t 23) (.exit 0)
 .skip)))))))
def y3r:Reg:=⟨[],[⟨.mv (.t 0),some 24,none,[],[]⟩,⟨.bin .lss (.t 24) (.c (.int .i64 0)),some 25,none,[],[]⟩],[],[],false⟩
def zie:List ROp:=[⟨.mv (.t 3),some 26,none,[],[]⟩,⟨.bin .add (.c (.str ⟨#[45]⟩)) (.t 26),some 27,none,[],[]⟩,⟨.mv (.t 27),some 2,none,[],[]⟩]
def y3q:Reg:=⟨[],zie,[],[],false⟩
def y3p:Reg:=⟨[],[⟨.mv (.t 3),some 28,none,[],[]⟩,⟨.mv (.t 28),some 2,none,[],[]⟩],[],[],false⟩
def ir_rDec:IR:=(.seq (.reg ye9)
 (.seq (.reg ye8)
 (.seq (.reg ye7)
 (.seq (.block 0 (.loop y3o))
 (.seq (.seq (.reg y3r)
 (.cond (.t 25) (.seq (.reg y3q)
 .ret)
 .skip))
 (.seq (.reg y3p)
 .ret))))))
def ycw:List RDesc:=[(.tmp 2)]
theorem e_rDec_0:EqR ye9 [⟨.mv (.c (.str ⟨#[]⟩)),some 2,none,[],[]⟩] []:=fun _ _ _=>rfl
theorem e_rDec_1:EqR ye8 [⟨.mv (.c (.str ⟨#[]⟩)),some 3,none,[],[]⟩] []:=fun _ _ _=>rfl
theorem e_rDec_2:EqR ye7 [⟨.mv (.t 0),some 6,none,[],[]⟩,⟨.mv (.t 6),some 4,none,[],[]⟩] []:=fun _ _ _=>rfl
theorem e_rDec_3:EqR ye6 zyh []:=fun _ _ _=>rfl
theorem e_rDec_4:EqR ye5 [⟨.mv (.t 5),some 9,none,[],[]⟩,⟨.bin .lss (.t 9) (.c (.int .i64 0)),some 10,none,[],[]⟩] []:=fun _ _ _=>rfl
theorem e_rDec_5:EqR ye4 zyg []:=fun _ _ _=>rfl
theorem e_rDec_6:EqR ye3 zyf [16,17]:=fun _ _ _=>rfl
theorem e_rDec_7:EqR ye2 zye []:=fun _ _ _=>rfl
theorem e_rDec_8:EqR ye1 [⟨.mv (.t 4),some 22,none,[],[]⟩,⟨.bin .eql (.t 22) (.c (.int .i64 0)),some 23,none,[],[]⟩] []:=fun _ _ _=>rfl
theorem e_rDec_10:EqR y3r [⟨.mv (.t 0),some 24,none,[],[]⟩,⟨.bin .lss (.t 24) (.c (.int .i64 0)),some 25,none,[],[]⟩] []:=fun _ _ _=>rfl
theorem e_rDec_11:EqR y3q zie []:=fun _ _ _=>rfl
theorem e_rDec_12:EqR y3p [⟨.mv (.t 3),some 28,none,[],[]⟩,⟨.mv (.t 28),some 2,none,[],[]⟩] []:=fun _ _ _=>rfl
theorem fn_rDec {args:List AV} {r:AV} (ha:args.length.ble Tryz.f20.ntmps = true) (h:run (AFn Tryz.prog) ir_rDec (endQ ycw r) (z0b args)):AFn Tryz.prog 20 args r :=
 AFn.of_code (pv:=false) (hint:=fun _=>[]) (c:=Tryz.f20.body.getD .skip) (by kernel_rfl) (by kernel_rfl) Tryz.func20 (by kernel_rfl) (by kernel_rfl) (by kernel_rfl) (of_decide_eq_true (by kernel_rfl)) (Nat.le_of_ble_eq_true ha) (Nat.le_of_ble_eq_true (by kernel_rfl)) (z0c h)
attribute [local go_sem ↓] ir_dec
attribute [local go_sem] res_dec e_dec_0 e_dec_1 y8o
attribute [local go_sem ↓] ir_rDec
attribute [local go_sem] ycw e_rDec_0 e_rDec_1 e_rDec_2 e_rDec_3 zyh e_rDec_4 e_rDec_5 zyg e_rDec_6 zyf e_rDec_7 zye e_rDec_8 e_rDec_10 e_rDec_11 zie e_rDec_12
def decS (n:Int):ByteArray:=⟨(Lib.itoa n).toArray⟩
theorem zp4 (n:Int):(decS n).size = (Lib.itoa n).length:=rfl
def inI (n:Int):Prop:=-9223372036854775808≤n∧n≤9223372036854775807
theorem itoa_ok (n:Int) (h:inI n):AFn Tryz.prog 48 [.int .i64 n] (.str (decS n)) :=
 .flat1 (by kernel_rfl) yg5 (fun _ _ _=>.str _) fun w hG=>(Tryz.strconv_Itoa n h.1 h.2 w hG.2).mono fun e w' ⟨he,k,os,hw⟩=>by
  subst hw
  exact ⟨he,Lib.below_grow _ _ (Nat.le_refl _) _ _⟩
theorem z3h (n:Int) (h:inI n):AFn Tryz.prog 17 [.int .i64 n] (.str (decS n)):=by
 refine fn_dec rfl ?_
 simp (maxSteps:=9^7) only [go_sem,↓reduceIte,reduceCtorEq,Nat.reduceEqDiff,Nat.reduceBEq,Nat.reduceAdd,Nat.reduceSub,Nat.reduceMul,Nat.reduceLT,Nat.reduceLeDiff,Nat.reduceBNe,Int.reduceBEq,Int.reduceBNe,Int.reduceLT,Int.reduceLE]
 (first | refine z01 (itoa_ok n h) ?_ | refine z00 (itoa_ok n h) ?_)
 simp (maxSteps:=9^7) only [go_sem,↓reduceIte,reduceCtorEq,Nat.reduceEqDiff,Nat.reduceBEq,Nat.reduceAdd,Nat.reduceSub,Nat.reduceMul,Nat.reduceLT,Nat.reduceLeDiff,Nat.reduceBNe,Int.reduceBEq,Int.reduceBNe,Int.reduceLT,Int.reduceLE]
/-! ### digits -/
open Lib (decDigits itoa nDigits)
theorem zf5 (u:Nat) (h:¬ u < 10):decDigits u = decDigits (u / 10) ++ [UInt8.ofNat (48 + u % 10)]:=by
 rw [Lib.decDigits,dif_neg h]
theorem z3w (u:Nat) (h:u < 10):decDigits u = [UInt8.ofNat (48 + u)]:=Lib.decDigits_one h
def rdInv (n:Int) (k:Nat) (σ:St):Prop :=
 ∃ (m:Int) (s:List UInt8),k = m.natAbs∧inI m∧decDigits n.natAbs = decDigits m.natAbs ++ s∧(n < 0 ↔ n < 0)∧σ.T 0 = .int .i64 n∧σ.T 4 = .int .i64 m∧σ.T 3 = .str (wb s)
theorem u8_dig (d:Nat) (h:d < 10):IntKind.u8.wrap (IntKind.i64.wrap (48 + (d:Int))) = ((UInt8.ofNat (48 + d)).toNat:Int):=by
 rw [IntWalk.i64_in _ (by omega),show (UInt8.ofNat (48 + d)).toNat = (48 + d) % 256 from UInt8.toNat_ofNat' ..]
 simp [IntKind.wrap,IntKind.signed,IntKind.bits]
theorem z59 (n:Int) (h:inI n):AFn Tryz.prog 20 [.int .i64 n] (.str (decS n)):=by
 refine fn_rDec rfl ?_
 simp (maxSteps:=9^7) only [go_sem,↓reduceIte,reduceCtorEq,Nat.reduceEqDiff,Nat.reduceBEq,Nat.reduceAdd,Nat.reduceSub,Nat.reduceMul,Nat.reduceLT,Nat.reduceLeDiff,Nat.reduceBNe,Int.reduceBEq,Int.reduceBNe,Int.reduceLT,Int.reduceLE]
 refine z0d (rdInv n) (k:=n.natAbs) ⟨n,[],rfl,h,by simp,Iff.rfl,?_,?_,?_⟩ ?_
 iterate 2 focus ((simp (maxSteps:=9^7) only [go_sem,↓reduceIte,reduceCtorEq,Nat.reduceEqDiff,Nat.reduceBEq,Nat.reduceAdd,Nat.reduceSub,Nat.reduceMul,Nat.reduceLT,Nat.reduceLeDiff,Nat.reduceBNe,Int.reduceBEq,Int.reduceBNe,Int.reduceLT,Int.reduceLE]) <;> rfl)
 ·simp (maxSteps:=9^7) only [go_sem,↓reduceIte,reduceCtorEq,Nat.reduceEqDiff,Nat.reduceBEq,Nat.reduceAdd,Nat.reduceSub,Nat.reduceMul,Nat.reduceLT,Nat.reduceLeDiff,Nat.reduceBNe,Int.reduceBEq,Int.reduceBNe,Int.reduceLT,Int.reduceLE]
  rfl
 rintro k σ ⟨m,s,rfl,hm,hds,-,t0,t4,t3⟩
 simp only [y3o]
 obtain ⟨hm0,hm1⟩:=hm
 have hlen:s.length≤21:=by
  have h1:=congrArg List.length hds
  have h2:=Lib.itoa_length_le n h.1 h.2
  have h3:(decDigits n.natAbs).length≤(itoa n).length:=by
   unfold Lib.itoa
   split
   ·simp
   ·rename_i hn
    rw [show n.natAbs = n.toNat by omega]; exact Nat.le_refl _
  rw [List.length_append] at h1
  omega
 have hd:m.natAbs % 10 < 10:=Nat.mod_lt _ (by decide)
 have hqa:(m.tdiv 10).natAbs = m.natAbs / 10:=by
  rw [Int.natAbs_tdiv]; rfl
 have hta:(m.tmod 10).natAbs = m.natAbs % 10:=by
  rw [Int.natAbs_tmod]; rfl
 have hq:IntKind.i64.wrap (m.tdiv 10) = m.tdiv 10:=IntWalk.i64_in _ (by omega)
 have h45:#[(45:UInt8)].size = 1:=rfl
 have hu:=u8_dig (m.natAbs % 10) hd
 obtain ⟨c,hc⟩:∃ c,UInt8.ofNat (48 + m.natAbs % 10) = c:=⟨_,rfl⟩
 rw [hc] at hu
 have hcat:∀ x:ByteArray,x = ⟨#[c]⟩->x ++ wb s = wb (c :: s):=fun x hx=>by
  subst hx
  apply z2p
  rw [ByteArray.data_append,Array.toList_append]; rfl
 have hcs:=hcat _ rfl
 have hwc:(wb (c :: s)).size = s.length + 1:=rfl
 have hws:(wb s).size = s.length:=rfl
 have s1:#[c].size = 1:=rfl
 have hsplit:m.natAbs < 10->decDigits n.natAbs = c :: s:=fun hlt=>by
  rw [hds,z3w _ hlt,← hc,Nat.mod_eq_of_lt hlt]; rfl
 have hsplit2:¬ m.natAbs < 10->decDigits n.natAbs = decDigits (m.tdiv 10).natAbs ++ (c :: s):=fun hge=>by
  rw [hds,zf5 _ hge,hqa,hc,List.append_assoc]; rfl
 have hfin:decDigits n.natAbs = c :: s->decS n = if n < 0 then (⟨#[45]⟩:ByteArray) ++ wb (c :: s) else wb (c :: s):=fun e=>by
  apply z2p
  unfold decS Lib.itoa
  by_cases hn:n < 0
  ·rw [if_pos hn,if_pos hn,ByteArray.data_append,Array.toList_append,e]; rfl
  ·rw [if_neg hn,if_neg hn,show n.toNat = n.natAbs by omega,e]; rfl
 by_cases hneg:m.tmod 10 < 0
 ·have hw:IntKind.i64.wrap (0 - m.tmod 10) = ((m.natAbs % 10:Nat):Int):=by
   rw [IntWalk.i64_in _ (by omega)]; omega
  by_cases hz:m.tdiv 10 = 0
  ·have hz':(m.tdiv 10 == 0) = true:=by rw [hz]; rfl
   have e:=hfin (hsplit (by omega))
   rw [e]
   by_cases hn:n < 0
   ·rw [if_pos hn]
    simp (maxSteps:=9^7) only [go_sem,↓reduceIte,reduceCtorEq,Nat.reduceEqDiff,Nat.reduceBEq,Nat.reduceAdd,Nat.reduceSub,Nat.reduceMul,Nat.reduceLT,Nat.reduceLeDiff,Nat.reduceBNe,Int.reduceBEq,Int.reduceBNe,Int.reduceLT,Int.reduceLE,t0,t4,t3,hneg,hw,hu,hq,hz',hcs,hn,zh1,z5f]
    omega
   ·rw [if_neg hn]
    simp (maxSteps:=9^7) only [go_sem,↓reduceIte,reduceCtorEq,Nat.reduceEqDiff,Nat.reduceBEq,Nat.reduceAdd,Nat.reduceSub,Nat.reduceMul,Nat.reduceLT,Nat.reduceLeDiff,Nat.reduceBNe,Int.reduceBEq,Int.reduceBNe,Int.reduceLT,Int.reduceLE,t0,t4,t3,hneg,hw,hu,hq,hz',hcs,hn,zh1,z5f]
    omega
  ·have hz':(m.tdiv 10 == 0) = false:=by rw [beq_eq_false_iff_ne]; exact hz
   have e:=hsplit2 (by omega)
   simp (maxSteps:=9^7) only [go_sem,↓reduceIte,reduceCtorEq,Nat.reduceEqDiff,Nat.reduceBEq,Nat.reduceAdd,Nat.reduceSub,Nat.reduceMul,Nat.reduceLT,Nat.reduceLeDiff,Nat.reduceBNe,Int.reduceBEq,Int.reduceBNe,Int.reduceLT,Int.reduceLE,t0,t4,t3,hneg,hw,hu,hq,hz',hcs,zh1,z5f]
   refine ⟨by omega,by omega,by omega,(m.tdiv 10).natAbs,by omega,m.tdiv 10,c :: s,rfl,⟨by omega,by omega⟩,e,Iff.rfl,?_,?_,?_⟩ <;> (simp (maxSteps:=9^7) only [go_sem,↓reduceIte,reduceCtorEq,Nat.reduceEqDiff,Nat.reduceBEq,Nat.reduceAdd,Nat.reduceSub,Nat.reduceMul,Nat.reduceLT,Nat.reduceLeDiff,Nat.reduceBNe,Int.reduceBEq,Int.reduceBNe,Int.reduceLT,Int.reduceLE,t0,t4,t3,hcs])
 ·have hw:m.tmod 10 = ((m.natAbs % 10:Nat):Int):=by omega
  rw [hw] at hneg
  by_cases hz:m.tdiv 10 = 0
  ·have hz':(m.tdiv 10 == 0) = true:=by rw [hz]; rfl
   have e:=hfin (hsplit (by omega))
   rw [e]
   by_cases hn:n < 0
   ·rw [if_pos hn]
    simp (maxSteps:=9^7) only [go_sem,↓reduceIte,reduceCtorEq,Nat.reduceEqDiff,Nat.reduceBEq,Nat.reduceAdd,Nat.reduceSub,Nat.reduceMul,Nat.reduceLT,Nat.reduceLeDiff,Nat.reduceBNe,Int.reduceBEq,Int.reduceBNe,Int.reduceLT,Int.reduceLE,t0,t4,t3,hneg,hw,hu,hq,hz',hcs,hn,zh1,z5f]
    omega
   ·rw [if_neg hn]
    simp (maxSteps:=9^7) only [go_sem,↓reduceIte,reduceCtorEq,Nat.reduceEqDiff,Nat.reduceBEq,Nat.reduceAdd,Nat.reduceSub,Nat.reduceMul,Nat.reduceLT,Nat.reduceLeDiff,Nat.reduceBNe,Int.reduceBEq,Int.reduceBNe,Int.reduceLT,Int.reduceLE,t0,t4,t3,hneg,hw,hu,hq,hz',hcs,hn,zh1,z5f]
    omega
  ·have hz':(m.tdiv 10 == 0) = false:=by rw [beq_eq_false_iff_ne]; exact hz
   have e:=hsplit2 (by omega)
   simp (maxSteps:=9^7) only [go_sem,↓reduceIte,reduceCtorEq,Nat.reduceEqDiff,Nat.reduceBEq,Nat.reduceAdd,Nat.reduceSub,Nat.reduceMul,Nat.reduceLT,Nat.reduceLeDiff,Nat.reduceBNe,Int.reduceBEq,Int.reduceBNe,Int.reduceLT,Int.reduceLE,t0,t4,t3,hneg,hw,hu,hq,hz',hcs,zh1,z5f]
   refine ⟨by omega,by omega,by omega,(m.tdiv 10).natAbs,by omega,m.tdiv 10,c :: s,rfl,⟨by omega,by omega⟩,e,Iff.rfl,?_,?_,?_⟩ <;> (simp (maxSteps:=9^7) only [go_sem,↓reduceIte,reduceCtorEq,Nat.reduceEqDiff,Nat.reduceBEq,Nat.reduceAdd,Nat.reduceSub,Nat.reduceMul,Nat.reduceLT,Nat.reduceLeDiff,Nat.reduceBNe,Int.reduceBEq,Int.reduceBNe,Int.reduceLT,Int.reduceLE,t0,t4,t3,hcs])
/-! ### a text as a number -/
theorem udGo_nn:∀ (l:List UInt8) (n m:Int),0≤n->udGo l n = some m->0≤m
 | [],n,m,h,e=>by cases e; exact h
 | c :: l,n,m,h,e=>by
  rw [udGo] at e
  split at e
  ·cases e
  ·split at e
   ·cases e
   ·exact udGo_nn l _ m (by omega) e
theorem ych:∀ (l:List UInt8) (c:UInt8) (n:Int),udGo (l ++ [c]) n = (udGo l n).bind fun m=>udGo [c] m
 | [],c,n=>rfl
 | x :: l,c,n=>by
  rw [List.cons_append,udGo,udGo]
  split
  ·rfl
  ·split
   ·rfl
   ·exact ych l c _
theorem zp1 (d:Nat) (h:d < 10):((UInt8.ofNat (48 + d)).toNat:Int) = 48 + d:=by
 rw [show (UInt8.ofNat (48 + d)).toNat = (48 + d) % 256 from UInt8.toNat_ofNat' ..]; omega
theorem udGo_dd:∀ u:Nat,udGo (decDigits u) 0 = some (u:Int):=by
 intro u
 induction u using Nat.strongRecOn with
 | ind u ih =>
  by_cases h:u < 10
  ·rw [z3w u h,udGo,zp1 u h,if_neg (by omega),if_neg (by omega),udGo]
   congr 1; omega
  ·rw [zf5 u h,ych,ih (u / 10) (by omega)]
   show udGo [UInt8.ofNat (48 + u % 10)] _ = _
   have hd:u % 10 < 10:=Nat.mod_lt _ (by decide)
   rw [udGo,zp1 _ hd,if_neg (by omega),if_neg (by omega),udGo]
   congr 1; omega
theorem dd_head:∀ u:Nat,1≤u->∃ c l,decDigits u = c :: l∧c ≠ 48:=by
 intro u
 induction u using Nat.strongRecOn with
 | ind u ih =>
  intro h1
  by_cases h:u < 10
  ·refine ⟨_,_,z3w u h,fun e=>?_⟩
   have:=zp1 u h
   rw [e] at this
   have:((48:UInt8).toNat:Int) = 48:=rfl
   omega
  ·obtain ⟨c,l,e,hc⟩:=ih (u / 10) (by omega) (by omega)
   exact ⟨c,l ++ [UInt8.ofNat (48 + u % 10)],by rw [zf5 u h,e]; rfl,hc⟩
theorem dd_grow:∀ (l:List UInt8) (a:Nat) (m:Int),1≤a->udGo l (a:Int) = some m->decDigits m.toNat = decDigits a ++ l
 | [],a,m,h,e=>by cases e; simp
 | c :: l,a,m,h,e=>by
  rw [udGo] at e
  split at e
  ·cases e
  ·split at e
   ·cases e
   ·rename_i h1 h2
    have:=dd_grow l (10 * a + (c.toNat - 48)) m (by omega) (by rw [← e]; congr 1; omega)
    rw [this,zf5 (10 * a + (c.toNat - 48)) (by omega),show (10 * a + (c.toNat - 48)) / 10 = a by omega,show (10 * a + (c.toNat - 48)) % 10 = c.toNat - 48 by omega,List.append_assoc]
    congr 1
    show [_] ++ l = c :: l
    rw [show 48 + (c.toNat - 48) = c.toNat by omega]
    simp
/-- digits without a nought ahead are those of their number -/
theorem dd_of {c:UInt8} {l:List UInt8} {m:Int} (e:udGo (c :: l) 0 = some m) (h0:c ≠ 48∨l = []):decDigits m.toNat = c :: l:=by
 rw [udGo] at e
 split at e
 ·cases e
 ·split at e
  ·cases e
  ·rename_i h1 h2
   by_cases hc:c = 48
   ·subst hc
    rcases h0 with h | h
    ·exact absurd rfl h
    ·subst h; cases e; decide +kernel
   ·have hcn:c.toNat ≠ 48:=fun h=>hc (UInt8.toNat.inj (by rw [h]; rfl))
    have:=dd_grow l (c.toNat - 48) m (by omega) (by rw [← e]; congr 1; omega)
    rw [this,z3w _ (by omega),show 48 + (c.toNat - 48) = c.toNat by omega]
    simp
theorem nd_le:∀ (k u:Nat),u < 10 ^ (k + 1)->nDigits u≤k + 1
 | 0,u,h=>by rw [Lib.nDigits_small (by simpa using h)]; exact Nat.le_refl _
 | k + 1,u,h=>by
  by_cases h1:u < 10
  ·rw [Lib.nDigits_small h1]; omega
  ·have:=nd_le k (u / 10) (by rw [Nat.pow_succ] at h; omega)
   rw [Lib.nDigits_big h1]; omega
theorem nd_ge:∀ (k u:Nat),10 ^ k≤u->k + 1≤nDigits u
 | 0,u,h=>Lib.nDigits_pos u
 | k + 1,u,h=>by
  have h2:10 ^ k * 10≤u:=by rw [← Nat.pow_succ]; exact h
  have h3:1≤10 ^ k:=Nat.one_le_pow _ _ (by decide)
  have:=nd_ge k (u / 10) (by omega)
  rw [Lib.nDigits_big (by omega)]; omega
/-- what the document answers of a text -/
def rudF (s:ByteArray):AV:=if 9 < s.size then .tup [.int .i64 0,.bool false] else match udGo s.data.toList 0 with
 | some n=>if itoa n = s.data.toList then .tup [.int .i64 n,.bool true] else .tup [.int .i64 0,.bool false]
 | none=>.tup [.int .i64 0,.bool false]
theorem zef {n:Int} (h:0≤n):itoa n = decDigits n.toNat:=by unfold Lib.itoa; rw [if_neg (by omega)]
theorem udF_eq (s:ByteArray):udF s = rudF s:=by
 have hL:s.data.toList.length = s.size:=by rw [Array.length_toList]; rfl
 unfold udF rudF
 by_cases h9:9 < s.size
 ·rw [if_pos (.inr (.inl h9)),if_pos h9]
 ·rw [if_neg h9]
  cases hl:s.data.toList with
  | nil =>
   rw [if_pos (.inl (by rw [← hL,hl]; rfl))]
   rw [udGo]
   simp only
   rw [if_neg (by rw [zef (by omega)]; decide +kernel)]
  | cons c l =>
   have hb:b0 s = c:=by unfold b0; rw [hl]; rfl
   have hsz:s.size = l.length + 1:=by rw [← hL,hl]; rfl
   cases hu:udGo (c :: l) 0 with
   | none =>
    split
    ·rfl
    ·rfl
   | some n =>
    have hn:=udGo_nn _ 0 n (by omega) hu
    simp only
    rw [zef hn]
    by_cases h0:c = 48∧1 < s.size
    ·rw [if_pos (.inr (.inr (by rw [hb]; exact h0))),if_neg]
     intro e
     by_cases hz:n.toNat = 0
     ·rw [hz,z3w 0 (by omega)] at e
      have h:=congrArg List.length e
      rw [List.length_cons,List.length_cons,List.length_nil] at h
      omega
     ·obtain ⟨c',l',e',hc'⟩:=dd_head n.toNat (by omega)
      rw [e'] at e
      cases e
      exact hc' h0.1
    ·rw [if_neg (by rw [hb]; rintro (h | h | h); omega; exact h9 h; exact h0 h)]
     rw [if_pos (dd_of hu (by
      by_cases hc:c = 48
      ·right
       have:¬ 1 < s.size:=fun h=>h0 ⟨hc,h⟩
       exact List.eq_nil_of_length_eq_zero (by omega)
      ·exact .inl hc))]
     rfl
/-- a number's digits as a number -/
theorem zxn (n:Int) (h:inI n):udF (decS n) = if 0≤n∧n≤999999999 then .tup [.int .i64 n,.bool true] else .tup [.int .i64 0,.bool false]:=by
 have hL:(decS n).data.toList = itoa n:=by unfold decS; simp
 have hz:(decS n).size = (itoa n).length:=zp4 n
 rw [udF_eq]
 unfold rudF
 rw [hL,hz]
 by_cases h0:0≤n
 ·rw [zef h0,Lib.decDigits_length,udGo_dd]
  simp only
  by_cases h9:n≤999999999
  ·have:=nd_le 8 n.toNat (by omega)
   rw [if_neg (by omega),if_pos (show itoa ((n.toNat:Nat):Int) = decDigits n.toNat by rw [zef (by omega)]; rfl),if_pos (show 0≤n∧n≤999999999 from ⟨h0,h9⟩)]
   rw [show ((n.toNat:Nat):Int) = n by omega]
  ·have:=nd_ge 9 n.toNat (by omega)
   rw [if_pos (by omega),if_neg (by omega)]
 ·rw [if_neg (show ¬ (0≤n∧n≤999999999) by omega)]
  have e:itoa n = 45 :: decDigits n.natAbs:=by unfold Lib.itoa; rw [if_pos (by omega)]
  have hnone:udGo (45 :: decDigits n.natAbs) 0 = none:=by rw [udGo,if_pos (by decide)]
  rw [e,hnone]
  split <;> rfl
end
section
/-
 Words with blanks between them: the library's Join; how long words are.
-/
open Go.RowKit
set_option linter.unusedVariables false
set_option linter.unusedSimpArgs false
set_option maxRecDepth 100000
theorem z14 (a b c:ByteArray):a ++ b ++ c = a ++ (b ++ c):=by
 apply z2p
 simp only [ByteArray.data_append,Array.toList_append,List.append_assoc]
theorem z4j (a:ByteArray):a ++ (⟨#[]⟩:ByteArray) = a:=by
 apply z2p
 simp only [ByteArray.data_append,Array.toList_append]
 exact List.append_nil _
def z15 (l:List ByteArray) (sep:ByteArray):ByteArray:=⟨(Lib.join (l.map (·.data.toList)) sep.data.toList).toArray⟩
theorem z42 (l:List ByteArray) (sep:ByteArray) (hl:l.length≤140737488355328) (hj:(Lib.join (l.map (·.data.toList)) sep.data.toList).length≤140737488355328):AFn Tryz.prog 47 [.sl (l.map .str),.str sep] (.str (z15 l sep)):=by
 refine ⟨by kernel_rfl,fun w Pr vs hG hPr hlen hvs=>?_⟩
 obtain ⟨a,b,rfl⟩:∃ a b,vs = [a,b]:=by
  match vs,hlen with
  | [a,b],_=>exact ⟨a,b,rfl⟩
 have h1:=hvs 0 _ a rfl rfl
 have h2:=hvs 1 _ b rfl rfl
 obtain rfl:=h2.str_of
 have fin:∀ {v:Value},(Calls Tryz.prog 47 #[v,.string sep] w fun e w'=>e = .returned (.string (z15 l sep))∧Below w.heap.size w w')->Calls Tryz.prog 47 [v,.string sep].toArray w fun e w'=>∃ u,e = .returned u∧Below w.heap.size w w'∧RR (fun b o=>Pr b o∨w.heap.size≤b) w.heap.size w' (.str (z15 l sep)) u:=fun hc =>
  hc.mono fun e w' ⟨he,hb⟩=>⟨_,he,hb,.str _⟩
 generalize hq:l.map AV.str = q at h1
 cases h1 with
 | sl _ A cap z u hcap hmax hA h =>
  subst hq
  rw [List.length_map] at hcap hA ⊢
  refine fin ?_
  by_cases h0:l.length = 0
  ·have e0:l = []:=List.length_eq_zero_iff.1 h0
   subst e0
   refine (Tryz.strings_Join_none A cap sep w).mono fun e w' ⟨he,hw⟩=>⟨?_,by rw [hw]; exact Below.refl _ _⟩
   rw [he]; rfl
  ·obtain ⟨b,off,rfl,hlies⟩:=hA (by omega)
   have hz:z = 1:=by
    obtain ⟨x,hx⟩:∃ x,l[0]? = some x:=⟨_,List.getElem?_eq_getElem (by omega)⟩
    exact (hlies.len (.str x) (List.mem_map.2 ⟨x,List.mem_of_getElem? hx,rfl⟩)).symm
   subst hz
   refine (Tryz.strings_Join b off cap l sep w (fun j x hx=>?_) hlies.lt hl hcap hj).mono fun e w' ⟨he,hb⟩=>⟨he,hb⟩
   have hjl:=(List.getElem?_eq_some_iff.1 hx).1
   have:=(hlies.at_ j 0 (by rw [List.length_map]; exact hjl) (by omega)).2
   rw [Nat.mul_one,Nat.add_zero] at this
   rw [this]
   have hv:=h j (.str x) 0 (.str x) (by rw [List.getElem?_map,hx]; rfl) rfl
   rw [hv.str_of]
/-- few short words,with blanks between them -/
theorem yff (sep:List UInt8):∀ l:List (List UInt8),(Lib.join l sep).length≤(l.map fun x=>x.length + sep.length).sum
 | []=>by simp [Lib.join_nil]
 | x :: r=>by
  rw [Lib.join_cons]
  have:∀ r:List (List UInt8),(Lib.joinTail sep r).length = (r.map fun x=>x.length + sep.length).sum:=by
   intro r
   induction r with
   | nil=>rfl
   | cons y r ih =>
    show ((sep ++ y) ++ Lib.joinTail sep r).length = _
    rw [List.length_append,ih,List.length_append,List.map_cons,List.sum_cons]; omega
  rw [List.length_append,this,List.map_cons,List.sum_cons]; omega
theorem z1c (l:List ByteArray) (h4:l.length≤4) (h:∀ x,x ∈ l->x.size≤1000000):(Lib.join (l.map (·.data.toList)) (⟨#[32]⟩:ByteArray).data.toList).length≤140737488355328:=by
 have h1:=yff (⟨#[32]⟩:ByteArray).data.toList (l.map (·.data.toList))
 have h2:∀ l:List ByteArray,(∀ x,x ∈ l->x.size≤1000000)->((l.map (·.data.toList)).map fun x=>x.length + 1).sum≤l.length * 1000001:=by
  intro l
  induction l with
  | nil=>intro _; simp
  | cons y r ih =>
   intro hx
   have a:=ih (fun x hxm=>hx x (List.mem_cons_of_mem _ hxm))
   have b:=hx y (List.mem_cons_self ..)
   have c:y.data.toList.length = y.size:=by rw [Array.length_toList]; rfl
   simp only [List.map_cons,List.sum_cons,List.length_cons]
   rw [c]
   omega
 have h3:=h2 l h
 have e:(fun x:List UInt8=>x.length + (⟨#[32]⟩:ByteArray).data.toList.length) = fun x=>x.length + 1:=rfl
 rw [e] at h1
 have:l.length * 1000001≤4 * 1000001:=Nat.mul_le_mul_right _ h4
 omega
theorem z0f (s:ByteArray):(z04 s).size≤3 * s.size + 1:=by
 have h:=congrArg List.length (z1e s)
 have hL:s.data.toList.length = s.size:=by rw [Array.length_toList]; rfl
 have e:(z04 s).data.toList.length = (z04 s).size:=by rw [Array.length_toList]; rfl
 have:=z6q s.data.toList
 rw [e] at h
 rw [h]
 split
 ·simp
 ·omega
theorem joinB2 (a b s:ByteArray):z15 [a,b] s = a ++ s ++ b:=by
 apply z2p
 show Lib.join _ _ = _
 rw [List.map_cons,Lib.join_cons]; simp [Lib.joinTail]
theorem yfh (a b c s:ByteArray):z15 [a,b,c] s = a ++ s ++ b ++ (s ++ c):=by
 apply z2p
 show Lib.join _ _ = _
 rw [List.map_cons,Lib.join_cons]; simp [Lib.joinTail]
theorem yfg (a b c d s:ByteArray):z15 [a,b,c,d] s = a ++ s ++ b ++ (s ++ c) ++ (s ++ d):=by
 apply z2p
 show Lib.join _ _ = _
 rw [List.map_cons,Lib.join_cons]; simp [Lib.joinTail]
/-- what is joined has so many bytes -/
theorem y6g (sep:ByteArray) (n:Nat) (l:List ByteArray) (h:∀ x,x ∈ l->x.size + sep.size≤n):(Lib.join (l.map (·.data.toList)) sep.data.toList).length≤l.length * n:=by
 refine Nat.le_trans (yff _ _) ?_
 induction l with
 | nil=>simp
 | cons y r ih =>
  have a:=ih (fun x hx=>h x (List.mem_cons_of_mem _ hx))
  have b:=h y (List.mem_cons_self ..)
  have c:y.data.toList.length = y.size:=by rw [Array.length_toList]; rfl
  have d:sep.data.toList.length = sep.size:=by rw [Array.length_toList]; rfl
  simp only [List.map_cons,List.sum_cons,List.length_cons]
  rw [c,d,Nat.add_mul,Nat.one_mul]
  rw [d] at a
  omega
theorem zx2 (sep:ByteArray) (n:Nat) (l:List ByteArray) (h:∀ x,x ∈ l->x.size + sep.size≤n):(z15 l sep).size≤l.length * n:=y6g sep n l h
end
section
/-
 Traces in plain terms,and latches,messages,pairs as lines: the code,walked.
-/
open Go.RowKit
set_option linter.unusedVariables false
set_option linter.unusedSimpArgs false
set_option maxRecDepth 100000
attribute [local go_sem ↓] z11 z0l
theorem ba_nil_l (a:ByteArray):(⟨#[]⟩:ByteArray) ++ a = a:=by
 apply z2p
 simp only [ByteArray.data_append,Array.toList_append]
 rfl
/-- the texts of a list,one behind the other -/
def catF {α:Type} (f:α->ByteArray):List α->ByteArray
 | []=>⟨#[]⟩
 | x :: l=>f x ++ catF f l
theorem zzp {α:Type} (f:α->ByteArray):∀ a b:List α,catF f (a ++ b) = catF f a ++ catF f b
 | [],b=>(ba_nil_l _).symm
 | x :: a,b=>by
  show f x ++ catF f (a ++ b) = (f x ++ catF f a) ++ catF f b
  rw [zzp f a b,z14]
theorem catF_one {α:Type} (f:α->ByteArray) (x:α):catF f [x] = f x:=z4j _
theorem zad {α:Type} (f:α->ByteArray) (l:List α) (x:α):catF f (l ++ [x]) = catF f l ++ f x:=by rw [zzp,catF_one]
theorem ygt {α β:Type} (f:β->ByteArray) (g:α->β):∀ l:List α,catF f (l.map g) = catF (fun x=>f (g x)) l
 | []=>rfl
 | x :: l=>by show f (g x) ++ _ = _; rw [ygt f g l]; rfl
theorem z6i {α:Type} (f:α->ByteArray) (n:Nat):∀ l:List α,(∀ x,x ∈ l->(f x).size≤n)->(catF f l).size≤l.length * n
 | [],_=>Nat.zero_le _
 | x :: l,h=>by
  have a:=z6i f n l fun y hy=>h y (List.mem_cons_of_mem _ hy)
  have b:=h x (List.mem_cons_self ..)
  show (f x ++ catF f l).size≤_
  rw [ByteArray.size_append,List.length_cons,Nat.add_mul,Nat.one_mul]; omega
theorem z45 {α:Type} (f:α->ByteArray) (n:Nat) (l:List α) (j:Nat) (h:∀ x,x ∈ l->(f x).size≤n):(catF f (l.take j)).size≤l.length * n:=by
 have a:=z6i f n (l.take j) fun x hx=>h x (List.mem_of_mem_take hx)
 have b:(l.take j).length * n≤l.length * n:=Nat.mul_le_mul_right _ (by rw [List.length_take]; omega)
 omega
/-- joined texts are the first one,and each other with a blank ahead of it -/
theorem za5 (x:ByteArray) (l:List ByteArray) (s:ByteArray):z15 (x :: l) s = x ++ catF (fun y=>s ++ y) l:=by
 apply z2p
 show Lib.join ((x :: l).map (·.data.toList)) _ = _
 rw [List.map_cons,Lib.join_cons,ByteArray.data_append,Array.toList_append]
 congr 1
 induction l with
 | nil=>rfl
 | cons y l ih =>
  show ((s.data.toList ++ y.data.toList) ++ Lib.joinTail s.data.toList (l.map (·.data.toList))) = ((s ++ y) ++ catF (fun y=>s ++ y) l).data.toList
  rw [ih,ByteArray.data_append,Array.toList_append,ByteArray.data_append,Array.toList_append]
theorem z0g (n:Int) (h0:-9223372036854775808≤n) (h1:n≤9223372036854775807):(decS n).size≤30:=by
 have:=Lib.itoa_length_le n (by omega) (by omega)
 rw [zp4]; omega
def Par.w (p:Par):ByteArray:=z04 p.key ++ (⟨#[61]⟩:ByteArray) ++ z04 p.val
def z64 (l:List Par):ByteArray:=decS l.length ++ catF (fun p=>(⟨#[32]⟩:ByteArray) ++ p.w) l
theorem pairs_join (l:List Par):z15 (decS l.length :: l.map Par.w) (⟨#[32]⟩:ByteArray) = z64 l:=by
 rw [za5,ygt]; rfl
def Msg.word (m:Msg):ByteArray:=if m.kind = 1 then (⟨#[112,117,116]⟩:ByteArray) else if m.kind = 2 then (⟨#[97,100,100]⟩:ByteArray) else if m.kind = 3 then (⟨#[100,101,108]⟩:ByteArray) else if m.kind = 4 then (⟨#[119,105,112,101]⟩:ByteArray) else (⟨#[107,105,110,100]⟩:ByteArray)
def Msg.rest (m:Msg):List ByteArray:=if m.kind = 1∨m.kind = 2 then [z04 m.val] else if m.kind = 4 then (if m.op then [(⟨#[42]⟩:ByteArray)] else [z04 m.hi]) else []
def Msg.line (m:Msg):ByteArray:=z15 ([decS m.stamp,m.word,z04 m.key] ++ m.rest) (⟨#[32]⟩:ByteArray)
def Hld.line (h:Hld):ByteArray:=z15 [decS h.thread,decS h.slot,if h.wr then (⟨#[119,114,105,116,101]⟩:ByteArray) else (⟨#[114,101,97,100]⟩:ByteArray)] (⟨#[32]⟩:ByteArray)
/-- kids,and what parts them -/
def z41 (ps:List ByteArray):Nat->List Int->List ByteArray
 | _,[]=>[]
 | i,k :: l=>(if 0 < i∧i≤ps.length then [z04 (ps.getD (i - 1) ⟨#[]⟩)] else []) ++ [decS k] ++ z41 ps (i + 1) l
theorem znt (ps:List ByteArray):∀ (a b:List Int) (i:Nat),z41 ps i (a ++ b) = z41 ps i a ++ z41 ps (i + a.length) b
 | [],b,i=>by simp [z41]
 | k :: a,b,i=>by
  show _ ++ z41 ps (i + 1) (a ++ b) = (_ ++ z41 ps (i + 1) a) ++ _
  rw [znt ps a b (i + 1),List.length_cons,show i + 1 + a.length = i + (a.length + 1) by omega]
  simp only [List.append_assoc]
def Nd.below (n:Nd):ByteArray:=if n.level = 0 then z15 [(⟨#[114,111,119,115]⟩:ByteArray),z64 n.rows] (⟨#[32]⟩:ByteArray) else (⟨#[107,105,100,115]⟩:ByteArray) ++ catF (fun y=>(⟨#[32]⟩:ByteArray) ++ y) (z41 n.pivots 0 n.kids)
def msgsF (l:List Msg):ByteArray:=(⟨#[109,115,103,115]⟩:ByteArray) ++ (⟨#[32]⟩:ByteArray) ++ decS l.length ++ catF (fun m=>(⟨#[32,44,32]⟩:ByteArray) ++ m.line) l
def Nd.line (n:Nd):ByteArray:=z15 [(⟨#[110,111,100,101]⟩:ByteArray),decS n.slot,decS n.level,decS n.seen,decS n.right,if n.top then (⟨#[42]⟩:ByteArray) else z04 n.high,(⟨#[58]⟩:ByteArray),n.below,(⟨#[58]⟩:ByteArray),msgsF n.msgs] (⟨#[32]⟩:ByteArray)
theorem baz (a:Array UInt8):(⟨a⟩:ByteArray).size = a.size:=rfl
/-! ### percolate/trace.line -/
def y1u:Reg:=⟨[],[⟨.mv (.c (.str ⟨#[]⟩)),some 2,none,[],[]⟩],[],[],false⟩
def zhe:List ROp:=[⟨.mv (.t 0),some 3,none,[4],[]⟩,⟨.callv (.c (.clo 47 [] [])) [(.t 3),(.c (.str ⟨#[32]⟩))],some 4,none,[],[]⟩,⟨.mv (.t 4),some 2,none,[],[]⟩]
def y1t:Reg:=⟨[],zhe,[4],[],false⟩
def yfj:IR:=(.seq (.reg y1u)
 (.seq (.reg y1t)
 .ret))
def y0a:List RDesc:=[(.tmp 2)]
theorem e_tLine_0:EqR y1u [⟨.mv (.c (.str ⟨#[]⟩)),some 2,none,[],[]⟩] []:=fun _ _ _=>rfl
theorem e_tLine_1:EqR y1t zhe [4]:=fun _ _ _=>rfl
theorem fn_tLine {args:List AV} {r:AV} (ha:args.length.ble Tryz.f16.ntmps = true) (h:run (AFn Tryz.prog) yfj (endQ y0a r) (z0b args)):AFn Tryz.prog 16 args r :=
 AFn.of_code (pv:=false) (hint:=fun _=>[]) (c:=Tryz.f16.body.getD .skip) (by kernel_rfl) (by kernel_rfl) Tryz.func16 (by kernel_rfl) (by kernel_rfl) (by kernel_rfl) (of_decide_eq_true (by kernel_rfl)) (Nat.le_of_ble_eq_true ha) (Nat.le_of_ble_eq_true (by kernel_rfl)) (z0c h)
/-! ### percolate/trace.Message -/
def ydw:Reg:=⟨[],[⟨.box 6 55 (.t 0),some 1,none,[],[]⟩,⟨.mv (.c (.str ⟨#[]⟩)),some 2,none,[],[]⟩],[1],[],false⟩
def ydv:Reg:=⟨[],[⟨.mv (.c (.str ⟨#[107,105,110,100]⟩)),some 3,none,[],[]⟩],[],[],false⟩
def zyb:List ROp:=[⟨.faddr 1 (.t 1),some 5,none,[],[]⟩,⟨.load 1 false (.t 5),some 6,none,[],[]⟩,⟨.bin .geq (.t 6) (.c (.int .i64 1)),some 7,none,[],[]⟩,⟨.mv (.t 7),some 8,none,[],[]⟩,⟨.faddr 1 (.t 1),some 9,(some (8,true)),[],[]⟩,⟨.load 1 false (.t 9),some 10,(some (8,true)),[],[]⟩,⟨.bin .leq (.t 10) (.c (.int .i64 4)),some 11,(some (8,true)),[],[]⟩,⟨.pick (.t 8) (.t 11) (.c (.bool false)),some 12,none,[],[]⟩]
def ydu:Reg:=⟨[],zyb,[],[],false⟩
def zya:List ROp:=[⟨.bsl 1 9 [(.c (.str ⟨#[112,117,116]⟩)),(.c (.str ⟨#[97,100,100]⟩)),(.c (.str ⟨#[100,101,108]⟩)),(.c (.str ⟨#[119,105,112,101]⟩))],some 13,none,[],[]⟩,⟨.faddr 1 (.t 1),some 14,none,[],[]⟩,⟨.load 1 false (.t 14),some 15,none,[],[]⟩,⟨.bin .sub (.t 15) (.c (.int .i64 1)),some 16,none,[],[]⟩,⟨.iaddr 1 (.t 13) (.t 16),some 17,none,[],[]⟩,⟨.load 1 false (.t 17),some 18,none,[],[]⟩,⟨.mv (.t 18),some 3,none,[],[]⟩]
def ydt:Reg:=⟨[],zya,[13],[],false⟩
def zzl:List ROp:=[⟨.faddr 0 (.t 1),some 19,none,[21,25,26],[]⟩,⟨.load 1 false (.t 19),some 20,none,[21,25,26],[]⟩,⟨.callv (.c (.clo 17 [] [])) [(.t 20)],some 21,none,[25,26],[]⟩,⟨.mv (.t 3),some 22,none,[21,25,26],[]⟩,⟨.faddr 2 (.t 1),some 23,none,[21,25,26],[]⟩,⟨.load 1 false (.t 23),some 24,none,[21,25,26],[]⟩,⟨.callv (.c (.clo 15 [] [])) [(.t 24)],some 25,none,[26],[]⟩]
def yds:Reg:=⟨zzl,[⟨.bsl 1 9 [(.t 21),(.t 22),(.t 25)],some 26,none,[],[]⟩,⟨.mv (.t 26),some 4,none,[],[]⟩],[21,25,26],[],true⟩
def zy9:List ROp:=[⟨.faddr 1 (.t 1),some 28,none,[],[]⟩,⟨.load 1 false (.t 28),some 29,none,[],[]⟩,⟨.bin .eql (.t 29) (.c (.int .i64 1)),some 30,none,[],[]⟩,⟨.mv (.t 30),some 31,none,[],[]⟩,⟨.faddr 1 (.t 1),some 32,(some (31,false)),[],[]⟩,⟨.load 1 false (.t 32),some 33,(some (31,false)),[],[]⟩,⟨.bin .eql (.t 33) (.c (.int .i64 2)),some 34,(some (31,false)),[],[]⟩,⟨.pick (.t 31) (.c (.bool true)) (.t 34),some 35,none,[],[]⟩,⟨.mv (.t 35),some 27,none,[],[]⟩]
def ydr:Reg:=⟨[],zy9,[],[],false⟩
def zy8:List ROp:=[⟨.mv (.t 4),some 36,none,[39,40],[]⟩,⟨.faddr 5 (.t 1),some 37,none,[39,40],[]⟩,⟨.load 1 false (.t 37),some 38,none,[39,40],[]⟩,⟨.callv (.c (.clo 15 [] [])) [(.t 38)],some 39,none,[40],[]⟩,⟨.bsl 1 9 [(.t 39)],some 40,none,[],[]⟩,⟨.append 1 9 16 (.t 36) (.t 40),some 41,none,[],[]⟩,⟨.mv (.t 41),some 4,none,[],[]⟩]
def ydq:Reg:=⟨[],zy8,[39,40],[],false⟩
def zy7:List ROp:=[⟨.faddr 1 (.t 1),some 43,none,[],[]⟩,⟨.load 1 false (.t 43),some 44,none,[],[]⟩,⟨.bin .eql (.t 44) (.c (.int .i64 4)),some 45,none,[],[]⟩,⟨.mv (.t 45),some 46,none,[],[]⟩,⟨.faddr 4 (.t 1),some 47,(some (46,true)),[],[]⟩,⟨.load 1 false (.t 47),some 48,(some (46,true)),[],[]⟩,⟨.pick (.t 46) (.t 48) (.c (.bool false)),some 49,none,[],[]⟩,⟨.mv (.t 49),some 42,none,[],[]⟩]
def ydp:Reg:=⟨[],zy7,[],[],false⟩
def zy6:List ROp:=[⟨.mv (.t 4),some 50,none,[51],[]⟩,⟨.bsl 1 9 [(.c (.str ⟨#[42]⟩))],some 51,none,[],[]⟩,⟨.append 1 9 16 (.t 50) (.t 51),some 52,none,[],[]⟩,⟨.mv (.t 52),some 4,none,[],[]⟩]
def ydo:Reg:=⟨[],zy6,[51],[],false⟩
def zy5:List ROp:=[⟨.faddr 1 (.t 1),some 54,none,[],[]⟩,⟨.load 1 false (.t 54),some 55,none,[],[]⟩,⟨.bin .eql (.t 55) (.c (.int .i64 4)),some 56,none,[],[]⟩,⟨.mv (.t 56),some 53,none,[],[]⟩]
def ydn:Reg:=⟨[],zy5,[],[],false⟩
def zhd:List ROp:=[⟨.mv (.t 4),some 57,none,[60,61],[]⟩,⟨.faddr 3 (.t 1),some 58,none,[60,61],[]⟩,⟨.load 1 false (.t 58),some 59,none,[60,61],[]⟩,⟨.callv (.c (.clo 15 [] [])) [(.t 59)],some 60,none,[61],[]⟩,⟨.bsl 1 9 [(.t 60)],some 61,none,[],[]⟩,⟨.append 1 9 16 (.t 57) (.t 61),some 62,none,[],[]⟩,⟨.mv (.t 62),some 4,none,[],[]⟩]
def y1s:Reg:=⟨[],zhd,[60,61],[],false⟩
def zhc:List ROp:=[⟨.mv (.t 4),some 63,none,[64],[]⟩,⟨.callv (.c (.clo 16 [] [])) [(.t 63)],some 64,none,[],[]⟩,⟨.mv (.t 64),some 2,none,[],[]⟩]
def y1r:Reg:=⟨[],zhc,[64],[],false⟩
def ir_tMsg:IR:=(.seq (.reg ydw)
 (.seq (.reg ydv)
 (.seq (.seq (.reg ydu)
 (.cond (.t 12) (.reg ydt)
 .skip))
 (.seq (.reg yds)
 (.seq (.block 0 (.seq (.reg ydr)
 (.cond (.t 27) (.reg ydq)
 (.seq (.reg ydp)
 (.cond (.t 42) (.reg ydo)
 (.seq (.reg ydn)
 (.cond (.t 53) (.reg y1s)
 .skip)))))))
 (.seq (.reg y1r)
 .ret))))))
def yct:List RDesc:=[(.tmp 2)]
theorem e_tMsg_0:EqR ydw [⟨.box 6 55 (.t 0),some 1,none,[],[]⟩,⟨.mv (.c (.str ⟨#[]⟩)),some 2,none,[],[]⟩] [1]:=fun _ _ _=>rfl
theorem e_tMsg_1:EqR ydv [⟨.mv (.c (.str ⟨#[107,105,110,100]⟩)),some 3,none,[],[]⟩] []:=fun _ _ _=>rfl
theorem e_tMsg_2:EqR ydu zyb []:=fun _ _ _=>rfl
theorem e_tMsg_3:EqR ydt zya [13]:=fun _ _ _=>rfl
theorem e_tMsg_4 (C:FuncId->List AV->AV->Prop) (σ:St) (K:St->Prop):z0k C yds σ K = z08 C [] [⟨.bsl 1 9 [(.t 21),(.t 22),(.t 25)],some 26,none,[],[]⟩,⟨.mv (.t 26),some 4,none,[],[]⟩] zzl (σ.kills [21,25,26]) K:=rfl
theorem e_tMsg_5:EqR ydr zy9 []:=fun _ _ _=>rfl
theorem e_tMsg_6:EqR ydq zy8 [39,40]:=fun _ _ _=>rfl
theorem e_tMsg_7:EqR ydp zy7 []:=fun _ _ _=>rfl
theorem e_tMsg_8:EqR ydo zy6 [51]:=fun _ _ _=>rfl
theorem e_tMsg_9:EqR ydn zy5 []:=fun _ _ _=>rfl
theorem e_tMsg_10:EqR y1s zhd [60,61]:=fun _ _ _=>rfl
theorem e_tMsg_11:EqR y1r zhc [64]:=fun _ _ _=>rfl
theorem fn_tMsg {args:List AV} {r:AV} (ha:args.length.ble Tryz.f18.ntmps = true) (h:run (AFn Tryz.prog) ir_tMsg (endQ yct r) (z0b args)):AFn Tryz.prog 18 args r :=
 AFn.of_code (pv:=false) (hint:=fun _=>[]) (c:=Tryz.f18.body.getD .skip) (by kernel_rfl) (by kernel_rfl) Tryz.func18 (by kernel_rfl) (by kernel_rfl) (by kernel_rfl) (of_decide_eq_true (by kernel_rfl)) (Nat.le_of_ble_eq_true ha) (Nat.le_of_ble_eq_true (by kernel_rfl)) (z0c h)
attribute [local go_sem ↓] yfj
attribute [local go_sem] y0a e_tLine_0 e_tLine_1 zhe
attribute [local go_sem ↓] ir_tMsg
attribute [local go_sem] yct e_tMsg_0 e_tMsg_1 e_tMsg_2 zyb e_tMsg_3 zya e_tMsg_4 zzl e_tMsg_5 zy9 e_tMsg_6 zy8 e_tMsg_7 zy7 e_tMsg_8 zy6 e_tMsg_9 zy5 e_tMsg_10 zhd e_tMsg_11 zhc
theorem z1d (l:List ByteArray) (n:Nat) (hl:l.length≤10000) (hn:n≤1000000000) (h:∀ x,x ∈ l->x.size + 1≤n):AFn Tryz.prog 16 [.sl (l.map .str)] (.str (z15 l (⟨#[32]⟩:ByteArray))):=by
 refine fn_tLine rfl ?_
 have hj:=y6g (⟨#[32]⟩:ByteArray) n l h
 have hm:l.length * n≤10000 * 1000000000:=Nat.mul_le_mul hl hn
 simp (maxSteps:=9^7) only [go_sem,↓reduceIte,reduceCtorEq,Nat.reduceEqDiff,Nat.reduceBEq,Nat.reduceAdd,Nat.reduceSub,Nat.reduceMul,Nat.reduceLT,Nat.reduceLeDiff,Nat.reduceBNe,Int.reduceBEq,Int.reduceBNe,Int.reduceLT,Int.reduceLE,Msg.a,Par.a,Hld.a]
 (first | refine z01 (z42 l (⟨#[32]⟩:ByteArray) (by omega) (by omega)) ?_ | refine z00 (z42 l (⟨#[32]⟩:ByteArray) (by omega) (by omega)) ?_)
 simp (maxSteps:=9^7) only [go_sem,↓reduceIte,reduceCtorEq,Nat.reduceEqDiff,Nat.reduceBEq,Nat.reduceAdd,Nat.reduceSub,Nat.reduceMul,Nat.reduceLT,Nat.reduceLeDiff,Nat.reduceBNe,Int.reduceBEq,Int.reduceBNe,Int.reduceLT,Int.reduceLE,Msg.a,Par.a,Hld.a]
set_option maxHeartbeats 2000000 in
theorem tMsg_ok (m:Msg) (hs:-9223372036854775808≤m.stamp∧m.stamp≤9223372036854775807) (h1:m.key.size≤2000) (h2:m.hi.size≤2000) (h3:m.val.size≤2000):AFn Tryz.prog 18 [m.a] (.str m.line):=by
 refine fn_tMsg rfl ?_
 have d1:=z0g m.stamp hs.1 hs.2
 have q1:=z0f m.key
 have q2:=z0f m.hi
 have q3:=z0f m.val
 have c1:=z3h m.stamp hs
 have c2:=z07 m.key (by omega)
 have c3:=z07 m.hi (by omega)
 have c4:=z07 m.val (by omega)
 obtain ⟨stamp,kind,key,hi,op,val⟩:=m
 unfold Msg.line Msg.word Msg.rest
 simp only at d1 q1 q2 q3 c1 c2 c3 c4 h1 h2 h3 ⊢
 by_cases k0:1≤kind
 case neg =>
  have e1:kind ≠ 1:=by omega
  have e2:kind ≠ 2:=by omega
  have e3:kind ≠ 3:=by omega
  have e4:kind ≠ 4:=by omega
  have b1:(kind == 1) = false:=by simp [e1]
  have b2:(kind == 2) = false:=by simp [e2]
  have b4:(kind == 4) = false:=by simp [e4]
  have c5:=z1d [decS stamp,(⟨#[107,105,110,100]⟩:ByteArray),z04 key] 10000 (by simp) (by omega) (by simp [baz]; omega)
  simp only [e1,e2,e3,e4,if_false,or_self]
  (repeat (first | simp (maxSteps:=9^7) only [go_sem,↓reduceIte,reduceCtorEq,Nat.reduceEqDiff,Nat.reduceBEq,Nat.reduceAdd,Nat.reduceSub,Nat.reduceMul,Nat.reduceLT,Nat.reduceLeDiff,Nat.reduceBNe,Int.reduceBEq,Int.reduceBNe,Int.reduceLT,Int.reduceLE,Msg.a,Par.a,Hld.a,k0,b1,b2,b4] | refine z01 (c1) ?_ | refine z00 (c1) ?_ | refine z01 (c2) ?_ | refine z00 (c2) ?_ | refine z01 (c3) ?_ | refine z00 (c3) ?_ | refine z01 (c4) ?_ | refine z00 (c4) ?_ | refine z01 (c5) ?_ | refine z00 (c5) ?_ | refine And.intro (by omega) ?_ | refine And.intro (fun d hd=>by (repeat (rcases hd with rfl | hd; · exact ⟨rfl,rfl⟩)); cases hd) ?_))
 by_cases k4:kind≤4
 case neg =>
  have e1:kind ≠ 1:=by omega
  have e2:kind ≠ 2:=by omega
  have e3:kind ≠ 3:=by omega
  have e4:kind ≠ 4:=by omega
  have b1:(kind == 1) = false:=by simp [e1]
  have b2:(kind == 2) = false:=by simp [e2]
  have b4:(kind == 4) = false:=by simp [e4]
  have c5:=z1d [decS stamp,(⟨#[107,105,110,100]⟩:ByteArray),z04 key] 10000 (by simp) (by omega) (by simp [baz]; omega)
  simp only [e1,e2,e3,e4,if_false,or_self]
  (repeat (first | simp (maxSteps:=9^7) only [go_sem,↓reduceIte,reduceCtorEq,Nat.reduceEqDiff,Nat.reduceBEq,Nat.reduceAdd,Nat.reduceSub,Nat.reduceMul,Nat.reduceLT,Nat.reduceLeDiff,Nat.reduceBNe,Int.reduceBEq,Int.reduceBNe,Int.reduceLT,Int.reduceLE,Msg.a,Par.a,Hld.a,k0,k4,b1,b2,b4] | refine z01 (c1) ?_ | refine z00 (c1) ?_ | refine z01 (c2) ?_ | refine z00 (c2) ?_ | refine z01 (c3) ?_ | refine z00 (c3) ?_ | refine z01 (c4) ?_ | refine z00 (c4) ?_ | refine z01 (c5) ?_ | refine z00 (c5) ?_ | refine And.intro (by omega) ?_ | refine And.intro (fun d hd=>by (repeat (rcases hd with rfl | hd; · exact ⟨rfl,rfl⟩)); cases hd) ?_))
 have hk:kind = 1∨kind = 2∨kind = 3∨kind = 4:=by omega
 rcases hk with rfl | rfl | rfl | rfl
 ·have tw:IntKind.i64.wrap (1 - 1) = 0:=by rfl
  have tn:Int.toNat 0 = 0:=rfl
  have c5:=z1d [decS stamp,(⟨#[112,117,116]⟩:ByteArray),z04 key,z04 val] 10000 (by simp) (by omega) (by simp [baz]; omega)
  (repeat (first | simp (maxSteps:=9^7) only [go_sem,↓reduceIte,reduceCtorEq,Nat.reduceEqDiff,Nat.reduceBEq,Nat.reduceAdd,Nat.reduceSub,Nat.reduceMul,Nat.reduceLT,Nat.reduceLeDiff,Nat.reduceBNe,Int.reduceBEq,Int.reduceBNe,Int.reduceLT,Int.reduceLE,Msg.a,Par.a,Hld.a,tw,tn] | refine z01 (c1) ?_ | refine z00 (c1) ?_ | refine z01 (c2) ?_ | refine z00 (c2) ?_ | refine z01 (c3) ?_ | refine z00 (c3) ?_ | refine z01 (c4) ?_ | refine z00 (c4) ?_ | refine z01 (c5) ?_ | refine z00 (c5) ?_ | refine And.intro (by omega) ?_ | refine And.intro (fun d hd=>by (repeat (rcases hd with rfl | hd; · exact ⟨rfl,rfl⟩)); cases hd) ?_))
  all_goals (first | rfl | simp)
 ·have tw:IntKind.i64.wrap (2 - 1) = 1:=by rfl
  have tn:Int.toNat 1 = 1:=rfl
  have c5:=z1d [decS stamp,(⟨#[97,100,100]⟩:ByteArray),z04 key,z04 val] 10000 (by simp) (by omega) (by simp [baz]; omega)
  (repeat (first | simp (maxSteps:=9^7) only [go_sem,↓reduceIte,reduceCtorEq,Nat.reduceEqDiff,Nat.reduceBEq,Nat.reduceAdd,Nat.reduceSub,Nat.reduceMul,Nat.reduceLT,Nat.reduceLeDiff,Nat.reduceBNe,Int.reduceBEq,Int.reduceBNe,Int.reduceLT,Int.reduceLE,Msg.a,Par.a,Hld.a,tw,tn] | refine z01 (c1) ?_ | refine z00 (c1) ?_ | refine z01 (c2) ?_ | refine z00 (c2) ?_ | refine z01 (c3) ?_ | refine z00 (c3) ?_ | refine z01 (c4) ?_ | refine z00 (c4) ?_ | refine z01 (c5) ?_ | refine z00 (c5) ?_ | refine And.intro (by omega) ?_ | refine And.intro (fun d hd=>by (repeat (rcases hd with rfl | hd; · exact ⟨rfl,rfl⟩)); cases hd) ?_))
  all_goals (first | rfl | simp)
 ·have tw:IntKind.i64.wrap (3 - 1) = 2:=by rfl
  have tn:Int.toNat 2 = 2:=rfl
  have c5:=z1d [decS stamp,(⟨#[100,101,108]⟩:ByteArray),z04 key] 10000 (by simp) (by omega) (by simp [baz]; omega)
  (repeat (first | simp (maxSteps:=9^7) only [go_sem,↓reduceIte,reduceCtorEq,Nat.reduceEqDiff,Nat.reduceBEq,Nat.reduceAdd,Nat.reduceSub,Nat.reduceMul,Nat.reduceLT,Nat.reduceLeDiff,Nat.reduceBNe,Int.reduceBEq,Int.reduceBNe,Int.reduceLT,Int.reduceLE,Msg.a,Par.a,Hld.a,tw,tn] | refine z01 (c1) ?_ | refine z00 (c1) ?_ | refine z01 (c2) ?_ | refine z00 (c2) ?_ | refine z01 (c3) ?_ | refine z00 (c3) ?_ | refine z01 (c4) ?_ | refine z00 (c4) ?_ | refine z01 (c5) ?_ | refine z00 (c5) ?_ | refine And.intro (by omega) ?_ | refine And.intro (fun d hd=>by (repeat (rcases hd with rfl | hd; · exact ⟨rfl,rfl⟩)); cases hd) ?_))
  all_goals (first | rfl | simp)
 ·have tw:IntKind.i64.wrap (4 - 1) = 3:=by rfl
  have tn:Int.toNat 3 = 3:=rfl
  cases op with
  | true =>
   have c5:=z1d [decS stamp,(⟨#[119,105,112,101]⟩:ByteArray),z04 key,(⟨#[42]⟩:ByteArray)] 10000 (by simp) (by omega) (by simp [baz]; omega)
   (repeat (first | simp (maxSteps:=9^7) only [go_sem,↓reduceIte,reduceCtorEq,Nat.reduceEqDiff,Nat.reduceBEq,Nat.reduceAdd,Nat.reduceSub,Nat.reduceMul,Nat.reduceLT,Nat.reduceLeDiff,Nat.reduceBNe,Int.reduceBEq,Int.reduceBNe,Int.reduceLT,Int.reduceLE,Msg.a,Par.a,Hld.a,tw,tn] | refine z01 (c1) ?_ | refine z00 (c1) ?_ | refine z01 (c2) ?_ | refine z00 (c2) ?_ | refine z01 (c3) ?_ | refine z00 (c3) ?_ | refine z01 (c4) ?_ | refine z00 (c4) ?_ | refine z01 (c5) ?_ | refine z00 (c5) ?_ | refine And.intro (by omega) ?_ | refine And.intro (fun d hd=>by (repeat (rcases hd with rfl | hd; · exact ⟨rfl,rfl⟩)); cases hd) ?_))
   all_goals (first | rfl | simp)
  | false =>
   have c5:=z1d [decS stamp,(⟨#[119,105,112,101]⟩:ByteArray),z04 key,z04 hi] 10000 (by simp) (by omega) (by simp [baz]; omega)
   (repeat (first | simp (maxSteps:=9^7) only [go_sem,↓reduceIte,reduceCtorEq,Nat.reduceEqDiff,Nat.reduceBEq,Nat.reduceAdd,Nat.reduceSub,Nat.reduceMul,Nat.reduceLT,Nat.reduceLeDiff,Nat.reduceBNe,Int.reduceBEq,Int.reduceBNe,Int.reduceLT,Int.reduceLE,Msg.a,Par.a,Hld.a,tw,tn] | refine z01 (c1) ?_ | refine z00 (c1) ?_ | refine z01 (c2) ?_ | refine z00 (c2) ?_ | refine z01 (c3) ?_ | refine z00 (c3) ?_ | refine z01 (c4) ?_ | refine z00 (c4) ?_ | refine z01 (c5) ?_ | refine z00 (c5) ?_ | refine And.intro (by omega) ?_ | refine And.intro (fun d hd=>by (repeat (rcases hd with rfl | hd; · exact ⟨rfl,rfl⟩)); cases hd) ?_))
   all_goals (first | rfl | simp)
end
section
/-
 Traces: pairs,what is below a node,nodes as lines: the code,walked.
-/
open Go.RowKit
set_option linter.unusedVariables false
set_option linter.unusedSimpArgs false
set_option maxRecDepth 100000
attribute [local go_sem ↓] z11 z0l
/-! ### percolate/trace.Pairs -/
def zre:Reg:=⟨[],[⟨.mv (.c (.str ⟨#[]⟩)),some 2,none,[],[]⟩],[],[],false⟩
def zb1:List ROp:=[⟨.mv (.t 0),some 6,none,[8,9],[]⟩,⟨.len false (.t 6),some 7,none,[8,9],[]⟩,⟨.callv (.c (.clo 17 [] [])) [(.t 7)],some 8,none,[9],[]⟩,⟨.bsl 1 9 [(.t 8)],some 9,none,[],[]⟩,⟨.mv (.t 9),some 3,none,[],[]⟩]
def zrd:Reg:=⟨[],zb1,[8,9],[],false⟩
def zb0:List ROp:=[⟨.mv (.t 0),some 10,none,[],[]⟩,⟨.len false (.t 10),some 11,none,[],[]⟩,⟨.mv (.c (.int .i64 0)),some 12,none,[],[]⟩]
def zrc:Reg:=⟨[],zb0,[],[],false⟩
def zrb:Reg:=⟨[],[⟨.bin .lss (.t 12) (.t 11),some 13,none,[],[]⟩],[],[],false⟩
def zaz:List ROp:=[⟨.iaddr 2 (.t 10) (.t 12),some 14,none,[5],[]⟩,⟨.load 2 true (.t 14),some 15,none,[5],[]⟩,⟨.alloc 2 50 (.agg [(.str ⟨#[]⟩),(.str ⟨#[]⟩)]),some 5,none,[],[]⟩,⟨.store 2 (.t 5) (.t 15),none,none,[],[]⟩]
def zra:Reg:=⟨[],zaz,[5],[],false⟩
def zej:List ROp:=[⟨.mv (.t 3),some 16,none,[19,23,25],[]⟩,⟨.faddr 0 (.t 5),some 17,none,[19,23,25],[]⟩,⟨.load 1 false (.t 17),some 18,none,[19,23,25],[]⟩,⟨.callv (.c (.clo 15 [] [])) [(.t 18)],some 19,none,[23,25],[]⟩,⟨.bin .add (.t 19) (.c (.str ⟨#[61]⟩)),some 20,none,[23,25],[]⟩,⟨.faddr 1 (.t 5),some 21,none,[19,23,25],[]⟩,⟨.load 1 false (.t 21),some 22,none,[19,23,25],[]⟩,⟨.callv (.c (.clo 15 [] [])) [(.t 22)],some 23,none,[25],[]⟩,⟨.bin .add (.t 20) (.t 23),some 24,none,[25],[]⟩,⟨.bsl 1 9 [(.t 24)],some 25,none,[],[]⟩]
def zr9:Reg:=⟨zej,[⟨.append 1 9 16 (.t 16) (.t 25),some 26,none,[],[]⟩,⟨.mv (.t 26),some 3,none,[],[]⟩],[19,23,25],[],true⟩
def zr8:Reg:=⟨[],[⟨.bin .add (.t 12) (.c (.int .i64 1)),some 27,none,[],[]⟩,⟨.mv (.t 27),some 12,none,[],[]⟩],[],[],false⟩
def zkk:IR:=(.seq (.reg zrb)
 (.seq (.cond (.t 13) .skip
 (.exit 0))
 (.seq (.block 1 (.seq (.reg zra)
 (.reg zr9)))
 (.reg zr8))))
def zay:List ROp:=[⟨.mv (.t 3),some 28,none,[29],[]⟩,⟨.callv (.c (.clo 16 [] [])) [(.t 28)],some 29,none,[],[]⟩,⟨.mv (.t 29),some 2,none,[],[]⟩]
def zr7:Reg:=⟨[],zay,[29],[],false⟩
def y6m:IR:=(.seq (.reg zre)
 (.seq (.reg zrd)
 (.seq (.seq (.reg zrc)
 (.block 0 (.loop zkk)))
 (.seq (.reg zr7)
 .ret))))
def zpz:List RDesc:=[(.tmp 2)]
theorem e_tPairs_0:EqR zre [⟨.mv (.c (.str ⟨#[]⟩)),some 2,none,[],[]⟩] []:=fun _ _ _=>rfl
theorem e_tPairs_1:EqR zrd zb1 [8,9]:=fun _ _ _=>rfl
theorem e_tPairs_2:EqR zrc zb0 []:=fun _ _ _=>rfl
theorem e_tPairs_3:EqR zrb [⟨.bin .lss (.t 12) (.t 11),some 13,none,[],[]⟩] []:=fun _ _ _=>rfl
theorem e_tPairs_4:EqR zra zaz [5]:=fun _ _ _=>rfl
theorem e_tPairs_5 (C:FuncId->List AV->AV->Prop) (σ:St) (K:St->Prop):z0k C zr9 σ K = z08 C [] [⟨.append 1 9 16 (.t 16) (.t 25),some 26,none,[],[]⟩,⟨.mv (.t 26),some 3,none,[],[]⟩] zej (σ.kills [19,23,25]) K:=rfl
theorem e_tPairs_6:EqR zr8 [⟨.bin .add (.t 12) (.c (.int .i64 1)),some 27,none,[],[]⟩,⟨.mv (.t 27),some 12,none,[],[]⟩] []:=fun _ _ _=>rfl
theorem e_tPairs_8:EqR zr7 zay [29]:=fun _ _ _=>rfl
theorem fn_tPairs {args:List AV} {r:AV} (ha:args.length.ble Tryz.f49.ntmps = true) (h:run (AFn Tryz.prog) y6m (endQ zpz r) (z0b args)):AFn Tryz.prog 49 args r :=
 AFn.of_code (pv:=false) (hint:=fun _=>[]) (c:=Tryz.f49.body.getD .skip) (by kernel_rfl) (by kernel_rfl) Tryz.func49 (by kernel_rfl) (by kernel_rfl) (by kernel_rfl) (of_decide_eq_true (by kernel_rfl)) (Nat.le_of_ble_eq_true ha) (Nat.le_of_ble_eq_true (by kernel_rfl)) (z0c h)
/-! ### percolate/trace.below -/
def zru:Reg:=⟨[],[⟨.box 10 32 (.t 0),some 1,none,[],[]⟩,⟨.mv (.c (.str ⟨#[]⟩)),some 2,none,[],[]⟩],[1],[],false⟩
def zba:List ROp:=[⟨.faddr 1 (.t 1),some 6,none,[],[]⟩,⟨.load 1 false (.t 6),some 7,none,[],[]⟩,⟨.bin .eql (.t 7) (.c (.int .i64 0)),some 8,none,[],[]⟩]
def zrt:Reg:=⟨[],zba,[],[],false⟩
def zb9:List ROp:=[⟨.faddr 9 (.t 1),some 9,none,[11,12,13],[]⟩,⟨.load 1 false (.t 9),some 10,none,[11,12,13],[]⟩,⟨.callv (.c (.clo 49 [] [])) [(.t 10)],some 11,none,[12,13],[]⟩,⟨.bsl 1 9 [(.c (.str ⟨#[114,111,119,115]⟩)),(.t 11)],some 12,none,[13],[]⟩,⟨.callv (.c (.clo 16 [] [])) [(.t 12)],some 13,none,[],[]⟩,⟨.mv (.t 13),some 2,none,[],[]⟩]
def zrs:Reg:=⟨[],zb9,[11,12,13],[],false⟩
def zrr:Reg:=⟨[],[⟨.bsl 1 9 [(.c (.str ⟨#[107,105,100,115]⟩))],some 14,none,[],[]⟩,⟨.mv (.t 14),some 3,none,[],[]⟩],[14],[],false⟩
def zb8:List ROp:=[⟨.faddr 3 (.t 1),some 15,none,[],[]⟩,⟨.load 1 false (.t 15),some 16,none,[],[]⟩,⟨.len false (.t 16),some 17,none,[],[]⟩,⟨.mv (.c (.int .i64 0)),some 18,none,[],[]⟩]
def zrq:Reg:=⟨[],zb8,[],[],false⟩
def zrp:Reg:=⟨[],[⟨.bin .lss (.t 18) (.t 17),some 19,none,[],[]⟩],[],[],false⟩
def zb7:List ROp:=[⟨.mv (.t 18),some 20,none,[],[]⟩,⟨.iaddr 1 (.t 16) (.t 18),some 21,none,[],[]⟩,⟨.load 1 false (.t 21),some 22,none,[],[]⟩,⟨.mv (.t 20),some 4,none,[],[]⟩,⟨.mv (.t 22),some 5,none,[],[]⟩]
def zro:Reg:=⟨[],zb7,[],[],false⟩
def zb6:List ROp:=[⟨.mv (.t 4),some 23,none,[],[]⟩,⟨.bin .gtr (.t 23) (.c (.int .i64 0)),some 24,none,[],[]⟩,⟨.mv (.t 24),some 25,none,[],[]⟩,⟨.mv (.t 4),some 26,(some (25,true)),[],[]⟩,⟨.faddr 2 (.t 1),some 27,(some (25,true)),[],[]⟩,⟨.load 1 false (.t 27),some 28,(some (25,true)),[],[]⟩,⟨.len false (.t 28),some 29,(some (25,true)),[],[]⟩,⟨.bin .leq (.t 26) (.t 29),some 30,(some (25,true)),[],[]⟩,⟨.pick (.t 25) (.t 30) (.c (.bool false)),some 31,none,[],[]⟩]
def zrn:Reg:=⟨[],zb6,[],[],false⟩
def zb5:List ROp:=[⟨.mv (.t 3),some 32,none,[39,40],[]⟩,⟨.faddr 2 (.t 1),some 33,none,[39,40],[]⟩,⟨.load 1 false (.t 33),some 34,none,[39,40],[]⟩,⟨.mv (.t 4),some 35,none,[39,40],[]⟩,⟨.bin .sub (.t 35) (.c (.int .i64 1)),some 36,none,[39,40],[]⟩,⟨.iaddr 1 (.t 34) (.t 36),some 37,none,[39,40],[]⟩,⟨.load 1 false (.t 37),some 38,none,[39,40],[]⟩,⟨.callv (.c (.clo 15 [] [])) [(.t 38)],some 39,none,[40],[]⟩,⟨.bsl 1 9 [(.t 39)],some 40,none,[],[]⟩,⟨.append 1 9 16 (.t 32) (.t 40),some 41,none,[],[]⟩,⟨.mv (.t 41),some 3,none,[],[]⟩]
def zrm:Reg:=⟨[],zb5,[39,40],[],false⟩
def zb4:List ROp:=[⟨.mv (.t 3),some 42,none,[44,45],[]⟩,⟨.mv (.t 5),some 43,none,[44,45],[]⟩,⟨.callv (.c (.clo 17 [] [])) [(.t 43)],some 44,none,[45],[]⟩,⟨.bsl 1 9 [(.t 44)],some 45,none,[],[]⟩,⟨.append 1 9 16 (.t 42) (.t 45),some 46,none,[],[]⟩,⟨.mv (.t 46),some 3,none,[],[]⟩]
def zrl:Reg:=⟨[],zb4,[44,45],[],false⟩
def zkm:Reg:=⟨[],[⟨.bin .add (.t 18) (.c (.int .i64 1)),some 47,none,[],[]⟩,⟨.mv (.t 47),some 18,none,[],[]⟩],[],[],false⟩
def zfc:IR:=(.seq (.reg zrp)
 (.seq (.cond (.t 19) .skip
 (.exit 0))
 (.seq (.block 1 (.seq (.reg zro)
 (.seq (.seq (.reg zrn)
 (.cond (.t 31) (.reg zrm)
 .skip))
 (.reg zrl))))
 (.reg zkm))))
def z7k:List ROp:=[⟨.mv (.t 3),some 48,none,[49],[]⟩,⟨.callv (.c (.clo 16 [] [])) [(.t 48)],some 49,none,[],[]⟩,⟨.mv (.t 49),some 2,none,[],[]⟩]
def zkl:Reg:=⟨[],z7k,[49],[],false⟩
def y6o:IR:=(.seq (.reg zru)
 (.seq (.seq (.reg zrt)
 (.cond (.t 8) (.seq (.reg zrs)
 .ret)
 .skip))
 (.seq (.reg zrr)
 (.seq (.seq (.reg zrq)
 (.block 0 (.loop zfc)))
 (.seq (.reg zkl)
 .ret)))))
def zq1:List RDesc:=[(.tmp 2)]
theorem e_tBelow_0:EqR zru [⟨.box 10 32 (.t 0),some 1,none,[],[]⟩,⟨.mv (.c (.str ⟨#[]⟩)),some 2,none,[],[]⟩] [1]:=fun _ _ _=>rfl
theorem e_tBelow_1:EqR zrt zba []:=fun _ _ _=>rfl
theorem e_tBelow_2:EqR zrs zb9 [11,12,13]:=fun _ _ _=>rfl
theorem e_tBelow_3:EqR zrr [⟨.bsl 1 9 [(.c (.str ⟨#[107,105,100,115]⟩))],some 14,none,[],[]⟩,⟨.mv (.t 14),some 3,none,[],[]⟩] [14]:=fun _ _ _=>rfl
theorem e_tBelow_4:EqR zrq zb8 []:=fun _ _ _=>rfl
theorem e_tBelow_5:EqR zrp [⟨.bin .lss (.t 18) (.t 17),some 19,none,[],[]⟩] []:=fun _ _ _=>rfl
theorem e_tBelow_6:EqR zro zb7 []:=fun _ _ _=>rfl
theorem e_tBelow_7:EqR zrn zb6 []:=fun _ _ _=>rfl
theorem e_tBelow_8:EqR zrm zb5 [39,40]:=fun _ _ _=>rfl
theorem e_tBelow_9:EqR zrl zb4 [44,45]:=fun _ _ _=>rfl
theorem ya9:EqR zkm [⟨.bin .add (.t 18) (.c (.int .i64 1)),some 47,none,[],[]⟩,⟨.mv (.t 47),some 18,none,[],[]⟩] []:=fun _ _ _=>rfl
theorem ya8:EqR zkl z7k [49]:=fun _ _ _=>rfl
theorem fn_tBelow {args:List AV} {r:AV} (ha:args.length.ble Tryz.f19.ntmps = true) (h:run (AFn Tryz.prog) y6o (endQ zq1 r) (z0b args)):AFn Tryz.prog 19 args r :=
 AFn.of_code (pv:=false) (hint:=fun _=>[]) (c:=Tryz.f19.body.getD .skip) (by kernel_rfl) (by kernel_rfl) Tryz.func19 (by kernel_rfl) (by kernel_rfl) (by kernel_rfl) (of_decide_eq_true (by kernel_rfl)) (Nat.le_of_ble_eq_true ha) (Nat.le_of_ble_eq_true (by kernel_rfl)) (z0c h)
/-! ### percolate/trace.Node -/
def y1q:Reg:=⟨[],[⟨.box 10 32 (.t 0),some 1,none,[],[]⟩,⟨.mv (.c (.str ⟨#[]⟩)),some 2,none,[],[]⟩],[1],[],false⟩
def z9q:List ROp:=[⟨.faddr 4 (.t 1),some 7,none,[9],[]⟩,⟨.load 1 false (.t 7),some 8,none,[9],[]⟩,⟨.callv (.c (.clo 15 [] [])) [(.t 8)],some 9,none,[],[]⟩,⟨.mv (.t 9),some 3,none,[],[]⟩]
def y1p:Reg:=⟨[],z9q,[9],[],false⟩
def y1o:Reg:=⟨[],[⟨.faddr 5 (.t 1),some 10,none,[],[]⟩,⟨.load 1 false (.t 10),some 11,none,[],[]⟩],[],[],false⟩
def y1n:Reg:=⟨[],[⟨.mv (.c (.str ⟨#[42]⟩)),some 3,none,[],[]⟩],[],[],false⟩
def z9p:List ROp:=[⟨.faddr 8 (.t 1),some 12,none,[15,16,17],[]⟩,⟨.load 1 false (.t 12),some 13,none,[15,16,17],[]⟩,⟨.len false (.t 13),some 14,none,[15,16,17],[]⟩,⟨.callv (.c (.clo 17 [] [])) [(.t 14)],some 15,none,[16,17],[]⟩,⟨.bsl 1 9 [(.c (.str ⟨#[109,115,103,115]⟩)),(.t 15)],some 16,none,[17],[]⟩,⟨.callv (.c (.clo 16 [] [])) [(.t 16)],some 17,none,[],[]⟩,⟨.mv (.t 17),some 4,none,[],[]⟩]
def y1m:Reg:=⟨[],z9p,[15,16,17],[],false⟩
def z9o:List ROp:=[⟨.faddr 8 (.t 1),some 18,none,[],[]⟩,⟨.load 1 false (.t 18),some 19,none,[],[]⟩,⟨.len false (.t 19),some 20,none,[],[]⟩,⟨.mv (.c (.int .i64 0)),some 21,none,[],[]⟩]
def y1l:Reg:=⟨[],z9o,[],[],false⟩
def y1k:Reg:=⟨[],[⟨.bin .lss (.t 21) (.t 20),some 22,none,[],[]⟩],[],[],false⟩
def z9n:List ROp:=[⟨.iaddr 6 (.t 19) (.t 21),some 23,none,[6],[]⟩,⟨.load 6 true (.t 23),some 24,none,[6],[]⟩,⟨.alloc 6 55 (.agg [(.int .i64 0),(.int .i64 0),(.str ⟨#[]⟩),(.str ⟨#[]⟩),(.bool false),(.str ⟨#[]⟩)]),some 6,none,[],[]⟩,⟨.store 6 (.t 6) (.t 24),none,none,[],[]⟩]
def y1j:Reg:=⟨[],z9n,[6],[],false⟩
def z9m:List ROp:=[⟨.mv (.t 4),some 25,none,[27,28,29],[]⟩,⟨.load 6 true (.t 6),some 26,none,[27,28,29],[]⟩,⟨.callv (.c (.clo 18 [] [])) [(.t 26)],some 27,none,[28,29],[]⟩,⟨.bsl 1 9 [(.t 25),(.c (.str ⟨#[44]⟩)),(.t 27)],some 28,none,[29],[]⟩,⟨.callv (.c (.clo 16 [] [])) [(.t 28)],some 29,none,[],[]⟩,⟨.mv (.t 29),some 4,none,[],[]⟩]
def y1i:Reg:=⟨[],z9m,[27,28,29],[],false⟩
def y1h:Reg:=⟨[],[⟨.bin .add (.t 21) (.c (.int .i64 1)),some 30,none,[],[]⟩,⟨.mv (.t 30),some 21,none,[],[]⟩],[],[],false⟩
def z8t:IR:=(.seq (.reg y1k)
 (.seq (.cond (.t 22) .skip
 (.exit 0))
 (.seq (.block 1 (.seq (.reg y1j)
 (.reg y1i)))
 (.reg y1h))))
def z6n:List ROp:=[⟨.bsl 1 9 [(.c (.str ⟨#[110,111,100,101]⟩)),(.t 33),(.t 36),(.t 39),(.t 42),(.t 43),(.c (.str ⟨#[58]⟩)),(.t 45),(.c (.str ⟨#[58]⟩)),(.t 46)],some 47,none,[48],[]⟩,⟨.callv (.c (.clo 16 [] [])) [(.t 47)],some 48,none,[],[]⟩,⟨.mv (.t 48),some 2,none,[],[]⟩]
def z6v:List ROp:=[⟨.faddr 0 (.t 1),some 31,none,[33,36,39,42,45,47,48],[]⟩,⟨.load 1 false (.t 31),some 32,none,[33,36,39,42,45,47,48],[]⟩,⟨.callv (.c (.clo 17 [] [])) [(.t 32)],some 33,none,[36,39,42,45,47,48],[]⟩,⟨.faddr 1 (.t 1),some 34,none,[33,36,39,42,45,47,48],[]⟩,⟨.load 1 false (.t 34),some 35,none,[33,36,39,42,45,47,48],[]⟩,⟨.callv (.c (.clo 17 [] [])) [(.t 35)],some 36,none,[39,42,45,47,48],[]⟩,⟨.faddr 7 (.t 1),some 37,none,[33,36,39,42,45,47,48],[]⟩,⟨.load 1 false (.t 37),some 38,none,[33,36,39,42,45,47,48],[]⟩,⟨.callv (.c (.clo 17 [] [])) [(.t 38)],some 39,none,[42,45,47,48],[]⟩,⟨.faddr 6 (.t 1),some 40,none,[33,36,39,42,45,47,48],[]⟩,⟨.load 1 false (.t 40),some 41,none,[33,36,39,42,45,47,48],[]⟩,⟨.callv (.c (.clo 17 [] [])) [(.t 41)],some 42,none,[45,47,48],[]⟩,⟨.mv (.t 3),some 43,none,[33,36,39,42,45,47,48],[]⟩,⟨.load 10 true (.t 1),some 44,none,[33,36,39,42,45,47,48],[]⟩,⟨.callv (.c (.clo 19 [] [])) [(.t 44)],some 45,none,[47,48],[]⟩,⟨.mv (.t 4),some 46,none,[33,36,39,42,45,47,48],[]⟩]
def zrf:Reg:=⟨z6v,z6n,[33,36,39,42,45,47,48],[],true⟩
def zzj:IR:=(.seq (.reg y1q)
 (.seq (.reg y1p)
 (.seq (.seq (.reg y1o)
 (.cond (.t 11) (.reg y1n)
 .skip))
 (.seq (.reg y1m)
 (.seq (.seq (.reg y1l)
 (.block 0 (.loop z8t)))
 (.seq (.reg zrf)
 .ret))))))
def zk3:List RDesc:=[(.tmp 2)]
theorem y7n:EqR y1q [⟨.box 10 32 (.t 0),some 1,none,[],[]⟩,⟨.mv (.c (.str ⟨#[]⟩)),some 2,none,[],[]⟩] [1]:=fun _ _ _=>rfl
theorem y7m:EqR y1p z9q [9]:=fun _ _ _=>rfl
theorem y7l:EqR y1o [⟨.faddr 5 (.t 1),some 10,none,[],[]⟩,⟨.load 1 false (.t 10),some 11,none,[],[]⟩] []:=fun _ _ _=>rfl
theorem y7k:EqR y1n [⟨.mv (.c (.str ⟨#[42]⟩)),some 3,none,[],[]⟩] []:=fun _ _ _=>rfl
theorem y7j:EqR y1m z9p [15,16,17]:=fun _ _ _=>rfl
theorem y7i:EqR y1l z9o []:=fun _ _ _=>rfl
theorem y7h:EqR y1k [⟨.bin .lss (.t 21) (.t 20),some 22,none,[],[]⟩] []:=fun _ _ _=>rfl
theorem y7g:EqR y1j z9n [6]:=fun _ _ _=>rfl
theorem y7f:EqR y1i z9m [27,28,29]:=fun _ _ _=>rfl
theorem y7e:EqR y1h [⟨.bin .add (.t 21) (.c (.int .i64 1)),some 30,none,[],[]⟩,⟨.mv (.t 30),some 21,none,[],[]⟩] []:=fun _ _ _=>rfl
theorem zxe (C:FuncId->List AV->AV->Prop) (σ:St) (K:St->Prop):z0k C zrf σ K = z08 C [] z6n z6v (σ.kills [33,36,39,42,45,47,48]) K:=rfl
theorem fn_tNode {args:List AV} {r:AV} (ha:args.length.ble Tryz.f6.ntmps = true) (h:run (AFn Tryz.prog) zzj (endQ zk3 r) (z0b args)):AFn Tryz.prog 6 args r :=
 AFn.of_code (pv:=false) (hint:=fun _=>[]) (c:=Tryz.f6.body.getD .skip) (by kernel_rfl) (by kernel_rfl) Tryz.func6 (by kernel_rfl) (by kernel_rfl) (by kernel_rfl) (of_decide_eq_true (by kernel_rfl)) (Nat.le_of_ble_eq_true ha) (Nat.le_of_ble_eq_true (by kernel_rfl)) (z0c h)
attribute [local go_sem ↓] y6m
attribute [local go_sem] zpz e_tPairs_0 e_tPairs_1 zb1 e_tPairs_2 zb0 e_tPairs_3 e_tPairs_4 zaz e_tPairs_5 zej e_tPairs_6 e_tPairs_8 zay
attribute [local go_sem ↓] y6o
attribute [local go_sem] zq1 e_tBelow_0 e_tBelow_1 zba e_tBelow_2 zb9 e_tBelow_3 e_tBelow_4 zb8 e_tBelow_5 e_tBelow_6 zb7 e_tBelow_7 zb6 e_tBelow_8 zb5 e_tBelow_9 zb4 ya9 ya8 z7k
attribute [local go_sem ↓] zzj
attribute [local go_sem] zk3 y7n y7m z9q y7l y7k y7j z9p y7i z9o y7h y7g z9n y7f z9m y7e zxe z6n z6v
def z63 (l:List Par) (j:Nat):List ByteArray:=decS l.length :: (l.take j).map Par.w
def tpInv (l:List Par) (k:Nat) (σ:St):Prop :=
 ∃ j:Nat,j≤l.length∧k = l.length - j∧σ.T 10 = .sl (l.map Par.a)∧σ.T 11 = .int .i64 l.length∧σ.T 12 = .int .i64 j∧σ.T 3 = .rs 9 0 (j + 1)∧σ.H 9 = some ⟨1,9,(z63 l j).map .str,0⟩
theorem y96 {l:List Par} {j:Nat} {x:Par} (h:l[j]? = some x):(z63 l j).map AV.str ++ [AV.str x.w] = (z63 l (j + 1)).map AV.str:=by
 unfold z63
 rw [z7d h]; simp
theorem pairsW_len {l:List Par} {j:Nat} (h:j≤l.length):((z63 l j).map AV.str).length = j + 1:=by
 unfold z63
 rw [List.length_map,List.length_cons,List.length_map,List.length_take]; omega
theorem zng {p:Par} (h1:p.key.size≤2000) (h2:p.val.size≤2000):p.w.size≤12010:=by
 have q1:=z0f p.key
 have q2:=z0f p.val
 unfold Par.w
 have e:(⟨#[61]⟩:ByteArray).size = 1:=rfl
 rw [ByteArray.size_append,ByteArray.size_append,e]
 omega
theorem tPairs_ok (l:List Par) (hl:l.length≤2000) (hs:∀ p,p ∈ l->p.key.size≤2000∧p.val.size≤2000):AFn Tryz.prog 49 [.sl (l.map Par.a)] (.str (z64 l)):=by
 refine fn_tPairs rfl ?_
 have d1:=z0g l.length (by omega) (by omega)
 have c1:=z3h l.length ⟨by omega,by omega⟩
 (repeat (first | simp (maxSteps:=9^7) only [go_sem,↓reduceIte,reduceCtorEq,Nat.reduceEqDiff,Nat.reduceBEq,Nat.reduceAdd,Nat.reduceSub,Nat.reduceMul,Nat.reduceLT,Nat.reduceLeDiff,Nat.reduceBNe,Int.reduceBEq,Int.reduceBNe,Int.reduceLT,Int.reduceLE,Msg.a,Par.a,Nd.a,List.length_map] | refine z01 (c1) ?_ | refine z00 (c1) ?_ | refine And.intro (by omega) ?_ | refine And.intro (fun d hd=>by (repeat (rcases hd with rfl | hd; · exact ⟨rfl,rfl⟩)); cases hd) ?_))
 refine z0d (tpInv l) (k:=l.length) ⟨0,by omega,rfl,?_,?_,?_,?_,?_⟩ ?_
 iterate 2 focus ((simp (maxSteps:=9^7) only [go_sem,↓reduceIte,reduceCtorEq,Nat.reduceEqDiff,Nat.reduceBEq,Nat.reduceAdd,Nat.reduceSub,Nat.reduceMul,Nat.reduceLT,Nat.reduceLeDiff,Nat.reduceBNe,Int.reduceBEq,Int.reduceBNe,Int.reduceLT,Int.reduceLE,Msg.a,Par.a,Nd.a,List.length_map]) <;> rfl)
 ·simp (maxSteps:=9^7) only [go_sem,↓reduceIte,reduceCtorEq,Nat.reduceEqDiff,Nat.reduceBEq,Nat.reduceAdd,Nat.reduceSub,Nat.reduceMul,Nat.reduceLT,Nat.reduceLeDiff,Nat.reduceBNe,Int.reduceBEq,Int.reduceBNe,Int.reduceLT,Int.reduceLE,Msg.a,Par.a,Nd.a]
  rfl
 ·simp (maxSteps:=9^7) only [go_sem,↓reduceIte,reduceCtorEq,Nat.reduceEqDiff,Nat.reduceBEq,Nat.reduceAdd,Nat.reduceSub,Nat.reduceMul,Nat.reduceLT,Nat.reduceLeDiff,Nat.reduceBNe,Int.reduceBEq,Int.reduceBNe,Int.reduceLT,Int.reduceLE,Msg.a,Par.a,Nd.a]
 ·simp (maxSteps:=9^7) only [go_sem,↓reduceIte,reduceCtorEq,Nat.reduceEqDiff,Nat.reduceBEq,Nat.reduceAdd,Nat.reduceSub,Nat.reduceMul,Nat.reduceLT,Nat.reduceLeDiff,Nat.reduceBNe,Int.reduceBEq,Int.reduceBNe,Int.reduceLT,Int.reduceLE,Msg.a,Par.a,Nd.a,List.length_map]
  rfl
 rintro k σ ⟨j,hj,rfl,t10,t11,t12,t3,o9⟩
 simp only [zkk]
 have hpl:=pairsW_len hj
 have htk:((z63 l j).map AV.str).take (j + 1) = (z63 l j).map AV.str:=List.take_of_length_le (by omega)
 by_cases hlt:j < l.length
 ·have hlt':(j:Int) < (l.length:Int):=by omega
  obtain ⟨x,hx⟩:=z0i hlt
  have hgj:=z0o (f:=Par.a) hx
  simp only [Par.a] at hgj
  have hw:=z1j (j:=j) (by omega)
  obtain ⟨s1,s2⟩:=hs x (List.mem_of_getElem? hx)
  have q1:=z0f x.key
  have q2:=z0f x.val
  have c2:=z07 x.key (by omega)
  have c3:=z07 x.val (by omega)
  have z1:∀ a:UInt8,(#[a]:Array UInt8).size = 1:=fun _=>rfl
  have hn:=y96 hx
  unfold Par.w at hn
  (repeat (first | simp (maxSteps:=9^7) only [go_sem,↓reduceIte,reduceCtorEq,Nat.reduceEqDiff,Nat.reduceBEq,Nat.reduceAdd,Nat.reduceSub,Nat.reduceMul,Nat.reduceLT,Nat.reduceLeDiff,Nat.reduceBNe,Int.reduceBEq,Int.reduceBNe,Int.reduceLT,Int.reduceLE,Msg.a,Par.a,Nd.a,t10,t11,t12,t3,o9,hlt',hgj,List.length_map,Int.toNat_natCast,z1,ByteArray.size_append] | refine z01 (c2) ?_ | refine z00 (c2) ?_ | refine z01 (c3) ?_ | refine z00 (c3) ?_ | refine And.intro (by omega) ?_ | refine And.intro (fun d hd=>by (repeat (rcases hd with rfl | hd; · exact ⟨rfl,rfl⟩)); cases hd) ?_))
  refine ⟨⟨⟨by omega,by omega⟩,fun d hd=>by rcases hd with rfl | hd; exact ⟨rfl,rfl⟩; cases hd⟩,l.length - (j + 1),by omega,j + 1,by omega,rfl,?_,?_,?_,?_,?_⟩ <;>
   (simp (maxSteps:=9^7) only [go_sem,↓reduceIte,reduceCtorEq,Nat.reduceEqDiff,Nat.reduceBEq,Nat.reduceAdd,Nat.reduceSub,Nat.reduceMul,Nat.reduceLT,Nat.reduceLeDiff,Nat.reduceBNe,Int.reduceBEq,Int.reduceBNe,Int.reduceLT,Int.reduceLE,Msg.a,Par.a,Nd.a,t10,t11,t12,t3,o9,hw,htk,hn])
 ·have hlt':¬ (j:Int) < (l.length:Int):=by omega
  obtain rfl:j = l.length:=by omega
  have hpw:z63 l l.length = decS l.length :: l.map Par.w:=by unfold z63; rw [List.take_length]
  have c2:=z1d (z63 l l.length) 20000 (by rw [List.length_map] at hpl; omega) (by omega) (fun x hx=>by
   rw [hpw] at hx
   rcases List.mem_cons.1 hx with rfl | hx
   ·omega
   ·obtain ⟨p,hp,rfl⟩:=List.mem_map.1 hx
    have:=zng (hs p hp).1 (hs p hp).2
    omega)
  rw [← pairs_join,← hpw]
  (repeat (first | simp (maxSteps:=9^7) only [go_sem,↓reduceIte,reduceCtorEq,Nat.reduceEqDiff,Nat.reduceBEq,Nat.reduceAdd,Nat.reduceSub,Nat.reduceMul,Nat.reduceLT,Nat.reduceLeDiff,Nat.reduceBNe,Int.reduceBEq,Int.reduceBNe,Int.reduceLT,Int.reduceLE,Msg.a,Par.a,Nd.a,t10,t11,t12,t3,o9,hlt',htk,List.length_map] | refine z01 (c2) ?_ | refine z00 (c2) ?_ | refine And.intro (by omega) ?_ | refine And.intro (fun d hd=>by (repeat (rcases hd with rfl | hd; · exact ⟨rfl,rfl⟩)); cases hd) ?_))
/-- what a node has below it -/
def z0w (n:Nd) (j:Nat):List ByteArray:=(⟨#[107,105,100,115]⟩:ByteArray) :: z41 n.pivots 0 (n.kids.take j)
def tbInv (n:Nd) (k:Nat) (σ:St):Prop :=
 ∃ j:Nat,j≤n.kids.length∧k = n.kids.length - j∧σ.T 1 = .ptr 1 0 0∧σ.H 1 = some ⟨10,32,[n.a],0⟩∧σ.T 16 = .sl (n.kids.map (AV.int .i64))∧σ.T 17 = .int .i64 n.kids.length∧σ.T 18 = .int .i64 j∧σ.T 3 = .rs 14 0 (z0w n j).length∧σ.H 14 = some ⟨1,9,(z0w n j).map .str,0⟩
theorem za2 (ps:List ByteArray):∀ (l:List Int) (i:Nat),(z41 ps i l).length≤2 * l.length
 | [],i=>Nat.le_refl _
 | k :: l,i=>by
  have:=za2 ps l (i + 1)
  rw [z41,List.length_append,List.length_append,List.length_cons]
  split <;> simp <;> omega
theorem z6u (ps:List ByteArray) (hp:∀ x,x ∈ ps->x.size≤2000):∀ (l:List Int) (i:Nat),(∀ x,x ∈ l->-9223372036854775808≤x∧x≤9223372036854775807)->∀ y,y ∈ z41 ps i l->y.size≤6001
 | [],i,_,y,h=>by cases h
 | k :: l,i,hk,y,h=>by
  rw [z41] at h
  rcases List.mem_append.1 h with h | h
  ·rcases List.mem_append.1 h with h | h
   ·split at h
    ·rename_i hi
     rw [List.mem_singleton.1 h]
     have q:=z0f (ps.getD (i - 1) ⟨#[]⟩)
     have:ps.getD (i - 1) ⟨#[]⟩ ∈ ps:=by
      rw [List.getD_eq_getElem?_getD,List.getElem?_eq_getElem (by omega)]; exact List.getElem_mem _
     have:=hp _ this
     omega
    ·cases h
   ·rw [List.mem_singleton.1 h]
    have:=z0g k (hk k (List.mem_cons_self ..)).1 (hk k (List.mem_cons_self ..)).2
    omega
  ·exact z6u ps hp l (i + 1) (fun x hx=>hk x (List.mem_cons_of_mem _ hx)) y h
theorem yca {n:Nd} {j:Nat} {k:Int} (h:n.kids[j]? = some k):(z0w n (j + 1)).map AV.str = (z0w n j).map AV.str ++ ((if 0 < j∧j≤n.pivots.length then [AV.str (z04 (n.pivots.getD (j - 1) ⟨#[]⟩))] else []) ++ [AV.str (decS k)]):=by
 have hl:(n.kids.take j).length = j:=by
  have:=(List.getElem?_eq_some_iff.1 h).1
  rw [List.length_take]; omega
 unfold z0w
 rw [z7d h,znt,hl,Nat.zero_add]
 simp only [z41,List.append_nil,List.map_cons,List.map_append,List.cons_append,List.map_nil]
 split <;> simp
theorem belowW_len {n:Nd} (j:Nat):(z0w n j).length≤2 * n.kids.length + 1:=by
 have:=za2 n.pivots (n.kids.take j) 0
 have h2:(n.kids.take j).length≤n.kids.length:=by rw [List.length_take]; omega
 unfold z0w
 rw [List.length_cons]; omega
structure Nd.Fit (n:Nd):Prop where
 ok:n.ok
 pivs:∀ x,x ∈ n.pivots->x.size≤2000
 npiv:n.pivots.length≤2000
 nkid:n.kids.length≤2000
 hi:n.high.size≤2000
 nrow:n.rows.length≤2000
 rws:∀ p,p ∈ n.rows->p.key.size≤2000∧p.val.size≤2000
 nmsg:n.msgs.length≤2000
 ms:∀ m,m ∈ n.msgs->m.key.size≤2000∧m.hi.size≤2000∧m.val.size≤2000
theorem zoa {l:List Par} (hl:l.length≤2000) (hs:∀ p,p ∈ l->p.key.size≤2000∧p.val.size≤2000):(z64 l).size≤30000000:=by
 have d1:=z0g l.length (by omega) (by omega)
 have h:=z6i (fun p:Par=>((⟨#[32]⟩:ByteArray):ByteArray) ++ p.w) 12011 l (fun p hp=>by
  have:=zng (hs p hp).1 (hs p hp).2
  have e:((⟨#[32]⟩:ByteArray):ByteArray).size = 1:=rfl
  show (_ ++ _:ByteArray).size≤_
  rw [ByteArray.size_append,e]; omega)
 have h2:l.length * 12011≤2000 * 12011:=Nat.mul_le_mul_right _ hl
 unfold z64
 rw [ByteArray.size_append]; omega
theorem tBelow_ok (n:Nd) (h:n.Fit):AFn Tryz.prog 19 [n.a] (.str n.below):=by
 refine fn_tBelow rfl ?_
 unfold Nd.below
 by_cases h0:n.level = 0
 ·have b0:(n.level == 0) = true:=by simp [h0]
  have e:((⟨#[114,111,119,115]⟩:ByteArray):ByteArray).size = 4:=rfl
  have c1:=tPairs_ok n.rows h.nrow h.rws
  have hp:=zoa h.nrow h.rws
  have c2:=z1d [(⟨#[114,111,119,115]⟩:ByteArray),z64 n.rows] 30000001 (by simp) (by omega) (by simp [baz]; omega)
  rw [if_pos h0]
  (repeat (first | simp (maxSteps:=9^7) only [go_sem,↓reduceIte,reduceCtorEq,Nat.reduceEqDiff,Nat.reduceBEq,Nat.reduceAdd,Nat.reduceSub,Nat.reduceMul,Nat.reduceLT,Nat.reduceLeDiff,Nat.reduceBNe,Int.reduceBEq,Int.reduceBNe,Int.reduceLT,Int.reduceLE,Msg.a,Par.a,Nd.a,b0] | refine z01 (c1) ?_ | refine z00 (c1) ?_ | refine z01 (c2) ?_ | refine z00 (c2) ?_ | refine And.intro (by omega) ?_ | refine And.intro (fun d hd=>by (repeat (rcases hd with rfl | hd; · exact ⟨rfl,rfl⟩)); cases hd) ?_))
 have b0:(n.level == 0) = false:=by simp [h0]
 rw [if_neg h0,show (⟨#[107,105,100,115]⟩:ByteArray) ++ catF (fun y=>(⟨#[32]⟩:ByteArray) ++ y) (z41 n.pivots 0 n.kids) = z15 ((⟨#[107,105,100,115]⟩:ByteArray) :: z41 n.pivots 0 n.kids) (⟨#[32]⟩:ByteArray) from (za5 _ _ _).symm]
 simp (maxSteps:=9^7) only [go_sem,↓reduceIte,reduceCtorEq,Nat.reduceEqDiff,Nat.reduceBEq,Nat.reduceAdd,Nat.reduceSub,Nat.reduceMul,Nat.reduceLT,Nat.reduceLeDiff,Nat.reduceBNe,Int.reduceBEq,Int.reduceBNe,Int.reduceLT,Int.reduceLE,Msg.a,Par.a,Nd.a,b0,List.length_map]
 refine z0d (tbInv n) (k:=n.kids.length) ⟨0,by omega,rfl,?_,?_,?_,?_,?_,?_,?_⟩ ?_
 iterate 4 focus ((simp (maxSteps:=9^7) only [go_sem,↓reduceIte,reduceCtorEq,Nat.reduceEqDiff,Nat.reduceBEq,Nat.reduceAdd,Nat.reduceSub,Nat.reduceMul,Nat.reduceLT,Nat.reduceLeDiff,Nat.reduceBNe,Int.reduceBEq,Int.reduceBNe,Int.reduceLT,Int.reduceLE,Msg.a,Par.a,Nd.a,List.length_map]) <;> rfl)
 ·simp (maxSteps:=9^7) only [go_sem,↓reduceIte,reduceCtorEq,Nat.reduceEqDiff,Nat.reduceBEq,Nat.reduceAdd,Nat.reduceSub,Nat.reduceMul,Nat.reduceLT,Nat.reduceLeDiff,Nat.reduceBNe,Int.reduceBEq,Int.reduceBNe,Int.reduceLT,Int.reduceLE,Msg.a,Par.a,Nd.a]
  rfl
 ·simp (maxSteps:=9^7) only [go_sem,↓reduceIte,reduceCtorEq,Nat.reduceEqDiff,Nat.reduceBEq,Nat.reduceAdd,Nat.reduceSub,Nat.reduceMul,Nat.reduceLT,Nat.reduceLeDiff,Nat.reduceBNe,Int.reduceBEq,Int.reduceBNe,Int.reduceLT,Int.reduceLE,Msg.a,Par.a,Nd.a]
  rfl
 ·simp (maxSteps:=9^7) only [go_sem,↓reduceIte,reduceCtorEq,Nat.reduceEqDiff,Nat.reduceBEq,Nat.reduceAdd,Nat.reduceSub,Nat.reduceMul,Nat.reduceLT,Nat.reduceLeDiff,Nat.reduceBNe,Int.reduceBEq,Int.reduceBNe,Int.reduceLT,Int.reduceLE,Msg.a,Par.a,Nd.a]
  rfl
 rintro k σ ⟨j,hj,rfl,t1,o1,t16,t17,t18,t3,o14⟩
 simp only [zfc]
 have hbl:=belowW_len (n:=n) j
 have hnk:=h.nkid
 have hnp:=h.npiv
 have hmap:((z0w n j).map AV.str).length = (z0w n j).length:=List.length_map ..
 have htk:((z0w n j).map AV.str).take (z0w n j).length = (z0w n j).map AV.str:=List.take_of_length_le (by omega)
 by_cases hlt:j < n.kids.length
 ·have hlt':(j:Int) < (n.kids.length:Int):=by omega
  obtain ⟨x,hx⟩:=z0i hlt
  have hgj:=z0o (f:=AV.int .i64) hx
  have hw:=z1j (j:=j) (by omega)
  have ki:=h.ok.kids.2 x (List.mem_of_getElem? hx)
  have c1:=z3h x ki
  have hn:=yca hx
  have hnl:(z0w n (j + 1)).length = ((z0w n (j + 1)).map AV.str).length:=(List.length_map ..).symm
  rw [hn] at hnl
  by_cases g0:0 < j
  ·by_cases g1:j≤n.pivots.length
   ·have g0':(0:Int) < (j:Int):=by omega
    have g1':(j:Int)≤(n.pivots.length:Int):=by omega
    have tw:IntKind.i64.wrap ((j:Int) - 1) = ((j - 1:Nat):Int):=by rw [IntWalk.i64_in _ (by omega)]; omega
    obtain ⟨y,hy⟩:∃ y,n.pivots[j - 1]? = some y:=z0i (by omega)
    have hgy:=z0o (f:=AV.str) hy
    have hyd:n.pivots.getD (j - 1) ⟨#[]⟩ = y:=by rw [List.getD_eq_getElem?_getD,hy]; rfl
    have ys:=h.pivs y (List.mem_of_getElem? hy)
    have q1:=z0f y
    have c2:=z07 y (by omega)
    have g2:((j - 1:Nat):Int) < (n.pivots.length:Int):=by omega
    have g3:(j - 1) < n.pivots.length:=by omega
    rw [if_pos ⟨g0,g1⟩,hyd] at hn hnl
    have hn':(z0w n j).map AV.str ++ [AV.str (z04 y)] ++ [AV.str (decS x)] = (z0w n (j + 1)).map AV.str:=by rw [hn,List.append_assoc]
    have hl':(z0w n j).length + 1 + 1 = (z0w n (j + 1)).length:=by rw [hnl,List.length_append,hmap]; rfl
    have htk2:((z0w n j).map AV.str ++ [AV.str (z04 y)]).take ((z0w n j).length + 1) = (z0w n j).map AV.str ++ [AV.str (z04 y)]:=List.take_of_length_le (by rw [List.length_append,hmap]; exact Nat.le_refl _)
    (repeat (first | simp (maxSteps:=9^7) only [go_sem,↓reduceIte,reduceCtorEq,Nat.reduceEqDiff,Nat.reduceBEq,Nat.reduceAdd,Nat.reduceSub,Nat.reduceMul,Nat.reduceLT,Nat.reduceLeDiff,Nat.reduceBNe,Int.reduceBEq,Int.reduceBNe,Int.reduceLT,Int.reduceLE,Msg.a,Par.a,Nd.a,t1,o1,t16,t17,t18,t3,o14,hlt',hgj,g0',g1',tw,hgy,g2,g3,htk,List.length_map,Int.toNat_natCast] | refine z01 (c2) ?_ | refine z00 (c2) ?_ | refine And.intro (by omega) ?_ | refine And.intro (fun d hd=>by (repeat (rcases hd with rfl | hd; · exact ⟨rfl,rfl⟩)); cases hd) ?_))
    refine ⟨⟨⟨by omega,by omega⟩,fun d hd=>by rcases hd with rfl | hd; exact ⟨rfl,rfl⟩; cases hd⟩,?_⟩
    (first | refine z01 c1 ?_ | refine z00 c1 ?_)
    simp (maxSteps:=9^7) only [go_sem,↓reduceIte,reduceCtorEq,Nat.reduceEqDiff,Nat.reduceBEq,Nat.reduceAdd,Nat.reduceSub,Nat.reduceMul,Nat.reduceLT,Nat.reduceLeDiff,Nat.reduceBNe,Int.reduceBEq,Int.reduceBNe,Int.reduceLT,Int.reduceLE,Msg.a,Par.a,Nd.a,t1,o1,t16,t17,t18,t3,o14,hlt',hgj,htk,htk2]
    refine ⟨⟨⟨by omega,by omega⟩,fun d hd=>by rcases hd with rfl | hd; exact ⟨rfl,rfl⟩; cases hd⟩,n.kids.length - (j + 1),by omega,j + 1,by omega,rfl,?_,?_,?_,?_,?_,?_,?_⟩ <;>
     (simp (maxSteps:=9^7) only [go_sem,↓reduceIte,reduceCtorEq,Nat.reduceEqDiff,Nat.reduceBEq,Nat.reduceAdd,Nat.reduceSub,Nat.reduceMul,Nat.reduceLT,Nat.reduceLeDiff,Nat.reduceBNe,Int.reduceBEq,Int.reduceBNe,Int.reduceLT,Int.reduceLE,Msg.a,Par.a,Nd.a,t1,o1,t16,t17,t18,t3,o14,hlt',hgj,hw,htk,htk2,hn',hl'])
   ·have g0':(0:Int) < (j:Int):=by omega
    have g1':¬ (j:Int)≤(n.pivots.length:Int):=by omega
    rw [if_neg (fun e=>g1 e.2)] at hn hnl
    have hn':(z0w n j).map AV.str ++ [AV.str (decS x)] = (z0w n (j + 1)).map AV.str:=by rw [hn,List.nil_append]
    have hl':(z0w n j).length + 1 = (z0w n (j + 1)).length:=by rw [hnl,List.length_append,hmap]; rfl
    (repeat (first | simp (maxSteps:=9^7) only [go_sem,↓reduceIte,reduceCtorEq,Nat.reduceEqDiff,Nat.reduceBEq,Nat.reduceAdd,Nat.reduceSub,Nat.reduceMul,Nat.reduceLT,Nat.reduceLeDiff,Nat.reduceBNe,Int.reduceBEq,Int.reduceBNe,Int.reduceLT,Int.reduceLE,Msg.a,Par.a,Nd.a,t1,o1,t16,t17,t18,t3,o14,hlt',hgj,g0',g1',htk,List.length_map,Int.toNat_natCast] | refine z01 (c1) ?_ | refine z00 (c1) ?_ | refine And.intro (by omega) ?_ | refine And.intro (fun d hd=>by (repeat (rcases hd with rfl | hd; · exact ⟨rfl,rfl⟩)); cases hd) ?_))
    refine ⟨⟨⟨by omega,by omega⟩,fun d hd=>by rcases hd with rfl | hd; exact ⟨rfl,rfl⟩; cases hd⟩,n.kids.length - (j + 1),by omega,j + 1,by omega,rfl,?_,?_,?_,?_,?_,?_,?_⟩ <;>
     (simp (maxSteps:=9^7) only [go_sem,↓reduceIte,reduceCtorEq,Nat.reduceEqDiff,Nat.reduceBEq,Nat.reduceAdd,Nat.reduceSub,Nat.reduceMul,Nat.reduceLT,Nat.reduceLeDiff,Nat.reduceBNe,Int.reduceBEq,Int.reduceBNe,Int.reduceLT,Int.reduceLE,Msg.a,Par.a,Nd.a,t1,o1,t16,t17,t18,t3,o14,hlt',hgj,hw,htk,hn',hl'])
  ·have g0':¬ (0:Int) < (j:Int):=by omega
   rw [if_neg (fun e=>g0 e.1)] at hn hnl
   have hn':(z0w n j).map AV.str ++ [AV.str (decS x)] = (z0w n (j + 1)).map AV.str:=by rw [hn,List.nil_append]
   have hl':(z0w n j).length + 1 = (z0w n (j + 1)).length:=by rw [hnl,List.length_append,hmap]; rfl
   (repeat (first | simp (maxSteps:=9^7) only [go_sem,↓reduceIte,reduceCtorEq,Nat.reduceEqDiff,Nat.reduceBEq,Nat.reduceAdd,Nat.reduceSub,Nat.reduceMul,Nat.reduceLT,Nat.reduceLeDiff,Nat.reduceBNe,Int.reduceBEq,Int.reduceBNe,Int.reduceLT,Int.reduceLE,Msg.a,Par.a,Nd.a,t1,o1,t16,t17,t18,t3,o14,hlt',hgj,g0',htk,List.length_map,Int.toNat_natCast] | refine z01 (c1) ?_ | refine z00 (c1) ?_ | refine And.intro (by omega) ?_ | refine And.intro (fun d hd=>by (repeat (rcases hd with rfl | hd; · exact ⟨rfl,rfl⟩)); cases hd) ?_))
   refine ⟨⟨⟨by omega,by omega⟩,fun d hd=>by rcases hd with rfl | hd; exact ⟨rfl,rfl⟩; cases hd⟩,n.kids.length - (j + 1),by omega,j + 1,by omega,rfl,?_,?_,?_,?_,?_,?_,?_⟩ <;>
    (simp (maxSteps:=9^7) only [go_sem,↓reduceIte,reduceCtorEq,Nat.reduceEqDiff,Nat.reduceBEq,Nat.reduceAdd,Nat.reduceSub,Nat.reduceMul,Nat.reduceLT,Nat.reduceLeDiff,Nat.reduceBNe,Int.reduceBEq,Int.reduceBNe,Int.reduceLT,Int.reduceLE,Msg.a,Par.a,Nd.a,t1,o1,t16,t17,t18,t3,o14,hlt',hgj,hw,htk,hn',hl'])
 ·have hlt':¬ (j:Int) < (n.kids.length:Int):=by omega
  obtain rfl:j = n.kids.length:=by omega
  have hbw:z0w n n.kids.length = (⟨#[107,105,100,115]⟩:ByteArray) :: z41 n.pivots 0 n.kids:=by unfold z0w; rw [List.take_length]
  have c2:=z1d (z0w n n.kids.length) 20000 (by omega) (by omega) (fun x hx=>by
   rw [hbw] at hx
   rcases List.mem_cons.1 hx with rfl | hx
   ·decide
   ·have:=z6u n.pivots h.pivs n.kids 0 h.ok.kids.2 x hx
    omega)
  rw [← hbw]
  (repeat (first | simp (maxSteps:=9^7) only [go_sem,↓reduceIte,reduceCtorEq,Nat.reduceEqDiff,Nat.reduceBEq,Nat.reduceAdd,Nat.reduceSub,Nat.reduceMul,Nat.reduceLT,Nat.reduceLeDiff,Nat.reduceBNe,Int.reduceBEq,Int.reduceBNe,Int.reduceLT,Int.reduceLE,Msg.a,Par.a,Nd.a,t1,o1,t16,t17,t18,t3,o14,hlt',htk,List.length_map] | refine z01 (c2) ?_ | refine z00 (c2) ?_ | refine And.intro (by omega) ?_ | refine And.intro (fun d hd=>by (repeat (rcases hd with rfl | hd; · exact ⟨rfl,rfl⟩)); cases hd) ?_))
end
section
/-
 Traces: nodes as lines: the code,walked.
-/
open Go.RowKit
set_option linter.unusedVariables false
set_option linter.unusedSimpArgs false
set_option maxRecDepth 100000
attribute [local go_sem ↓] z11 z0l
attribute [local go_sem ↓] zzj
attribute [local go_sem] zk3 y7n y7m z9q y7l y7k y7j z9p y7i z9o y7h y7g z9n y7f z9m y7e zxe z6n z6v
theorem z2y (m:Msg) (hs:-9223372036854775808≤m.stamp∧m.stamp≤9223372036854775807) (h1:m.key.size≤2000) (h2:m.hi.size≤2000) (h3:m.val.size≤2000):m.line.size≤24100:=by
 have d1:=z0g m.stamp hs.1 hs.2
 have q1:=z0f m.key
 have q2:=z0f m.hi
 have q3:=z0f m.val
 have e:(⟨#[32]⟩:ByteArray).size = 1:=rfl
 have hl:([decS m.stamp,m.word,z04 m.key] ++ m.rest).length≤4:=by
  unfold Msg.rest
  repeat' split
  all_goals simp
 have h:=zx2 (⟨#[32]⟩:ByteArray) 6002 ([decS m.stamp,m.word,z04 m.key] ++ m.rest) (fun x hx=>by
  rw [e]
  rcases List.mem_append.1 hx with hx | hx
  ·simp only [List.mem_cons,List.not_mem_nil,or_false] at hx
   rcases hx with rfl | rfl | rfl
   ·omega
   ·unfold Msg.word
    repeat' split
    all_goals decide
   ·omega
  ·unfold Msg.rest at hx
   split at hx
   ·rw [List.mem_singleton.1 hx]; omega
   ·split at hx
    ·split at hx
     ·rw [List.mem_singleton.1 hx]; decide
     ·rw [List.mem_singleton.1 hx]; omega
    ·cases hx)
 have h2:=Nat.mul_le_mul_right 6002 hl
 unfold Msg.line
 omega
def z66 (n:Nd) (j:Nat):ByteArray:=(⟨#[109,115,103,115]⟩:ByteArray) ++ (⟨#[32]⟩:ByteArray) ++ decS n.msgs.length ++ catF (fun m=>(⟨#[32,44,32]⟩:ByteArray) ++ m.line) (n.msgs.take j)
theorem ze9 {n:Nd} (h:n.Fit) (j:Nat):(z66 n j).size≤49000000:=by
 have d1:=z0g n.msgs.length (by have:=h.nmsg; omega) (by have:=h.nmsg; omega)
 have hc:=z45 (fun m:Msg=>(⟨#[32,44,32]⟩:ByteArray) ++ m.line) 24103 n.msgs j (fun m hm=>by
  obtain ⟨a,b,c⟩:=h.ms m hm
  have:=z2y m (h.ok.msgs.2 m hm).stamp a b c
  have e:(⟨#[32,44,32]⟩:ByteArray).size = 3:=rfl
  show (_ ++ _:ByteArray).size≤_
  rw [ByteArray.size_append,e]; omega)
 have h2:=Nat.mul_le_mul_right 24103 h.nmsg
 have e1:(⟨#[109,115,103,115]⟩:ByteArray).size = 4:=rfl
 have e2:(⟨#[32]⟩:ByteArray).size = 1:=rfl
 unfold z66
 rw [ByteArray.size_append,ByteArray.size_append,ByteArray.size_append,e1,e2]
 omega
theorem zf7 {n:Nd} (h:n.Fit):n.below.size≤61000000:=by
 have e:(⟨#[32]⟩:ByteArray).size = 1:=rfl
 unfold Nd.below
 split
 ·have hp:=zoa h.nrow h.rws
  have:=zx2 (⟨#[32]⟩:ByteArray) 30000001 [(⟨#[114,111,119,115]⟩:ByteArray),z64 n.rows] (fun x hx=>by
   simp only [List.mem_cons,List.not_mem_nil,or_false] at hx
   rcases hx with rfl | rfl
   ·decide
   ·rw [e]; omega)
  simp only [List.length_cons,List.length_nil] at this
  omega
 ·have hc:=z6i (fun y:ByteArray=>(⟨#[32]⟩:ByteArray) ++ y) 6002 (z41 n.pivots 0 n.kids) (fun x hx=>by
   have:=z6u n.pivots h.pivs n.kids 0 h.ok.kids.2 x hx
   show (_ ++ _:ByteArray).size≤_
   rw [ByteArray.size_append,e]; omega)
  have hl:=za2 n.pivots n.kids 0
  have:=Nat.mul_le_mul_right 6002 hl
  have h3:=Nat.mul_le_mul_right 12004 h.nkid
  have e1:(⟨#[107,105,100,115]⟩:ByteArray).size = 4:=rfl
  rw [ByteArray.size_append,e1]; omega
def tnInv (n:Nd) (e:ByteArray) (k:Nat) (σ:St):Prop :=
 ∃ j:Nat,j≤n.msgs.length∧k = n.msgs.length - j∧σ.T 1 = .ptr 1 0 0∧σ.H 1 = some ⟨10,32,[n.a],0⟩∧σ.T 3 = .str e∧σ.T 4 = .str (z66 n j)∧σ.T 19 = .sl (n.msgs.map Msg.a)∧σ.T 20 = .int .i64 n.msgs.length∧σ.T 21 = .int .i64 j
theorem tNode_core (n:Nd) (h:n.Fit) (e:ByteArray) (he:e = if n.top then (⟨#[42]⟩:ByteArray) else z04 n.high):AFn Tryz.prog 6 [n.a] (.str n.line):=by
 refine fn_tNode rfl ?_
 have hnm:=h.nmsg
 have d0:=z0g n.msgs.length (by omega) (by omega)
 have qh:=z0f n.high
 have hh:=h.hi
 have es:e.size≤6001:=by
  rw [he]; split
  ·decide
  ·omega
 have c0:=z07 n.high (by omega)
 have c1:=z3h n.msgs.length ⟨by omega,by omega⟩
 have c2:=z1d [(⟨#[109,115,103,115]⟩:ByteArray),decS n.msgs.length] 100 (by simp) (by omega) (by simp [baz]; omega)
 have e2:z15 [(⟨#[109,115,103,115]⟩:ByteArray),decS n.msgs.length] (⟨#[32]⟩:ByteArray) = z66 n 0:=by
  rw [joinB2]; unfold z66; exact (z4j _).symm
 rw [e2] at c2
 have cb:=tBelow_ok n h
 have bs:=zf7 h
 have ms:=ze9 h n.msgs.length
 have em:z66 n n.msgs.length = msgsF n.msgs:=by unfold z66 msgsF; rw [List.take_length]
 have k1:=z3h n.slot h.ok.slot
 have k2:=z3h n.level h.ok.level
 have k3:=z3h n.seen h.ok.seen
 have k4:=z3h n.right h.ok.right
 have z1:=z0g n.slot h.ok.slot.1 h.ok.slot.2
 have z2:=z0g n.level h.ok.level.1 h.ok.level.2
 have z3:=z0g n.seen h.ok.seen.1 h.ok.seen.2
 have z4:=z0g n.right h.ok.right.1 h.ok.right.2
 have cl:=z1d [(⟨#[110,111,100,101]⟩:ByteArray),decS n.slot,decS n.level,decS n.seen,decS n.right,e,(⟨#[58]⟩:ByteArray),n.below,(⟨#[58]⟩:ByteArray),z66 n n.msgs.length] 100000000 (by simp) (by omega) (by simp [baz]; omega)
 have el:n.line = z15 [(⟨#[110,111,100,101]⟩:ByteArray),decS n.slot,decS n.level,decS n.seen,decS n.right,e,(⟨#[58]⟩:ByteArray),n.below,(⟨#[58]⟩:ByteArray),z66 n n.msgs.length] (⟨#[32]⟩:ByteArray):=by
  unfold Nd.line; rw [em,he]
 rw [el]
 cases ht:n.top with
 | true =>
  rw [ht] at he
  simp only [if_true] at he
  (repeat (first | simp (maxSteps:=9^7) only [go_sem,↓reduceIte,reduceCtorEq,Nat.reduceEqDiff,Nat.reduceBEq,Nat.reduceAdd,Nat.reduceSub,Nat.reduceMul,Nat.reduceLT,Nat.reduceLeDiff,Nat.reduceBNe,Int.reduceBEq,Int.reduceBNe,Int.reduceLT,Int.reduceLE,Msg.a,Par.a,Nd.a,ht,List.length_map] | refine z01 (c0) ?_ | refine z00 (c0) ?_ | refine z01 (c1) ?_ | refine z00 (c1) ?_ | refine z01 (c2) ?_ | refine z00 (c2) ?_ | refine And.intro (by omega) ?_ | refine And.intro (fun d hd=>by (repeat (rcases hd with rfl | hd; · exact ⟨rfl,rfl⟩)); cases hd) ?_))
  refine z0d (tnInv n e) (k:=n.msgs.length) ⟨0,by omega,rfl,?_,?_,?_,?_,?_,?_,?_⟩ ?_
  iterate 6 focus ((simp (maxSteps:=9^7) only [go_sem,↓reduceIte,reduceCtorEq,Nat.reduceEqDiff,Nat.reduceBEq,Nat.reduceAdd,Nat.reduceSub,Nat.reduceMul,Nat.reduceLT,Nat.reduceLeDiff,Nat.reduceBNe,Int.reduceBEq,Int.reduceBNe,Int.reduceLT,Int.reduceLE,Msg.a,Par.a,Nd.a,ht,he,List.length_map]) <;> rfl)
  ·simp (maxSteps:=9^7) only [go_sem,↓reduceIte,reduceCtorEq,Nat.reduceEqDiff,Nat.reduceBEq,Nat.reduceAdd,Nat.reduceSub,Nat.reduceMul,Nat.reduceLT,Nat.reduceLeDiff,Nat.reduceBNe,Int.reduceBEq,Int.reduceBNe,Int.reduceLT,Int.reduceLE,Msg.a,Par.a,Nd.a]
   rfl
  rintro k σ ⟨j,hj,rfl,t1,o1,t3,t4,t19,t20,t21⟩
  simp only [z8t]
  by_cases hlt:j < n.msgs.length
  ·have hlt':(j:Int) < (n.msgs.length:Int):=by omega
   obtain ⟨x,hx⟩:=z0i hlt
   have hgj:=z0o (f:=Msg.a) hx
   simp only [Msg.a] at hgj
   have hw:=z1j (j:=j) (by omega)
   obtain ⟨s1,s2,s3⟩:=h.ms x (List.mem_of_getElem? hx)
   have st:=(h.ok.msgs.2 x (List.mem_of_getElem? hx)).stamp
   have c4:=tMsg_ok x st s1 s2 s3
   have ls:=z2y x st s1 s2 s3
   have ts:=ze9 h j
   have c5:=z1d [z66 n j,(⟨#[44]⟩:ByteArray),x.line] 50000000 (by simp) (by omega) (by simp [baz]; omega)
   have e5:z15 [z66 n j,(⟨#[44]⟩:ByteArray),x.line] (⟨#[32]⟩:ByteArray) = z66 n (j + 1):=by
    rw [yfh]
    unfold z66
    rw [z7d hx,zad]
    have e6:(⟨#[32]⟩:ByteArray) ++ (⟨#[44]⟩:ByteArray) ++ (⟨#[32]⟩:ByteArray) = (⟨#[32,44,32]⟩:ByteArray):=by decide +kernel
    rw [← e6]
    simp only [z14]
   rw [e5] at c5
   (repeat (first | simp (maxSteps:=9^7) only [go_sem,↓reduceIte,reduceCtorEq,Nat.reduceEqDiff,Nat.reduceBEq,Nat.reduceAdd,Nat.reduceSub,Nat.reduceMul,Nat.reduceLT,Nat.reduceLeDiff,Nat.reduceBNe,Int.reduceBEq,Int.reduceBNe,Int.reduceLT,Int.reduceLE,Msg.a,Par.a,Nd.a,t1,o1,t3,t4,t19,t20,t21,hlt',hgj,List.length_map,Int.toNat_natCast] | refine z01 (c4) ?_ | refine z00 (c4) ?_ | refine z01 (c5) ?_ | refine z00 (c5) ?_ | refine And.intro (by omega) ?_ | refine And.intro (fun d hd=>by (repeat (rcases hd with rfl | hd; · exact ⟨rfl,rfl⟩)); cases hd) ?_))
   refine ⟨n.msgs.length - (j + 1),by omega,j + 1,by omega,rfl,?_,?_,?_,?_,?_,?_,?_⟩ <;>
    (simp (maxSteps:=9^7) only [go_sem,↓reduceIte,reduceCtorEq,Nat.reduceEqDiff,Nat.reduceBEq,Nat.reduceAdd,Nat.reduceSub,Nat.reduceMul,Nat.reduceLT,Nat.reduceLeDiff,Nat.reduceBNe,Int.reduceBEq,Int.reduceBNe,Int.reduceLT,Int.reduceLE,Msg.a,Par.a,Nd.a,t1,o1,t3,t4,t19,t20,t21,hw])
  ·have hlt':¬ (j:Int) < (n.msgs.length:Int):=by omega
   obtain rfl:j = n.msgs.length:=by omega
   (repeat (first | simp (maxSteps:=9^7) only [go_sem,↓reduceIte,reduceCtorEq,Nat.reduceEqDiff,Nat.reduceBEq,Nat.reduceAdd,Nat.reduceSub,Nat.reduceMul,Nat.reduceLT,Nat.reduceLeDiff,Nat.reduceBNe,Int.reduceBEq,Int.reduceBNe,Int.reduceLT,Int.reduceLE,Msg.a,Par.a,Nd.a,t1,o1,t3,t4,t19,t20,t21,hlt',List.length_map,Int.toNat_natCast] | refine z01 (k1) ?_ | refine z00 (k1) ?_ | refine z01 (k2) ?_ | refine z00 (k2) ?_ | refine z01 (k3) ?_ | refine z00 (k3) ?_ | refine z01 (k4) ?_ | refine z00 (k4) ?_ | refine z01 (cb) ?_ | refine z00 (cb) ?_ | refine z01 (cl) ?_ | refine z00 (cl) ?_ | refine And.intro (by omega) ?_ | refine And.intro (fun d hd=>by (repeat (rcases hd with rfl | hd; · exact ⟨rfl,rfl⟩)); cases hd) ?_))
 | false =>
  rw [ht] at he
  simp only [Bool.false_eq_true,if_false] at he
  (repeat (first | simp (maxSteps:=9^7) only [go_sem,↓reduceIte,reduceCtorEq,Nat.reduceEqDiff,Nat.reduceBEq,Nat.reduceAdd,Nat.reduceSub,Nat.reduceMul,Nat.reduceLT,Nat.reduceLeDiff,Nat.reduceBNe,Int.reduceBEq,Int.reduceBNe,Int.reduceLT,Int.reduceLE,Msg.a,Par.a,Nd.a,ht,List.length_map] | refine z01 (c0) ?_ | refine z00 (c0) ?_ | refine z01 (c1) ?_ | refine z00 (c1) ?_ | refine z01 (c2) ?_ | refine z00 (c2) ?_ | refine And.intro (by omega) ?_ | refine And.intro (fun d hd=>by (repeat (rcases hd with rfl | hd; · exact ⟨rfl,rfl⟩)); cases hd) ?_))
  refine z0d (tnInv n e) (k:=n.msgs.length) ⟨0,by omega,rfl,?_,?_,?_,?_,?_,?_,?_⟩ ?_
  iterate 6 focus ((simp (maxSteps:=9^7) only [go_sem,↓reduceIte,reduceCtorEq,Nat.reduceEqDiff,Nat.reduceBEq,Nat.reduceAdd,Nat.reduceSub,Nat.reduceMul,Nat.reduceLT,Nat.reduceLeDiff,Nat.reduceBNe,Int.reduceBEq,Int.reduceBNe,Int.reduceLT,Int.reduceLE,Msg.a,Par.a,Nd.a,ht,he,List.length_map]) <;> rfl)
  ·simp (maxSteps:=9^7) only [go_sem,↓reduceIte,reduceCtorEq,Nat.reduceEqDiff,Nat.reduceBEq,Nat.reduceAdd,Nat.reduceSub,Nat.reduceMul,Nat.reduceLT,Nat.reduceLeDiff,Nat.reduceBNe,Int.reduceBEq,Int.reduceBNe,Int.reduceLT,Int.reduceLE,Msg.a,Par.a,Nd.a]
   rfl
  rintro k σ ⟨j,hj,rfl,t1,o1,t3,t4,t19,t20,t21⟩
  simp only [z8t]
  by_cases hlt:j < n.msgs.length
  ·have hlt':(j:Int) < (n.msgs.length:Int):=by omega
   obtain ⟨x,hx⟩:=z0i hlt
   have hgj:=z0o (f:=Msg.a) hx
   simp only [Msg.a] at hgj
   have hw:=z1j (j:=j) (by omega)
   obtain ⟨s1,s2,s3⟩:=h.ms x (List.mem_of_getElem? hx)
   have st:=(h.ok.msgs.2 x (List.mem_of_getElem? hx)).stamp
   have c4:=tMsg_ok x st s1 s2 s3
   have ls:=z2y x st s1 s2 s3
   have ts:=ze9 h j
   have c5:=z1d [z66 n j,(⟨#[44]⟩:ByteArray),x.line] 50000000 (by simp) (by omega) (by simp [baz]; omega)
   have e5:z15 [z66 n j,(⟨#[44]⟩:ByteArray),x.line] (⟨#[32]⟩:ByteArray) = z66 n (j + 1):=by
    rw [yfh]
    unfold z66
    rw [z7d hx,zad]
    have e6:(⟨#[32]⟩:ByteArray) ++ (⟨#[44]⟩:ByteArray) ++ (⟨#[32]⟩:ByteArray) = (⟨#[32,44,32]⟩:ByteArray):=by decide +kernel
    rw [← e6]
    simp only [z14]
   rw [e5] at c5
   (repeat (first | simp (maxSteps:=9^7) only [go_sem,↓reduceIte,reduceCtorEq,Nat.reduceEqDiff,Nat.reduceBEq,Nat.reduceAdd,Nat.reduceSub,Nat.reduceMul,Nat.reduceLT,Nat.reduceLeDiff,Nat.reduceBNe,Int.reduceBEq,Int.reduceBNe,Int.reduceLT,Int.reduceLE,Msg.a,Par.a,Nd.a,t1,o1,t3,t4,t19,t20,t21,hlt',hgj,List.length_map,Int.toNat_natCast] | refine z01 (c4) ?_ | refine z00 (c4) ?_ | refine z01 (c5) ?_ | refine z00 (c5) ?_ | refine And.intro (by omega) ?_ | refine And.intro (fun d hd=>by (repeat (rcases hd with rfl | hd; · exact ⟨rfl,rfl⟩)); cases hd) ?_))
   refine ⟨n.msgs.length - (j + 1),by omega,j + 1,by omega,rfl,?_,?_,?_,?_,?_,?_,?_⟩ <;>
    (simp (maxSteps:=9^7) only [go_sem,↓reduceIte,reduceCtorEq,Nat.reduceEqDiff,Nat.reduceBEq,Nat.reduceAdd,Nat.reduceSub,Nat.reduceMul,Nat.reduceLT,Nat.reduceLeDiff,Nat.reduceBNe,Int.reduceBEq,Int.reduceBNe,Int.reduceLT,Int.reduceLE,Msg.a,Par.a,Nd.a,t1,o1,t3,t4,t19,t20,t21,hw])
  ·have hlt':¬ (j:Int) < (n.msgs.length:Int):=by omega
   obtain rfl:j = n.msgs.length:=by omega
   (repeat (first | simp (maxSteps:=9^7) only [go_sem,↓reduceIte,reduceCtorEq,Nat.reduceEqDiff,Nat.reduceBEq,Nat.reduceAdd,Nat.reduceSub,Nat.reduceMul,Nat.reduceLT,Nat.reduceLeDiff,Nat.reduceBNe,Int.reduceBEq,Int.reduceBNe,Int.reduceLT,Int.reduceLE,Msg.a,Par.a,Nd.a,t1,o1,t3,t4,t19,t20,t21,hlt',List.length_map,Int.toNat_natCast] | refine z01 (k1) ?_ | refine z00 (k1) ?_ | refine z01 (k2) ?_ | refine z00 (k2) ?_ | refine z01 (k3) ?_ | refine z00 (k3) ?_ | refine z01 (k4) ?_ | refine z00 (k4) ?_ | refine z01 (cb) ?_ | refine z00 (cb) ?_ | refine z01 (cl) ?_ | refine z00 (cl) ?_ | refine And.intro (by omega) ?_ | refine And.intro (fun d hd=>by (repeat (rcases hd with rfl | hd; · exact ⟨rfl,rfl⟩)); cases hd) ?_))
theorem yci (n:Nd) (h:n.Fit):AFn Tryz.prog 6 [n.a] (.str n.line):=tNode_core n h _ rfl
end
end Go.Proofs.YthpbokjnfloeoaaGreatDoor
