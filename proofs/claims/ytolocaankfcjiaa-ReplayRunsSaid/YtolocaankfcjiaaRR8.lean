/-
  Part 8 of a proof: SqA, SqB, SqC, SqD, SqE, SqF, NdA, EvB, RyA.
-/
import Derived.IntWalk
import Derived.Test.YtolocaankfcjiaaRR7
set_option linter.unusedVariables false
set_option linter.unusedSimpArgs false
set_option maxRecDepth 100000
namespace Go.Proofs.Ytolocaankfcjiaa
attribute [go_sem] ev0 ev1 ev2 ev3 ev4 evA zpd.eq_1 zpd.eq_2 zpc.eq_1 zpc.eq_2 okV valV fzV okF valF okBld zi8 mxOk.eq_1 mxOk.eq_2 mxVal.eq_1 mxVal.eq_2 z4d.eq_1 z4d.eq_2 z4d.eq_3 zmd.eq_1 zmd.eq_2 zmd.eq_3 upd_at AV.flatB AV.flatBs zy6 binIV zy5 binSV z4c.eq_1 z4c.eq_2 z37.eq_1 z37.eq_2 z0e.eq_1 z0e.eq_2 objZ.eq_1 objZ.eq_2 z1m.eq_1 z1m.eq_2 zli zps.eq_1 zps.eq_2 zps.eq_3 z1r.eq_1 z1r.eq_2 z1r.eq_3 zqa.eq_1 zqa.eq_2 zqa.eq_3 zqa.eq_4 zce.eq_1 zce.eq_2 zce.eq_3 zce.eq_4 faOk.eq_1 faOk.eq_2 faOk.eq_3 faVal.eq_1 faVal.eq_2 faVal.eq_3 iaOk.eq_1 iaOk.eq_2 iaOk.eq_3 iaVal.eq_1 iaVal.eq_2 iaVal.eq_3 z5x.eq_1 z5x.eq_2 z5x.eq_3 z5x.eq_4 bdOk.eq_1 bdOk.eq_2 z9e.eq_1 z9e.eq_2 zie.eq_1 zie.eq_2 zie.eq_3 zie.eq_4 zie.eq_5 slcKV.eq_1 slcKV.eq_2 slcKV.eq_3 zdj.eq_1 zdj.eq_2 zdj.eq_3 zdj.eq_4 slcFz.eq_1 slcFz.eq_2 loK.eq_1 loK.eq_2 loK.eq_3 zpp.eq_1 zpp.eq_2 zpp.eq_3 byOk.eq_1 byOk.eq_2 byOk.eq_3 byOk.eq_4 byOk.eq_5 byOk.eq_6 byOk.eq_7 byOk.eq_8 z1j.eq_1 z1j.eq_2 z1j.eq_3 byFz.eq_1 byFz.eq_2 byFz.eq_3 z69 z19 z7a zmh z9q.eq_1 z9q.eq_2 z1x.eq_1 z1x.eq_2 stOk.eq_1 stOk.eq_2 stArr.eq_1 stArr.eq_2 stSt.eq_1 stSt.eq_2 AV.patch zq0 gB.eq_1 gB.eq_2 gB.eq_3 gIs.eq_1 gIs.eq_2 gIs.eq_3 retV resV resVs z08 z33 St.byval List.getD_cons_zero List.getD_cons_succ List.getD_nil List.map_cons List.map_nil List.length_cons List.length_nil List.take_succ_cons List.take_zero List.drop_succ_cons List.drop_zero List.headD_cons List.set_cons_zero List.append_nil List.nil_append List.cons_append List.contains_cons List.contains_nil List.elem_cons List.elem_nil List.all_cons List.all_nil List.getElem?_cons_zero List.getElem?_cons_succ List.filterMap_cons List.filterMap_nil Option.isSome_some Option.isSome_none Option.map_some Option.map_none Option.some.injEq AV.int.injEq AV.bool.injEq AV.str.injEq AV.tup.injEq AV.agg.injEq AV.sl.injEq List.cons.injEq Bool.false_eq_true Bool.true_eq_false Bool.not_true Bool.not_false Bool.and_true Bool.true_and Bool.or_false Bool.or_true Bool.false_or Bool.true_or Bool.or_self Bool.and_self Bool.not_eq_true' Bool.not_eq_false' Bool.not_not beq_self_eq_true true_and and_true false_and and_false and_self not_true_eq_false not_false_eq_true forall_const true_implies false_implies implies_true imp_self Nat.lt_add_one Nat.le_refl Nat.zero_le Nat.add_zero Nat.zero_add decide_true decide_false decide_eq_true_eq decide_eq_false_iff_not exists_eq_left exists_eq_left' ge_iff_le gt_iff_lt ite_branch zqb nilOk.eq_1 nilOk.eq_2 zll.eq_1 zll.eq_2 AV.isSl.eq_1 zlj.eq_1 zlj.eq_2 apSt.eq_1 apArr.eq_1 apArr.eq_2 apTwo.eq_1 apTwo.eq_2 apSt2.eq_1 zy8.eq_1 zy8.eq_2 slOf.eq_1 fitsV List.mem_cons List.not_mem_nil Bool.false_and Bool.and_false z4x.eq_1 z4x.eq_2 z4x.eq_3 z4x.eq_4 z4x.eq_5 z1l.eq_1 z1l.eq_2 z1l.eq_3 z1l.eq_4 z1l.eq_5 mOk.eq_1 mOk.eq_2 mVal.eq_1 mVal.eq_2 mFz.eq_1 mFz.eq_2 mOks zq8 mFzs zlq.eq_1 zlq.eq_2 mFn.eq_1 mFn.eq_2 mArgs.eq_1 mArgs.eq_2 ckOk.eq_1 ckOk.eq_2 cloOk.eq_1 ptrAt.eq_1 sh.eq_1 sh.eq_2 sh.eq_3 sh.eq_4 sh.eq_5 sh.eq_6 retM shH_small evM z35.eq_1 z35.eq_2 ents.eq_1 ents.eq_2 kI.eq_1 mpOk.eq_1 mpR.eq_1 lkV.eq_1 lkV.eq_2 remp.eq_2 evP pvOk.eq_1 pvOk.eq_2 pvVal.eq_1 pvVal.eq_2 plOk.eq_1 plOk.eq_2 plOk.eq_3 plV.eq_1 plV.eq_2 plF.eq_1 plF.eq_2 plVal.eq_1 plVal.eq_2 plFz.eq_1 plFz.eq_2 lpOk.eq_1 lpOk.eq_2 lpVal.eq_1 lpVal.eq_2 lpFz.eq_1 lpFz.eq_2 stpOk.eq_1 stpOk.eq_2 zia.eq_1 zia.eq_2 zib.eq_1 keepS.eq_1 keepS.eq_2 evCl
section
/-
 Spans on the plain machine: the code's.
-/
open Go.RowKit
attribute [local go_sem ↓] z0s z0g
structure Spn where
 lo:ByteArray
 hi:ByteArray
 op:Bool
deriving DecidableEq
def Spn.a (s:Spn):AV:=.agg [.str s.lo,.str s.hi,.bool s.op]
def lt (a b:ByteArray):Bool:=Op.bytesLess a.toList b.toList
def Spn.has (s:Spn) (k:ByteArray):Bool:=!lt k s.lo && (s.op || lt k s.hi)
def Spn.empty (s:Spn):Bool:=!s.op && !lt s.lo s.hi
def Spn.none:Spn:=⟨⟨#[]⟩,⟨#[]⟩,false⟩
def Spn.norm (s:Spn):Spn:=if s.empty then Spn.none else if s.op then ⟨s.lo,⟨#[]⟩,true⟩ else s
def maxS (a b:ByteArray):ByteArray:=if lt a b then b else a
def minS (a b:ByteArray):ByteArray:=if lt b a then b else a
def Spn.cut (a b:Spn):Spn:=⟨maxS a.lo b.lo,if a.op then b.hi else if b.op then a.hi else minS a.hi b.hi,a.op && b.op⟩
def Spn.meet (a b:Spn):Spn:=(a.cut b).norm
def Spn.within (a b:Spn):Bool:=decide ((a.meet b).norm = a.norm)
def Spn.touch (a b:Spn):Bool:=!(a.meet b).empty
/-! ### percolate/span.Empty -/
attribute [local irreducible] mxS mnS
/-! ### percolate/span.Has -/
def zjn:Reg:=⟨[],[⟨.box 3 66 (.t 0),some 2,none,[],[]⟩,⟨.mv (.c (.bool false)),some 4,none,[],[]⟩],[2],[],false⟩
def za6:List ROp:=[⟨.mv (.t 1),some 5,none,[],[]⟩,⟨.faddr 0 (.t 2),some 6,none,[],[]⟩,⟨.load 1 false (.t 6),some 7,none,[],[]⟩,⟨.bin .geq (.t 5) (.t 7),some 8,none,[],[]⟩,⟨.mv (.t 8),some 9,none,[],[]⟩,⟨.faddr 2 (.t 2),some 10,(some (9,true)),[],[]⟩,⟨.load 1 false (.t 10),some 11,(some (9,true)),[],[]⟩,⟨.mv (.t 11),some 12,(some (9,true)),[],[]⟩,⟨.mv (.t 1),some 13,(some (12,false)),[],[]⟩,⟨.faddr 1 (.t 2),some 14,(some (12,false)),[],[]⟩,⟨.load 1 false (.t 14),some 15,(some (12,false)),[],[]⟩,⟨.bin .lss (.t 13) (.t 15),some 16,(some (12,false)),[],[]⟩,⟨.pick (.t 12) (.c (.bool true)) (.t 16),some 17,(some (9,true)),[],[]⟩,⟨.pick (.t 9) (.t 17) (.c (.bool false)),some 18,none,[],[]⟩,⟨.mv (.t 18),some 4,none,[],[]⟩]
def zjm:Reg:=⟨[],za6,[],[],false⟩
def zxh:IR:=(.seq (.reg zjn)
 (.seq (.reg zjm)
 .ret))
def zit:List RDesc:=[(.tmp 4)]
theorem e_spHas_0:EqR zjn [⟨.box 3 66 (.t 0),some 2,none,[],[]⟩,⟨.mv (.c (.bool false)),some 4,none,[],[]⟩] [2]:=fun _ _ _=>rfl
theorem e_spHas_1:EqR zjm za6 []:=fun _ _ _=>rfl
theorem fn_spHas {args:List AV} {r:AV} (ha:args.length.ble Try.f66.ntmps = true) (h:run (AFn Try.prog) zxh (endQ zit r) (z0b args)):AFn Try.prog 66 args r :=
 AFn.of_code (pv:=false) (hint:=fun _=>[]) (c:=Try.f66.body.getD .skip) (by kernel_rfl) (by kernel_rfl) Try.func66 (by kernel_rfl) (by kernel_rfl) (by kernel_rfl) (of_decide_eq_true (by kernel_rfl)) (Nat.le_of_ble_eq_true ha) (Nat.le_of_ble_eq_true (by kernel_rfl)) (z09 h)
/-! ### percolate/span.Point -/
def zbg:Reg:=⟨[],[⟨.alloc 3 66 (.agg [(.str ⟨#[]⟩),(.str ⟨#[]⟩),(.bool false)]),some 2,none,[],[]⟩],[2],[],false⟩
def z6t:List ROp:=[⟨.mv (.t 0),some 3,none,[5],[]⟩,⟨.mv (.t 0),some 4,none,[5],[]⟩,⟨.callv (.c (.clo 78 [] [])) [(.t 4)],some 5,none,[],[]⟩,⟨.bld [(.str ⟨#[]⟩),(.str ⟨#[]⟩),(.bool false)] [⟨0,1,(.t 3)⟩,⟨1,1,(.t 5)⟩],some 6,none,[],[]⟩,⟨.store 3 (.t 2) (.t 6),none,none,[],[]⟩]
def zbf:Reg:=⟨[],z6t,[5],[],false⟩
def zf9:IR:=(.seq (.reg zbg)
 (.seq (.reg zbf)
 .ret))
def zb7:List RDesc:=[(.cell 2 3 true)]
theorem zqx:EqR zbg [⟨.alloc 3 66 (.agg [(.str ⟨#[]⟩),(.str ⟨#[]⟩),(.bool false)]),some 2,none,[],[]⟩] [2]:=fun _ _ _=>rfl
theorem zqw:EqR zbf z6t [5]:=fun _ _ _=>rfl
theorem fn_spPoint {args:List AV} {r:AV} (ha:args.length.ble Try.f67.ntmps = true) (h:run (AFn Try.prog) zf9 (endQ zb7 r) (z0b args)):AFn Try.prog 67 args r :=
 AFn.of_code (pv:=false) (hint:=fun _=>[]) (c:=Try.f67.body.getD .skip) (by kernel_rfl) (by kernel_rfl) Try.func67 (by kernel_rfl) (by kernel_rfl) (by kernel_rfl) (of_decide_eq_true (by kernel_rfl)) (Nat.le_of_ble_eq_true ha) (Nat.le_of_ble_eq_true (by kernel_rfl)) (z09 h)
/-! ### percolate/key.Next -/
def zby:Reg:=⟨[],[⟨.mv (.c (.str ⟨#[]⟩)),some 2,none,[],[]⟩],[],[],false⟩
def z70:List ROp:=[⟨.mv (.t 0),some 3,none,[],[]⟩,⟨.bin .add (.t 3) (.c (.str ⟨#[0]⟩)),some 4,none,[],[]⟩,⟨.mv (.t 4),some 2,none,[],[]⟩]
def zbx:Reg:=⟨[],z70,[],[],false⟩
def zfc:IR:=(.seq (.reg zby)
 (.seq (.reg zbx)
 .ret))
def zba:List RDesc:=[(.tmp 2)]
theorem zrb:EqR zby [⟨.mv (.c (.str ⟨#[]⟩)),some 2,none,[],[]⟩] []:=fun _ _ _=>rfl
theorem zra:EqR zbx z70 []:=fun _ _ _=>rfl
theorem fn_keyNext {args:List AV} {r:AV} (ha:args.length.ble Try.f78.ntmps = true) (h:run (AFn Try.prog) zfc (endQ zba r) (z0b args)):AFn Try.prog 78 args r :=
 AFn.of_code (pv:=false) (hint:=fun _=>[]) (c:=Try.f78.body.getD .skip) (by kernel_rfl) (by kernel_rfl) Try.func78 (by kernel_rfl) (by kernel_rfl) (by kernel_rfl) (of_decide_eq_true (by kernel_rfl)) (Nat.le_of_ble_eq_true ha) (Nat.le_of_ble_eq_true (by kernel_rfl)) (z09 h)
attribute [local go_sem ↓] zxh
attribute [local go_sem] zit e_spHas_0 e_spHas_1 za6
attribute [local go_sem ↓] zf9
attribute [local go_sem] zb7 zqx zqw z6t
attribute [local go_sem ↓] zfc
attribute [local go_sem] zba zrb zra z70
theorem Spn.ext' {a b:Spn} (h1:a.lo = b.lo) (h2:a.hi = b.hi) (h3:a.op = b.op):a = b:=by cases a; cases b; simp_all
theorem zha (s:Spn) (k:ByteArray):AFn Try.prog 66 [s.a,.str k] (.bool (s.has k)):=by
 refine fn_spHas rfl ?_
 simp (maxSteps:=9^7) only [go_sem,↓reduceIte,reduceCtorEq,Nat.reduceEqDiff,Nat.reduceBEq,Nat.reduceAdd,Nat.reduceSub,Nat.reduceMul,Nat.reduceLT,Nat.reduceLeDiff,Nat.reduceBNe,Int.reduceBEq,Int.reduceBNe,Int.reduceLT,Int.reduceLE,Spn.a]
 refine ⟨fun h=>⟨fun h2=>?_,fun h2=>?_⟩,fun h=>?_⟩ <;> simp [Spn.has,lt, *]
theorem keyNext (k:ByteArray) (hk:k.size≤9223372036854775806):AFn Try.prog 78 [.str k] (.str (k ++ ⟨#[0]⟩)):=by
 refine fn_keyNext rfl ?_
 simp (maxSteps:=9^7) only [go_sem,↓reduceIte,reduceCtorEq,Nat.reduceEqDiff,Nat.reduceBEq,Nat.reduceAdd,Nat.reduceSub,Nat.reduceMul,Nat.reduceLT,Nat.reduceLeDiff,Nat.reduceBNe,Int.reduceBEq,Int.reduceBNe,Int.reduceLT,Int.reduceLE,Spn.a]
 show k.size + 1≤_
 omega
def z1v (k:ByteArray):Spn:=⟨k,k ++ ⟨#[0]⟩,false⟩
theorem zid (k:ByteArray) (hk:k.size≤9223372036854775806):AFn Try.prog 67 [.str k] (z1v k).a:=by
 refine fn_spPoint rfl ?_
 simp (maxSteps:=9^7) only [go_sem,↓reduceIte,reduceCtorEq,Nat.reduceEqDiff,Nat.reduceBEq,Nat.reduceAdd,Nat.reduceSub,Nat.reduceMul,Nat.reduceLT,Nat.reduceLeDiff,Nat.reduceBNe,Int.reduceBEq,Int.reduceBNe,Int.reduceLT,Int.reduceLE,Spn.a,z1v]
 (first | refine z01 (keyNext k hk) ?_ | refine z00 (keyNext k hk) ?_)
 simp (maxSteps:=9^7) only [go_sem,↓reduceIte,reduceCtorEq,Nat.reduceEqDiff,Nat.reduceBEq,Nat.reduceAdd,Nat.reduceSub,Nat.reduceMul,Nat.reduceLT,Nat.reduceLeDiff,Nat.reduceBNe,Int.reduceBEq,Int.reduceBNe,Int.reduceLT,Int.reduceLE,Spn.a,z1v]
end
section
/-
 Effects and messages on the plain machine: the code's.
-/
open Go.RowKit
attribute [local go_sem ↓] z0s z0g
structure Eff where
 kind:Int
 val:ByteArray
deriving DecidableEq
structure Msg where
 stamp:Int
 kind:Int
 key:ByteArray
 hi:ByteArray
 op:Bool
 val:ByteArray
deriving DecidableEq
def Eff.a (e:Eff):AV:=.agg [.int .i64 e.kind,.str e.val]
def Msg.a (m:Msg):AV:=.agg [.int .i64 m.stamp,.int .i64 m.kind,.str m.key,.str m.hi,.bool m.op,.str m.val]
def Eff.none:Eff:=⟨0,⟨#[]⟩⟩
def z1u (s:ByteArray):ByteArray:=s.extract (s.size - 16) s.size
def Eff.thenC (a b:Eff):Eff:=if b.kind = 0 then a else if b.kind ≠ 2∨a.kind = 0 then b else ⟨if a.kind = 2 then 2 else 1,z1u ((if a.kind = 3 then ⟨#[]⟩ else a.val) ++ b.val)⟩
def Eff.thenR (a b:Eff):Eff:=if b.kind = 0 then a else if b.kind ≠ 2∨a.kind = 0 then b else ⟨if a.kind = 2 then 2 else 1,z1u (a.val ++ b.val)⟩
theorem then_same {a:Eff} (b:Eff) (h:a.kind = 3->a.val = ⟨#[]⟩):a.thenC b = a.thenR b:=by
 unfold Eff.thenC Eff.thenR
 split
 ·rfl
 ·split
  ·rfl
  ·by_cases h3:a.kind = 3
   ·rw [if_pos h3,h h3]
   ·rw [if_neg h3]
def Msg.span (m:Msg):Spn:=if m.kind = 4 then ⟨m.key,m.hi,m.op⟩ else z1v m.key
def Msg.on (m:Msg) (k:ByteArray):Eff:=if m.span.has k = true then (if m.kind = 1∨m.kind = 2 then ⟨m.kind,m.val⟩ else if m.kind = 3∨m.kind = 4 then ⟨3,⟨#[]⟩⟩ else Eff.none) else Eff.none
/-! ### percolate/value.Tail -/
def zj9:Reg:=⟨[],[⟨.mv (.c (.str ⟨#[]⟩)),some 2,none,[],[]⟩],[],[],false⟩
def za5:List ROp:=[⟨.mv (.t 0),some 3,none,[],[]⟩,⟨.mv (.t 0),some 4,none,[],[]⟩,⟨.len true (.t 4),some 5,none,[],[]⟩,⟨.bin .sub (.t 5) (.c (.int .i64 16)),some 6,none,[],[]⟩,⟨.mx true (.c (.int .i64 0)) (.t 6),some 7,none,[],[]⟩,⟨.slc true 0 (.t 3) (some (.t 7)) none,some 8,none,[],[]⟩,⟨.mv (.t 8),some 2,none,[],[]⟩]
def zj8:Reg:=⟨[],za5,[],[],false⟩
def zxg:IR:=(.seq (.reg zj9)
 (.seq (.reg zj8)
 .ret))
def zis:List RDesc:=[(.tmp 2)]
theorem e_vTail_0:EqR zj9 [⟨.mv (.c (.str ⟨#[]⟩)),some 2,none,[],[]⟩] []:=fun _ _ _=>rfl
theorem e_vTail_1:EqR zj8 za5 []:=fun _ _ _=>rfl
theorem fn_vTail {args:List AV} {r:AV} (ha:args.length.ble Try.f92.ntmps = true) (h:run (AFn Try.prog) zxg (endQ zis r) (z0b args)):AFn Try.prog 92 args r :=
 AFn.of_code (pv:=false) (hint:=fun _=>[]) (c:=Try.f92.body.getD .skip) (by kernel_rfl) (by kernel_rfl) Try.func92 (by kernel_rfl) (by kernel_rfl) (by kernel_rfl) (of_decide_eq_true (by kernel_rfl)) (Nat.le_of_ble_eq_true ha) (Nat.le_of_ble_eq_true (by kernel_rfl)) (z09 h)
/-! ### percolate/value.Add -/
def zsx:Reg:=⟨[],[⟨.mv (.c (.str ⟨#[]⟩)),some 4,none,[],[]⟩],[],[],false⟩
def zfs:List ROp:=[⟨.mv (.t 0),some 5,none,[8],[]⟩,⟨.mv (.t 1),some 6,none,[8],[]⟩,⟨.bin .add (.t 5) (.t 6),some 7,none,[8],[]⟩,⟨.callv (.c (.clo 92 [] [])) [(.t 7)],some 8,none,[],[]⟩,⟨.mv (.t 8),some 4,none,[],[]⟩]
def zsw:Reg:=⟨[],zfs,[8],[],false⟩
def ir_vAdd:IR:=(.seq (.reg zsx)
 (.seq (.reg zsw)
 .ret))
def zs6:List RDesc:=[(.tmp 4)]
theorem e_vAdd_0:EqR zsx [⟨.mv (.c (.str ⟨#[]⟩)),some 4,none,[],[]⟩] []:=fun _ _ _=>rfl
theorem e_vAdd_1:EqR zsw zfs [8]:=fun _ _ _=>rfl
theorem fn_vAdd {args:List AV} {r:AV} (ha:args.length.ble Try.f88.ntmps = true) (h:run (AFn Try.prog) ir_vAdd (endQ zs6 r) (z0b args)):AFn Try.prog 88 args r :=
 AFn.of_code (pv:=false) (hint:=fun _=>[]) (c:=Try.f88.body.getD .skip) (by kernel_rfl) (by kernel_rfl) Try.func88 (by kernel_rfl) (by kernel_rfl) (by kernel_rfl) (of_decide_eq_true (by kernel_rfl)) (Nat.le_of_ble_eq_true ha) (Nat.le_of_ble_eq_true (by kernel_rfl)) (z09 h)
/-! ### percolate/effect.Apply -/
attribute [local go_sem ↓] zxg
attribute [local go_sem] zis e_vTail_0 e_vTail_1 za5
attribute [local go_sem ↓] ir_vAdd
attribute [local go_sem] zs6 e_vAdd_0 e_vAdd_1 zfs
theorem zi6 (s:ByteArray) (hs:s.size≤9223372036854775807):AFn Try.prog 92 [.str s] (.str (z1u s)):=by
 refine fn_vTail rfl ?_
 simp (maxSteps:=9^7) only [go_sem,↓reduceIte,reduceCtorEq,Nat.reduceEqDiff,Nat.reduceBEq,Nat.reduceAdd,Nat.reduceSub,Nat.reduceMul,Nat.reduceLT,Nat.reduceLeDiff,Nat.reduceBNe,Int.reduceBEq,Int.reduceBNe,Int.reduceLT,Int.reduceLE,Spn.a,Msg.a,Eff.a]
 have hw:IntKind.i64.wrap ((s.size:Int) - 16) = s.size - 16:=IntWalk.i64_in _ (by omega)
 rw [hw]
 by_cases h:(0:Int) < s.size - 16
 ·rw [if_pos h,show ((s.size:Int) - 16).toNat = s.size - 16 by omega]
  exact ⟨⟨by omega,by omega⟩,rfl⟩
 ·rw [if_neg h]
  refine ⟨⟨by omega,by simp⟩,?_⟩
  unfold z1u
  rw [show s.size - 16 = 0 by omega]; rfl
theorem zru (a b:ByteArray) (hs:a.size + b.size≤9223372036854775807):AFn Try.prog 88 [.str a,.str b] (.str (z1u (a ++ b))):=by
 refine fn_vAdd rfl ?_
 simp (maxSteps:=9^7) only [go_sem,↓reduceIte,reduceCtorEq,Nat.reduceEqDiff,Nat.reduceBEq,Nat.reduceAdd,Nat.reduceSub,Nat.reduceMul,Nat.reduceLT,Nat.reduceLeDiff,Nat.reduceBNe,Int.reduceBEq,Int.reduceBNe,Int.reduceLT,Int.reduceLE,Spn.a,Msg.a,Eff.a]
 refine ⟨hs,?_⟩
 (first | refine z01 (zi6 (a ++ b) (by rw [ByteArray.size_append]; exact hs)) ?_ | refine z00 (zi6 (a ++ b) (by rw [ByteArray.size_append]; exact hs)) ?_)
 simp (maxSteps:=9^7) only [go_sem,↓reduceIte,reduceCtorEq,Nat.reduceEqDiff,Nat.reduceBEq,Nat.reduceAdd,Nat.reduceSub,Nat.reduceMul,Nat.reduceLT,Nat.reduceLeDiff,Nat.reduceBNe,Int.reduceBEq,Int.reduceBNe,Int.reduceLT,Int.reduceLE,Spn.a,Msg.a,Eff.a]
/-! ### percolate/message.Span -/
def zar:List ROp:=[⟨.box 6 70 (.t 0),some 1,none,[2],[]⟩,⟨.alloc 3 66 (.agg [(.str ⟨#[]⟩),(.str ⟨#[]⟩),(.bool false)]),some 2,none,[],[]⟩]
def zko:Reg:=⟨[],zar,[1,2],[],false⟩
def zaq:List ROp:=[⟨.faddr 1 (.t 1),some 3,none,[],[]⟩,⟨.load 1 false (.t 3),some 4,none,[],[]⟩,⟨.bin .eql (.t 4) (.c (.int .i64 4)),some 5,none,[],[]⟩]
def zkn:Reg:=⟨[],zaq,[],[],false⟩
def zap:List ROp:=[⟨.faddr 2 (.t 1),some 6,none,[],[]⟩,⟨.load 1 false (.t 6),some 7,none,[],[]⟩,⟨.faddr 3 (.t 1),some 8,none,[],[]⟩,⟨.load 1 false (.t 8),some 9,none,[],[]⟩,⟨.faddr 4 (.t 1),some 10,none,[],[]⟩,⟨.load 1 false (.t 10),some 11,none,[],[]⟩,⟨.bld [(.str ⟨#[]⟩),(.str ⟨#[]⟩),(.bool false)] [⟨0,1,(.t 7)⟩,⟨1,1,(.t 9)⟩,⟨2,1,(.t 11)⟩],some 12,none,[],[]⟩,⟨.store 3 (.t 2) (.t 12),none,none,[],[]⟩]
def zkm:Reg:=⟨[],zap,[],[],false⟩
def zao:List ROp:=[⟨.faddr 2 (.t 1),some 13,none,[15],[]⟩,⟨.load 1 false (.t 13),some 14,none,[15],[]⟩,⟨.callv (.c (.clo 67 [] [])) [(.t 14)],some 15,none,[],[]⟩,⟨.store 3 (.t 2) (.t 15),none,none,[],[]⟩]
def zkl:Reg:=⟨[],zao,[15],[],false⟩
def zxn:IR:=(.seq (.reg zko)
 (.seq (.seq (.reg zkn)
 (.cond (.t 5) (.seq (.reg zkm)
 .ret)
 .skip))
 (.seq (.reg zkl)
 .ret)))
def ziz:List RDesc:=[(.cell 2 3 true)]
theorem e_mSpan_0:EqR zko zar [1,2]:=fun _ _ _=>rfl
theorem e_mSpan_1:EqR zkn zaq []:=fun _ _ _=>rfl
theorem e_mSpan_2:EqR zkm zap []:=fun _ _ _=>rfl
theorem e_mSpan_3:EqR zkl zao [15]:=fun _ _ _=>rfl
theorem fn_mSpan {args:List AV} {r:AV} (ha:args.length.ble Try.f69.ntmps = true) (h:run (AFn Try.prog) zxn (endQ ziz r) (z0b args)):AFn Try.prog 69 args r :=
 AFn.of_code (pv:=false) (hint:=fun _=>[]) (c:=Try.f69.body.getD .skip) (by kernel_rfl) (by kernel_rfl) Try.func69 (by kernel_rfl) (by kernel_rfl) (by kernel_rfl) (of_decide_eq_true (by kernel_rfl)) (Nat.le_of_ble_eq_true ha) (Nat.le_of_ble_eq_true (by kernel_rfl)) (z09 h)
/-! ### percolate/message.On -/
def zoj:List ROp:=[⟨.box 6 70 (.t 0),some 2,none,[4],[]⟩,⟨.alloc 2 80 (.agg [(.int .i64 0),(.str ⟨#[]⟩)]),some 4,none,[],[]⟩]
def r_mOn_0:Reg:=⟨[],zoj,[2,4],[],false⟩
def zoi:List ROp:=[⟨.load 6 true (.t 2),some 5,none,[6,8],[]⟩,⟨.callv (.c (.clo 69 [] [])) [(.t 5)],some 6,none,[8],[]⟩,⟨.mv (.t 1),some 7,none,[8],[]⟩,⟨.callv (.c (.clo 66 [] [])) [(.t 6),(.t 7)],some 8,none,[],[]⟩,⟨.un .not (.t 8),some 9,none,[],[]⟩]
def r_mOn_1:Reg:=⟨[],zoi,[6,8],[],false⟩
def r_mOn_2:Reg:=⟨[],[⟨.bld [(.int .i64 0),(.str ⟨#[]⟩)] [],some 10,none,[],[]⟩,⟨.store 2 (.t 4) (.t 10),none,none,[],[]⟩],[],[],false⟩
def r_mOn_3:Reg:=⟨[],[⟨.faddr 1 (.t 2),some 11,none,[],[]⟩,⟨.load 1 false (.t 11),some 12,none,[],[]⟩],[],[],false⟩
def r_mOn_4:Reg:=⟨[],[⟨.bin .eql (.t 12) (.c (.int .i64 1)),some 14,none,[],[]⟩,⟨.mv (.t 14),some 13,none,[],[]⟩],[],[],false⟩
def r_mOn_5:Reg:=⟨[],[⟨.bin .eql (.t 12) (.c (.int .i64 2)),some 15,none,[],[]⟩,⟨.mv (.t 15),some 13,none,[],[]⟩],[],[],false⟩
def zoh:List ROp:=[⟨.faddr 1 (.t 2),some 16,none,[],[]⟩,⟨.load 1 false (.t 16),some 17,none,[],[]⟩,⟨.faddr 5 (.t 2),some 18,none,[],[]⟩,⟨.load 1 false (.t 18),some 19,none,[],[]⟩,⟨.bld [(.int .i64 0),(.str ⟨#[]⟩)] [⟨0,1,(.t 17)⟩,⟨1,1,(.t 19)⟩],some 20,none,[],[]⟩,⟨.store 2 (.t 4) (.t 20),none,none,[],[]⟩]
def r_mOn_6:Reg:=⟨[],zoh,[],[],false⟩
def r_mOn_7:Reg:=⟨[],[⟨.bin .eql (.t 12) (.c (.int .i64 3)),some 22,none,[],[]⟩,⟨.mv (.t 22),some 21,none,[],[]⟩],[],[],false⟩
def r_mOn_8:Reg:=⟨[],[⟨.bin .eql (.t 12) (.c (.int .i64 4)),some 23,none,[],[]⟩,⟨.mv (.t 23),some 21,none,[],[]⟩],[],[],false⟩
def zog:List ROp:=[⟨.bld [(.int .i64 0),(.str ⟨#[]⟩)] [⟨0,1,(.c (.int .i64 3))⟩],some 24,none,[],[]⟩,⟨.store 2 (.t 4) (.t 24),none,none,[],[]⟩]
def r_mOn_9:Reg:=⟨[],zog,[],[],false⟩
def zvc:Reg:=⟨[],[⟨.bld [(.int .i64 0),(.str ⟨#[]⟩)] [],some 25,none,[],[]⟩,⟨.store 2 (.t 4) (.t 25),none,none,[],[]⟩],[],[],false⟩
def ir_mOn:IR:=(.seq (.reg r_mOn_0)
 (.seq (.seq (.reg r_mOn_1)
 (.cond (.t 9) (.seq (.reg r_mOn_2)
 .ret)
 .skip))
 (.seq (.seq (.reg r_mOn_3)
 (.block 0 (.seq (.seq (.reg r_mOn_4)
 (.cond (.t 13) .skip
 (.reg r_mOn_5)))
 (.cond (.t 13) (.seq (.reg r_mOn_6)
 .ret)
 (.seq (.seq (.reg r_mOn_7)
 (.cond (.t 21) .skip
 (.reg r_mOn_8)))
 (.cond (.t 21) (.seq (.reg r_mOn_9)
 .ret)
 .skip))))))
 (.seq (.reg zvc)
 .ret))))
def res_mOn:List RDesc:=[(.cell 4 2 true)]
theorem e_mOn_0:EqR r_mOn_0 zoj [2,4]:=fun _ _ _=>rfl
theorem e_mOn_1:EqR r_mOn_1 zoi [6,8]:=fun _ _ _=>rfl
theorem e_mOn_2:EqR r_mOn_2 [⟨.bld [(.int .i64 0),(.str ⟨#[]⟩)] [],some 10,none,[],[]⟩,⟨.store 2 (.t 4) (.t 10),none,none,[],[]⟩] []:=fun _ _ _=>rfl
theorem e_mOn_3:EqR r_mOn_3 [⟨.faddr 1 (.t 2),some 11,none,[],[]⟩,⟨.load 1 false (.t 11),some 12,none,[],[]⟩] []:=fun _ _ _=>rfl
theorem e_mOn_4:EqR r_mOn_4 [⟨.bin .eql (.t 12) (.c (.int .i64 1)),some 14,none,[],[]⟩,⟨.mv (.t 14),some 13,none,[],[]⟩] []:=fun _ _ _=>rfl
theorem e_mOn_5:EqR r_mOn_5 [⟨.bin .eql (.t 12) (.c (.int .i64 2)),some 15,none,[],[]⟩,⟨.mv (.t 15),some 13,none,[],[]⟩] []:=fun _ _ _=>rfl
theorem e_mOn_6:EqR r_mOn_6 zoh []:=fun _ _ _=>rfl
theorem e_mOn_7:EqR r_mOn_7 [⟨.bin .eql (.t 12) (.c (.int .i64 3)),some 22,none,[],[]⟩,⟨.mv (.t 22),some 21,none,[],[]⟩] []:=fun _ _ _=>rfl
theorem e_mOn_8:EqR r_mOn_8 [⟨.bin .eql (.t 12) (.c (.int .i64 4)),some 23,none,[],[]⟩,⟨.mv (.t 23),some 21,none,[],[]⟩] []:=fun _ _ _=>rfl
theorem e_mOn_9:EqR r_mOn_9 zog []:=fun _ _ _=>rfl
theorem e_mOn_10:EqR zvc [⟨.bld [(.int .i64 0),(.str ⟨#[]⟩)] [],some 25,none,[],[]⟩,⟨.store 2 (.t 4) (.t 25),none,none,[],[]⟩] []:=fun _ _ _=>rfl
theorem fn_mOn {args:List AV} {r:AV} (ha:args.length.ble Try.f71.ntmps = true) (h:run (AFn Try.prog) ir_mOn (endQ res_mOn r) (z0b args)):AFn Try.prog 71 args r :=
 AFn.of_code (pv:=false) (hint:=fun _=>[]) (c:=Try.f71.body.getD .skip) (by kernel_rfl) (by kernel_rfl) Try.func71 (by kernel_rfl) (by kernel_rfl) (by kernel_rfl) (of_decide_eq_true (by kernel_rfl)) (Nat.le_of_ble_eq_true ha) (Nat.le_of_ble_eq_true (by kernel_rfl)) (z09 h)
attribute [local go_sem ↓] zxn
attribute [local go_sem] ziz e_mSpan_0 zar e_mSpan_1 zaq e_mSpan_2 zap e_mSpan_3 zao
attribute [local go_sem ↓] ir_mOn
attribute [local go_sem] res_mOn e_mOn_0 zoj e_mOn_1 zoi e_mOn_2 e_mOn_3 e_mOn_4 e_mOn_5 e_mOn_6 zoh e_mOn_7 e_mOn_8 e_mOn_9 zog e_mOn_10
theorem zq2 (m:Msg) (hk:m.key.size≤9223372036854775806):AFn Try.prog 69 [m.a] m.span.a:=by
 refine fn_mSpan rfl ?_
 cases h:(m.kind == 4) with
 | true =>
  have h':m.kind = 4:=by simpa using h
  simp (maxSteps:=9^7) only [go_sem,↓reduceIte,reduceCtorEq,Nat.reduceEqDiff,Nat.reduceBEq,Nat.reduceAdd,Nat.reduceSub,Nat.reduceMul,Nat.reduceLT,Nat.reduceLeDiff,Nat.reduceBNe,Int.reduceBEq,Int.reduceBNe,Int.reduceLT,Int.reduceLE,Spn.a,Msg.a,Eff.a,h]
  simp [Msg.span,h']
 | false =>
  have h':m.kind ≠ 4:=by simpa using h
  simp (maxSteps:=9^7) only [go_sem,↓reduceIte,reduceCtorEq,Nat.reduceEqDiff,Nat.reduceBEq,Nat.reduceAdd,Nat.reduceSub,Nat.reduceMul,Nat.reduceLT,Nat.reduceLeDiff,Nat.reduceBNe,Int.reduceBEq,Int.reduceBNe,Int.reduceLT,Int.reduceLE,Spn.a,Msg.a,Eff.a,h]
  (first | refine z01 (zid m.key hk) ?_ | refine z00 (zid m.key hk) ?_)
  simp (maxSteps:=9^7) only [go_sem,↓reduceIte,reduceCtorEq,Nat.reduceEqDiff,Nat.reduceBEq,Nat.reduceAdd,Nat.reduceSub,Nat.reduceMul,Nat.reduceLT,Nat.reduceLeDiff,Nat.reduceBNe,Int.reduceBEq,Int.reduceBNe,Int.reduceLT,Int.reduceLE,Spn.a,Msg.a,Eff.a,h]
  simp [Msg.span,h']
theorem msgOn (m:Msg) (k:ByteArray) (hk:m.key.size≤9223372036854775806):AFn Try.prog 71 [m.a,.str k] (m.on k).a:=by
 refine fn_mOn rfl ?_
 simp (maxSteps:=9^7) only [go_sem,↓reduceIte,reduceCtorEq,Nat.reduceEqDiff,Nat.reduceBEq,Nat.reduceAdd,Nat.reduceSub,Nat.reduceMul,Nat.reduceLT,Nat.reduceLeDiff,Nat.reduceBNe,Int.reduceBEq,Int.reduceBNe,Int.reduceLT,Int.reduceLE,Spn.a,Msg.a,Eff.a]
 (first | refine z01 (zq2 m hk) ?_ | refine z00 (zq2 m hk) ?_)
 simp (maxSteps:=9^7) only [go_sem,↓reduceIte,reduceCtorEq,Nat.reduceEqDiff,Nat.reduceBEq,Nat.reduceAdd,Nat.reduceSub,Nat.reduceMul,Nat.reduceLT,Nat.reduceLeDiff,Nat.reduceBNe,Int.reduceBEq,Int.reduceBNe,Int.reduceLT,Int.reduceLE,Spn.a,Msg.a,Eff.a]
 (first | refine z01 (zha m.span k) ?_ | refine z00 (zha m.span k) ?_)
 simp (maxSteps:=9^7) only [go_sem,↓reduceIte,reduceCtorEq,Nat.reduceEqDiff,Nat.reduceBEq,Nat.reduceAdd,Nat.reduceSub,Nat.reduceMul,Nat.reduceLT,Nat.reduceLeDiff,Nat.reduceBNe,Int.reduceBEq,Int.reduceBNe,Int.reduceLT,Int.reduceLE,Spn.a,Msg.a,Eff.a]
 refine ⟨fun h=>by simp [Msg.on,Eff.none,h],fun h=>?_⟩
 simp only [beq_iff_eq,beq_eq_false_iff_ne,Msg.on,Eff.none,h,if_true]
 refine ⟨fun h1=>⟨fun _=>by simp [h1],fun h2=>absurd h1 h2⟩,fun h1=>⟨fun h2=>by simp [h2],fun h2=>⟨fun h3=>⟨fun _=>by simp [h3],fun h4=>absurd h3 h4⟩,fun h3=>⟨fun h4=>by simp [h4],fun h4=>by simp [h1,h2,h3,h4]⟩⟩⟩⟩
def z32 (a b:Msg):Msg × Bool :=
 if b.kind = 4∧a.span.within b.span = true then (b,true)
 else if a.kind = 4∨b.kind = 4∨a.key ≠ b.key then (⟨0,0,⟨#[]⟩,⟨#[]⟩,false,⟨#[]⟩⟩,false)
 else ({ b with kind:=((a.on a.key).thenC (b.on b.key)).kind,val:=((a.on a.key).thenC (b.on b.key)).val },true)
end
section
/-
 Lists of messages on the plain machine: the library's functions,Next,Dead.
-/
open Go.RowKit
def MOk (l:List Msg):Prop:=l.length≤1000000∧∀ m,m ∈ l->m.key.size≤9223372036854775806
def z1y (p:Nat->Bool):Nat->Nat->Option Nat
 | 0,_=>none
 | f + 1,j=>if p j then some j else z1y p f (j + 1)
def z4i (l:List Msg) (i:Nat):Option Nat:=match l[i]? with
 | some m=>z1y (fun j=>(l[j]?).any fun x=>x.span.touch m.span) (l.length - (i + 1)) (i + 1)
 | none=>none
def cov (l:List Msg) (i:Nat):Bool:=match l[i]? with
 | some m=>(l.drop (i + 1)).any fun x=>x.kind == 4 && m.span.within x.span
 | none=>false
def dead (l:List Msg) (i:Nat):Bool:=match l[i]? with
 | some m=>if m.kind = 4 then cov l i else match z4i l i with
  | some j=>(l[j]?).any fun x=>x.kind != 2
  | none=>false
 | none=>false
theorem z4q {p:Nat->Bool}:∀ {f j k:Nat},z1y p f j = some k->j≤k∧k < j + f∧p k = true
 | 0,j,k,h=>by simp [z1y] at h
 | f + 1,j,k,h=>by
  simp only [z1y] at h
  by_cases hp:p j = true
  ·rw [if_pos hp] at h; cases h
   exact ⟨Nat.le_refl _,by omega,hp⟩
  ·rw [if_neg hp] at h
   obtain ⟨h1,h2,h3⟩:=z4q h
   exact ⟨by omega,by omega,h3⟩
theorem zc6 {l:List Msg} {i j:Nat} (h:z4i l i = some j):i < j∧∃ x,l[j]? = some x:=by
 unfold z4i at h
 split at h
 ·obtain ⟨h1,h2,h3⟩:=z4q h
  refine ⟨by omega,?_⟩
  cases hx:l[j]? with
  | none=>simp only [hx] at h3; cases h3
  | some x=>exact ⟨x,rfl⟩
 ·cases h
end
section
/-
 Squeeze on the plain machine.
-/
open Go.RowKit
def sqGo:Nat->Nat->List Msg->List Msg->List Msg
 | 0,_,_,out=>out
 | f + 1,i,rest,out=>match rest[i]? with
  | none=>out
  | some m=>if dead rest i then sqGo f (i + 1) rest out else match z4i rest i with
   | none=>sqGo f (i + 1) rest (out ++ [m])
   | some j=>if m.kind = 4 then sqGo f (i + 1) rest (out ++ [m]) else match rest[j]? with
    | none=>out
    | some x=>if (z32 m x).2 then sqGo f (i + 1) (rest.set j (z32 m x).1) out else sqGo f (i + 1) rest (out ++ [m])
def z7m (l:List Msg):List Msg:=sqGo l.length 0 l []
def ROk (l:List Msg):Prop:=l.length≤1000000∧∀ m,m ∈ l->m.key.size≤9223372036854775806∧m.val.size≤4611686018427387903
theorem ROk.ok {l:List Msg} (h:ROk l):MOk l:=⟨h.1,fun m hm=>(h.2 m hm).1⟩
theorem zpw (m:Msg) (k:ByteArray):(m.on k).val.size≤m.val.size:=by
 unfold Msg.on Eff.none
 split
 ·split
  ·exact Nat.le_refl _
  ·split <;> exact Nat.zero_le _
 ·exact Nat.zero_le _
theorem za4 (s:ByteArray):(z1u s).size≤16:=by
 unfold z1u
 rw [ByteArray.size_extract]
 omega
end
section
/-
 The document's spans and messages on the plain machine.
-/
open Go.RowKit
attribute [local go_sem ↓] z0s z0g
theorem drop_less (x y:List UInt8) (j:Nat) (hx:j < x.length) (hy:j < y.length):Op.bytesLess (x.drop j) (y.drop j) = if (x.getD j 0) = (y.getD j 0) then Op.bytesLess (x.drop (j + 1)) (y.drop (j + 1)) else decide (x.getD j 0 < y.getD j 0):=by
 rw [List.drop_eq_getElem_cons hx,List.drop_eq_getElem_cons hy,kp.less_cons,List.getD_eq_getElem?_getD,List.getD_eq_getElem?_getD,List.getElem?_eq_getElem hx,List.getElem?_eq_getElem hy]
 simp only [Option.getD_some]
 by_cases h:x[j] = y[j]
 ·rw [if_pos h,h]; simp
 ·rw [if_neg h]; simp [h]
def lessInv (a b:ByteArray) (r:Bool) (k:Nat) (σ:St):Prop :=
 ∃ j:Nat,j≤a.size∧j≤b.size∧k = a.size - j∧σ.T 0 = .str a∧σ.T 1 = .str b∧σ.T 5 = .int .i64 j∧Op.bytesLess (a.data.toList.drop j) (b.data.toList.drop j) = r
/-! ### percolate/percolateref01.Less -/
def zka:Reg:=⟨[],[⟨.mv (.c (.bool false)),some 4,none,[],[]⟩],[],[],false⟩
def zk9:Reg:=⟨[],[⟨.mv (.c (.int .i64 0)),some 5,none,[],[]⟩],[],[],false⟩
def zaj:List ROp:=[⟨.mv (.t 5),some 6,none,[],[]⟩,⟨.mv (.t 0),some 7,none,[],[]⟩,⟨.len true (.t 7),some 8,none,[],[]⟩,⟨.bin .lss (.t 6) (.t 8),some 9,none,[],[]⟩,⟨.mv (.t 9),some 10,none,[],[]⟩,⟨.mv (.t 5),some 11,(some (10,true)),[],[]⟩,⟨.mv (.t 1),some 12,(some (10,true)),[],[]⟩,⟨.len true (.t 12),some 13,(some (10,true)),[],[]⟩,⟨.bin .lss (.t 11) (.t 13),some 14,(some (10,true)),[],[]⟩,⟨.pick (.t 10) (.t 14) (.c (.bool false)),some 15,none,[],[]⟩]
def zk8:Reg:=⟨[],zaj,[],[],false⟩
def zcp:List ROp:=[⟨.mv (.t 0),some 18,none,[],[]⟩,⟨.mv (.t 5),some 19,none,[],[]⟩,⟨.idx (.t 18) (.t 19),some 20,none,[],[]⟩,⟨.mv (.t 1),some 21,none,[],[]⟩,⟨.mv (.t 5),some 22,none,[],[]⟩,⟨.idx (.t 21) (.t 22),some 23,none,[],[]⟩]
def zk7:Reg:=⟨zcp,[⟨.bin .neq (.t 20) (.t 23),some 24,none,[],[]⟩],[],[],true⟩
def zco:List ROp:=[⟨.mv (.t 0),some 25,none,[],[]⟩,⟨.mv (.t 5),some 26,none,[],[]⟩,⟨.idx (.t 25) (.t 26),some 27,none,[],[]⟩,⟨.mv (.t 1),some 28,none,[],[]⟩,⟨.mv (.t 5),some 29,none,[],[]⟩,⟨.idx (.t 28) (.t 29),some 30,none,[],[]⟩]
def zk6:Reg:=⟨zco,[⟨.bin .lss (.t 27) (.t 30),some 31,none,[],[]⟩,⟨.mv (.t 31),some 4,none,[],[]⟩],[],[],true⟩
def zai:List ROp:=[⟨.mv (.t 5),some 16,none,[],[]⟩,⟨.bin .add (.t 16) (.c (.int .i64 1)),some 17,none,[],[]⟩,⟨.mv (.t 17),some 5,none,[],[]⟩]
def zk5:Reg:=⟨[],zai,[],[],false⟩
def zeb:IR:=(.seq (.seq (.reg zk8)
 (.cond (.t 15) .skip
 (.exit 0)))
 (.seq (.block 1 (.seq (.reg zk7)
 (.cond (.t 24) (.seq (.reg zk6)
 .ret)
 .skip)))
 (.reg zk5)))
def zah:List ROp:=[⟨.mv (.t 0),some 32,none,[],[]⟩,⟨.len true (.t 32),some 33,none,[],[]⟩,⟨.mv (.t 1),some 34,none,[],[]⟩,⟨.len true (.t 34),some 35,none,[],[]⟩,⟨.bin .lss (.t 33) (.t 35),some 36,none,[],[]⟩,⟨.mv (.t 36),some 4,none,[],[]⟩]
def zk4:Reg:=⟨[],zah,[],[],false⟩
def zxk:IR:=(.seq (.reg zka)
 (.seq (.seq (.reg zk9)
 (.block 0 (.loop zeb)))
 (.seq (.reg zk4)
 .ret)))
def ziw:List RDesc:=[(.tmp 4)]
theorem e_rLess_0:EqR zka [⟨.mv (.c (.bool false)),some 4,none,[],[]⟩] []:=fun _ _ _=>rfl
theorem e_rLess_1:EqR zk9 [⟨.mv (.c (.int .i64 0)),some 5,none,[],[]⟩] []:=fun _ _ _=>rfl
theorem e_rLess_2:EqR zk8 zaj []:=fun _ _ _=>rfl
theorem e_rLess_3 (C:FuncId->List AV->AV->Prop) (σ:St) (K:St->Prop):z0l C zk7 σ K = z0a C [] [⟨.bin .neq (.t 20) (.t 23),some 24,none,[],[]⟩] zcp (σ.kills []) K:=rfl
theorem e_rLess_4 (C:FuncId->List AV->AV->Prop) (σ:St) (K:St->Prop):z0l C zk6 σ K = z0a C [] [⟨.bin .lss (.t 27) (.t 30),some 31,none,[],[]⟩,⟨.mv (.t 31),some 4,none,[],[]⟩] zco (σ.kills []) K:=rfl
theorem e_rLess_5:EqR zk5 zai []:=fun _ _ _=>rfl
theorem e_rLess_7:EqR zk4 zah []:=fun _ _ _=>rfl
theorem fn_rLess {args:List AV} {r:AV} (ha:args.length.ble Try.f73.ntmps = true) (h:run (AFn Try.prog) zxk (endQ ziw r) (z0b args)):AFn Try.prog 73 args r :=
 AFn.of_code (pv:=false) (hint:=fun _=>[]) (c:=Try.f73.body.getD .skip) (by kernel_rfl) (by kernel_rfl) Try.func73 (by kernel_rfl) (by kernel_rfl) (by kernel_rfl) (of_decide_eq_true (by kernel_rfl)) (Nat.le_of_ble_eq_true ha) (Nat.le_of_ble_eq_true (by kernel_rfl)) (z09 h)
attribute [local go_sem ↓] zxk
attribute [local go_sem] ziw e_rLess_0 e_rLess_1 e_rLess_2 zaj e_rLess_3 zcp e_rLess_4 zco e_rLess_5 zai e_rLess_7 zah
theorem z72 (a b:ByteArray) (ha:a.size≤9223372036854775807) (hb:b.size≤9223372036854775807):AFn Try.prog 73 [.str a,.str b] (.bool (lt a b)):=by
 have hla:a.data.toList.length = a.size:=by rw [Array.length_toList]; rfl
 have hlb:b.data.toList.length = b.size:=by rw [Array.length_toList]; rfl
 refine fn_rLess rfl ?_
 simp (maxSteps:=9^7) only [go_sem,↓reduceIte,reduceCtorEq,Nat.reduceEqDiff,Nat.reduceBEq,Nat.reduceAdd,Nat.reduceSub,Nat.reduceMul,Nat.reduceLT,Nat.reduceLeDiff,Nat.reduceBNe,Int.reduceBEq,Int.reduceBNe,Int.reduceLT,Int.reduceLE,Spn.a,Msg.a,Eff.a]
 refine z0f (lessInv a b (lt a b)) (k:=a.size) ⟨0,by omega,by omega,rfl,?_,?_,?_,?_⟩ ?_
 iterate 2 focus ((simp (maxSteps:=9^7) only [go_sem,↓reduceIte,reduceCtorEq,Nat.reduceEqDiff,Nat.reduceBEq,Nat.reduceAdd,Nat.reduceSub,Nat.reduceMul,Nat.reduceLT,Nat.reduceLeDiff,Nat.reduceBNe,Int.reduceBEq,Int.reduceBNe,Int.reduceLT,Int.reduceLE,Spn.a,Msg.a,Eff.a]) <;> rfl)
 ·simp (maxSteps:=9^7) only [go_sem,↓reduceIte,reduceCtorEq,Nat.reduceEqDiff,Nat.reduceBEq,Nat.reduceAdd,Nat.reduceSub,Nat.reduceMul,Nat.reduceLT,Nat.reduceLeDiff,Nat.reduceBNe,Int.reduceBEq,Int.reduceBNe,Int.reduceLT,Int.reduceLE,Spn.a,Msg.a,Eff.a]
  rfl
 ·simp only [List.drop_zero,lt,ByteArray.toList_eq]
 rintro k σ ⟨j,hja,hjb,rfl,t0,t1,t5,hr⟩
 simp only [zeb]
 by_cases h1:j < a.size
 ·have h1':(j:Int) < (a.size:Int):=by omega
  by_cases h2:j < b.size
  ·have h2':(j:Int) < (b.size:Int):=by omega
   have hw:IntKind.i64.wrap ((j:Int) + 1) = ((j + 1:Nat):Int):=by rw [IntWalk.i64_in _ (by omega)]; rfl
   rw [drop_less _ _ _ (by omega) (by omega)] at hr
   by_cases h3:a.data.toList.getD j 0 = b.data.toList.getD j 0
   ·rw [if_pos h3] at hr
    simp (maxSteps:=9^7) only [go_sem,↓reduceIte,reduceCtorEq,Nat.reduceEqDiff,Nat.reduceBEq,Nat.reduceAdd,Nat.reduceSub,Nat.reduceMul,Nat.reduceLT,Nat.reduceLeDiff,Nat.reduceBNe,Int.reduceBEq,Int.reduceBNe,Int.reduceLT,Int.reduceLE,Spn.a,Msg.a,Eff.a,t0,t1,t5,h1',h2',h3,decide_true,Int.toNat_natCast,bne_self_eq_false]
    refine ⟨by omega,by omega,?_⟩
    refine ⟨a.size - (j + 1),by omega,j + 1,by omega,by omega,rfl,?_,?_,?_,hr⟩ <;>
     (simp (maxSteps:=9^7) only [go_sem,↓reduceIte,reduceCtorEq,Nat.reduceEqDiff,Nat.reduceBEq,Nat.reduceAdd,Nat.reduceSub,Nat.reduceMul,Nat.reduceLT,Nat.reduceLeDiff,Nat.reduceBNe,Int.reduceBEq,Int.reduceBNe,Int.reduceLT,Int.reduceLE,Spn.a,Msg.a,Eff.a,t0,t1,t5,hw])
   ·rw [if_neg h3] at hr
    have h3':(((a.data.toList.getD j 0).toNat:Int) != ((b.data.toList.getD j 0).toNat:Int)) = true:=by
     simp only [bne_iff_ne,ne_eq]
     intro e
     exact h3 (UInt8.toNat.inj (by omega))
    simp (maxSteps:=9^7) only [go_sem,↓reduceIte,reduceCtorEq,Nat.reduceEqDiff,Nat.reduceBEq,Nat.reduceAdd,Nat.reduceSub,Nat.reduceMul,Nat.reduceLT,Nat.reduceLeDiff,Nat.reduceBNe,Int.reduceBEq,Int.reduceBNe,Int.reduceLT,Int.reduceLE,Spn.a,Msg.a,Eff.a,t0,t1,t5,h1',h2',decide_true,Int.toNat_natCast,h3']
    refine ⟨by omega,by omega,?_⟩
    rw [← hr]
    simp [UInt8.lt_iff_toNat_lt]
  ·have h2':¬ (j:Int) < (b.size:Int):=by omega
   simp (maxSteps:=9^7) only [go_sem,↓reduceIte,reduceCtorEq,Nat.reduceEqDiff,Nat.reduceBEq,Nat.reduceAdd,Nat.reduceSub,Nat.reduceMul,Nat.reduceLT,Nat.reduceLeDiff,Nat.reduceBNe,Int.reduceBEq,Int.reduceBNe,Int.reduceLT,Int.reduceLE,Spn.a,Msg.a,Eff.a,t0,t1,t5,h1',h2',decide_true,decide_false]
   rw [← hr,show j = b.size by omega]
   rw [show b.data.toList.drop b.size = [] by rw [List.drop_eq_nil_of_le (by omega)],kp.less_nil]
   have:¬ (a.size:Int) < b.size:=by omega
   simp [this]
 ·have h1':¬ (j:Int) < (a.size:Int):=by omega
  simp (maxSteps:=9^7) only [go_sem,↓reduceIte,reduceCtorEq,Nat.reduceEqDiff,Nat.reduceBEq,Nat.reduceAdd,Nat.reduceSub,Nat.reduceMul,Nat.reduceLT,Nat.reduceLeDiff,Nat.reduceBNe,Int.reduceBEq,Int.reduceBNe,Int.reduceLT,Int.reduceLE,Spn.a,Msg.a,Eff.a,t0,t1,t5,h1',decide_false]
  have e:j = a.size:=by omega
  subst e
  rw [← hr,show a.data.toList.drop a.size = [] by rw [List.drop_eq_nil_of_le (by omega)]]
  by_cases h2:a.size < b.size
  ·rw [List.drop_eq_getElem_cons (by omega),kp.nil_less]
   simp; omega
  ·rw [List.drop_eq_nil_of_le (by omega),kp.less_nil]
   simp; omega
/-! ### percolate/percolateref02.Has -/
def ztt:Reg:=⟨[],[⟨.box 3 66 (.t 0),some 2,none,[],[]⟩,⟨.mv (.c (.bool false)),some 4,none,[],[]⟩],[2],[],false⟩
def zfx:List ROp:=[⟨.mv (.t 1),some 5,none,[8,17],[]⟩,⟨.faddr 0 (.t 2),some 6,none,[8,17],[]⟩,⟨.load 1 false (.t 6),some 7,none,[8,17],[]⟩,⟨.callv (.c (.clo 73 [] [])) [(.t 5),(.t 7)],some 8,none,[17],[]⟩,⟨.un .not (.t 8),some 9,none,[17],[]⟩,⟨.mv (.t 9),some 10,none,[17],[]⟩,⟨.faddr 2 (.t 2),some 11,(some (10,true)),[17],[]⟩,⟨.load 1 false (.t 11),some 12,(some (10,true)),[17],[]⟩,⟨.mv (.t 12),some 13,(some (10,true)),[17],[]⟩,⟨.mv (.t 1),some 14,(some (13,false)),[17],[]⟩,⟨.faddr 1 (.t 2),some 15,(some (13,false)),[17],[]⟩,⟨.load 1 false (.t 15),some 16,(some (13,false)),[17],[]⟩,⟨.callv (.c (.clo 73 [] [])) [(.t 14),(.t 16)],some 17,(some (13,false)),[],[]⟩,⟨.pick (.t 13) (.c (.bool true)) (.t 17),some 18,(some (10,true)),[],[]⟩,⟨.pick (.t 10) (.t 18) (.c (.bool false)),some 19,none,[],[]⟩,⟨.mv (.t 19),some 4,none,[],[]⟩]
def zts:Reg:=⟨[],zfx,[8,17],[],false⟩
def ir_rHas:IR:=(.seq (.reg ztt)
 (.seq (.reg zts)
 .ret))
def zsa:List RDesc:=[(.tmp 4)]
theorem e_rHas_0:EqR ztt [⟨.box 3 66 (.t 0),some 2,none,[],[]⟩,⟨.mv (.c (.bool false)),some 4,none,[],[]⟩] [2]:=fun _ _ _=>rfl
theorem e_rHas_1:EqR zts zfx [8,17]:=fun _ _ _=>rfl
theorem fn_rHas {args:List AV} {r:AV} (ha:args.length.ble Try.f56.ntmps = true) (h:run (AFn Try.prog) ir_rHas (endQ zsa r) (z0b args)):AFn Try.prog 56 args r :=
 AFn.of_code (pv:=false) (hint:=fun _=>[]) (c:=Try.f56.body.getD .skip) (by kernel_rfl) (by kernel_rfl) Try.func56 (by kernel_rfl) (by kernel_rfl) (by kernel_rfl) (of_decide_eq_true (by kernel_rfl)) (Nat.le_of_ble_eq_true ha) (Nat.le_of_ble_eq_true (by kernel_rfl)) (z09 h)
/-! ### percolate/percolateref02.Empty -/
/-! ### percolate/percolateref05.Span -/
def zae:List ROp:=[⟨.box 6 70 (.t 0),some 1,none,[2],[]⟩,⟨.alloc 3 66 (.agg [(.str ⟨#[]⟩),(.str ⟨#[]⟩),(.bool false)]),some 2,none,[],[]⟩]
def zjz:Reg:=⟨[],zae,[1,2],[],false⟩
def zad:List ROp:=[⟨.faddr 1 (.t 1),some 3,none,[],[]⟩,⟨.load 1 false (.t 3),some 4,none,[],[]⟩,⟨.bin .eql (.t 4) (.c (.int .i64 4)),some 5,none,[],[]⟩]
def zjy:Reg:=⟨[],zad,[],[],false⟩
def zac:List ROp:=[⟨.faddr 2 (.t 1),some 6,none,[],[]⟩,⟨.load 1 false (.t 6),some 7,none,[],[]⟩,⟨.faddr 3 (.t 1),some 8,none,[],[]⟩,⟨.load 1 false (.t 8),some 9,none,[],[]⟩,⟨.faddr 4 (.t 1),some 10,none,[],[]⟩,⟨.load 1 false (.t 10),some 11,none,[],[]⟩,⟨.bld [(.str ⟨#[]⟩),(.str ⟨#[]⟩),(.bool false)] [⟨0,1,(.t 7)⟩,⟨1,1,(.t 9)⟩,⟨2,1,(.t 11)⟩],some 12,none,[],[]⟩,⟨.store 3 (.t 2) (.t 12),none,none,[],[]⟩]
def zjx:Reg:=⟨[],zac,[],[],false⟩
def zab:List ROp:=[⟨.faddr 2 (.t 1),some 13,none,[],[]⟩,⟨.load 1 false (.t 13),some 14,none,[],[]⟩,⟨.faddr 2 (.t 1),some 15,none,[],[]⟩,⟨.load 1 false (.t 15),some 16,none,[],[]⟩,⟨.bin .add (.t 16) (.c (.str ⟨#[0]⟩)),some 17,none,[],[]⟩,⟨.bld [(.str ⟨#[]⟩),(.str ⟨#[]⟩),(.bool false)] [⟨0,1,(.t 14)⟩,⟨1,1,(.t 17)⟩],some 18,none,[],[]⟩,⟨.store 3 (.t 2) (.t 18),none,none,[],[]⟩]
def zjw:Reg:=⟨[],zab,[],[],false⟩
def zxj:IR:=(.seq (.reg zjz)
 (.seq (.seq (.reg zjy)
 (.cond (.t 5) (.seq (.reg zjx)
 .ret)
 .skip))
 (.seq (.reg zjw)
 .ret)))
def ziv:List RDesc:=[(.cell 2 3 true)]
theorem e_rSpan_0:EqR zjz zae [1,2]:=fun _ _ _=>rfl
theorem e_rSpan_1:EqR zjy zad []:=fun _ _ _=>rfl
theorem e_rSpan_2:EqR zjx zac []:=fun _ _ _=>rfl
theorem e_rSpan_3:EqR zjw zab []:=fun _ _ _=>rfl
theorem fn_rSpan {args:List AV} {r:AV} (ha:args.length.ble Try.f59.ntmps = true) (h:run (AFn Try.prog) zxj (endQ ziv r) (z0b args)):AFn Try.prog 59 args r :=
 AFn.of_code (pv:=false) (hint:=fun _=>[]) (c:=Try.f59.body.getD .skip) (by kernel_rfl) (by kernel_rfl) Try.func59 (by kernel_rfl) (by kernel_rfl) (by kernel_rfl) (of_decide_eq_true (by kernel_rfl)) (Nat.le_of_ble_eq_true ha) (Nat.le_of_ble_eq_true (by kernel_rfl)) (z09 h)
attribute [local go_sem ↓] ir_rHas
attribute [local go_sem] zsa e_rHas_0 e_rHas_1 zfx
attribute [local go_sem ↓] zxj
attribute [local go_sem] ziv e_rSpan_0 zae e_rSpan_1 zad e_rSpan_2 zac e_rSpan_3 zab
def SOk (s:Spn):Prop:=s.lo.size≤9223372036854775807∧s.hi.size≤9223372036854775807
theorem has_lo (s:Spn):(!s.has s.lo) = s.empty:=by
 have:lt s.lo s.lo = false:=kp.less_irrefl _
 simp [Spn.has,Spn.empty,this]
theorem zss (s:Spn) (k:ByteArray) (hs:SOk s) (hk:k.size≤9223372036854775807):AFn Try.prog 56 [s.a,.str k] (.bool (s.has k)):=by
 refine fn_rHas rfl ?_
 simp (maxSteps:=9^7) only [go_sem,↓reduceIte,reduceCtorEq,Nat.reduceEqDiff,Nat.reduceBEq,Nat.reduceAdd,Nat.reduceSub,Nat.reduceMul,Nat.reduceLT,Nat.reduceLeDiff,Nat.reduceBNe,Int.reduceBEq,Int.reduceBNe,Int.reduceLT,Int.reduceLE,Spn.a,Msg.a,Eff.a]
 (first | refine z01 (z72 k s.lo hk hs.1) ?_ | refine z00 (z72 k s.lo hk hs.1) ?_)
 cases h1:lt k s.lo with
 | true =>
  simp (maxSteps:=9^7) only [go_sem,↓reduceIte,reduceCtorEq,Nat.reduceEqDiff,Nat.reduceBEq,Nat.reduceAdd,Nat.reduceSub,Nat.reduceMul,Nat.reduceLT,Nat.reduceLeDiff,Nat.reduceBNe,Int.reduceBEq,Int.reduceBNe,Int.reduceLT,Int.reduceLE,Spn.a,Msg.a,Eff.a]
  simp [Spn.has,h1]
 | false =>
  cases h2:s.op with
  | true =>
   simp (maxSteps:=9^7) only [go_sem,↓reduceIte,reduceCtorEq,Nat.reduceEqDiff,Nat.reduceBEq,Nat.reduceAdd,Nat.reduceSub,Nat.reduceMul,Nat.reduceLT,Nat.reduceLeDiff,Nat.reduceBNe,Int.reduceBEq,Int.reduceBNe,Int.reduceLT,Int.reduceLE,Spn.a,Msg.a,Eff.a,h2]
   simp [Spn.has,h1,h2]
  | false =>
   simp (maxSteps:=9^7) only [go_sem,↓reduceIte,reduceCtorEq,Nat.reduceEqDiff,Nat.reduceBEq,Nat.reduceAdd,Nat.reduceSub,Nat.reduceMul,Nat.reduceLT,Nat.reduceLeDiff,Nat.reduceBNe,Int.reduceBEq,Int.reduceBNe,Int.reduceLT,Int.reduceLE,Spn.a,Msg.a,Eff.a,h2]
   (first | refine z01 (z72 k s.hi hk hs.2) ?_ | refine z00 (z72 k s.hi hk hs.2) ?_)
   simp (maxSteps:=9^7) only [go_sem,↓reduceIte,reduceCtorEq,Nat.reduceEqDiff,Nat.reduceBEq,Nat.reduceAdd,Nat.reduceSub,Nat.reduceMul,Nat.reduceLT,Nat.reduceLeDiff,Nat.reduceBNe,Int.reduceBEq,Int.reduceBNe,Int.reduceLT,Int.reduceLE,Spn.a,Msg.a,Eff.a,h2]
   simp [Spn.has,h1,h2]
theorem zpr (m:Msg) (hk:m.key.size≤9223372036854775806):AFn Try.prog 59 [m.a] m.span.a:=by
 refine fn_rSpan rfl ?_
 cases h:(m.kind == 4) with
 | true =>
  have h':m.kind = 4:=by simpa using h
  simp (maxSteps:=9^7) only [go_sem,↓reduceIte,reduceCtorEq,Nat.reduceEqDiff,Nat.reduceBEq,Nat.reduceAdd,Nat.reduceSub,Nat.reduceMul,Nat.reduceLT,Nat.reduceLeDiff,Nat.reduceBNe,Int.reduceBEq,Int.reduceBNe,Int.reduceLT,Int.reduceLE,Spn.a,Msg.a,Eff.a,h]
  simp [Msg.span,h']
 | false =>
  have h':m.kind ≠ 4:=by simpa using h
  simp (maxSteps:=9^7) only [go_sem,↓reduceIte,reduceCtorEq,Nat.reduceEqDiff,Nat.reduceBEq,Nat.reduceAdd,Nat.reduceSub,Nat.reduceMul,Nat.reduceLT,Nat.reduceLeDiff,Nat.reduceBNe,Int.reduceBEq,Int.reduceBNe,Int.reduceLT,Int.reduceLE,Spn.a,Msg.a,Eff.a,h]
  simp [Msg.span,h',z1v]
  first | (show m.key.size + 1≤_; omega) | omega
end
section
/-
 The document's messages on the plain machine: may they be,are they few.
-/
open Go.RowKit
abbrev nilS (s:ByteArray):Bool:=s.toList == (ByteArray.mk #[]).toList
def Msg.right (m : Msg) : Bool := decide (1 ≤ m.stamp) && decide (m.key.size ≤ 16) && decide (m.val.size ≤ 16) && decide (m.hi.size ≤ 16) &&
  (if m.kind = 4 then nilS m.val && (!m.op || nilS m.hi) && !m.span.empty
   else nilS m.hi && !m.op && ((m.kind == 1) || (m.kind == 2) || ((m.kind == 3) && nilS m.val)))
theorem zpe {m:Msg} {n:Nat} (h1:m.key.size + 1≤9223372036854775807) (h2:m.hi.size≤9223372036854775807):SOk m.span:=by
 unfold Msg.span SOk z1v
 split
 ·exact ⟨by show m.key.size≤_; omega,h2⟩
 ·refine ⟨by show m.key.size≤_; omega,?_⟩
  show (m.key ++ ⟨#[0]⟩).size≤_
  rw [ByteArray.size_append]
  exact h1
/-! ### Few,All -/
def Msg.bulk (m:Msg):Nat:=1 + m.key.size + m.hi.size + m.val.size
def z7f:List Msg->Bool
 | []=>true
 | m :: l=>m.right && (match l with | []=>true | x :: _=>decide (m.stamp < x.stamp)) && z7f l
end
section
/-
 The data of the trees: messages,pairs,nodes,latches; and that what came in of their types is such.
-/
open Go.RowKit
theorem z0c {T:Ty} {fs:List Ty} {ds:List AV} (h:TypedC (.st (T :: fs)) ds):∃ c r,ds = c ++ r∧TypedC T c∧TypedC (.st fs) r:=by
 cases h with
 | cons h1 h2=>exact ⟨_,_,rfl,h1,h2⟩
theorem z7l {ds:List AV} (h:TypedC (.st []) ds):ds = []:=by cases h; rfl
theorem z0j {ds:List AV} (h:TypedC (.int .i64) ds):∃ n,ds = [.int .i64 n]∧-9223372036854775808≤n∧n≤9223372036854775807:=by
 cases h with
 | int k n h=>exact ⟨n,rfl,bounds_i64 h⟩
theorem z3g {ds:List AV} (h:TypedC .str ds):∃ s,ds = [.str s]∧s.size≤281474976710656:=by
 cases h with
 | str s h=>exact ⟨s,rfl,h⟩
theorem z6l {ds:List AV} (h:TypedC .bool ds):∃ b,ds = [.bool b]:=by
 cases h with
 | bool b=>exact ⟨b,rfl⟩
theorem zif {α:Type} (f:α->AV) (ok:α->Prop) {T:Ty} {ds:List AV} (h:TypedC (.sl T) ds) (hel:∀ c,TypedC T c->∃ a,zd9 T c = f a∧ok a):∃ l:List α,ds = [.sl (l.map f)]∧l.length≤281474976710656∧∀ a,a ∈ l->ok a:=by
 cases h with
 | sl T ls hlen h =>
  have:∃ l:List α,ls.map (zd9 T) = l.map f∧l.length = ls.length∧∀ a,a ∈ l->ok a:=by
   clear hlen
   induction ls with
   | nil=>exact ⟨[],rfl,rfl,fun a ha=>by cases ha⟩
   | cons c ls ih =>
    obtain ⟨l,h1,h2,h3⟩:=ih fun x hx=>h x (List.mem_cons_of_mem _ hx)
    obtain ⟨a,ha,hok⟩:=hel c (h c (List.mem_cons_self ..))
    refine ⟨a :: l,by rw [List.map_cons,List.map_cons,h1,ha],by rw [List.length_cons,List.length_cons,h2],fun b hb=>?_⟩
    rcases List.mem_cons.1 hb with rfl | hb
    ·exact hok
    ·exact h3 b hb
  obtain ⟨l,h1,h2,h3⟩:=this
  exact ⟨l,by rw [h1],by omega,h3⟩
structure Msg.ok (x:Msg):Prop where
 stamp:(-9223372036854775808≤x.stamp∧x.stamp≤9223372036854775807)
 kind:(-9223372036854775808≤x.kind∧x.kind≤9223372036854775807)
 key:x.key.size≤281474976710656
 hi:x.hi.size≤281474976710656
 op:True
 val:x.val.size≤281474976710656
def MsgT:Ty:=.st [.int .i64,.int .i64,.str,.str,.bool,.str]
theorem Msg.of {c:List AV} (h:TypedC MsgT c):∃ x:Msg,AV.agg c = x.a∧x.ok:=by
 obtain ⟨c0,r0,rfl,h0,h⟩:=z0c h
 obtain ⟨c1,r1,rfl,h1,h⟩:=z0c h
 obtain ⟨c2,r2,rfl,h2,h⟩:=z0c h
 obtain ⟨c3,r3,rfl,h3,h⟩:=z0c h
 obtain ⟨c4,r4,rfl,h4,h⟩:=z0c h
 obtain ⟨c5,r5,rfl,h5,h⟩:=z0c h
 obtain rfl:=z7l h
 obtain ⟨v0,rfl,b0⟩:=z0j h0
 obtain ⟨v1,rfl,b1⟩:=z0j h1
 obtain ⟨v2,rfl,b2⟩:=z3g h2
 obtain ⟨v3,rfl,b3⟩:=z3g h3
 obtain ⟨v4,rfl⟩:=z6l h4
 have b4:=True.intro
 obtain ⟨v5,rfl,b5⟩:=z3g h5
 exact ⟨⟨v0,v1,v2,v3,v4,v5⟩,rfl,⟨b0,b1,b2,b3,b4,b5⟩⟩
structure Par where
 key:ByteArray
 val:ByteArray
def Par.a (x:Par):AV:=.agg [.str x.key,.str x.val]
structure Par.ok (x:Par):Prop where
 key:x.key.size≤281474976710656
 val:x.val.size≤281474976710656
def ParT:Ty:=.st [.str,.str]
theorem Par.of {c:List AV} (h:TypedC ParT c):∃ x:Par,AV.agg c = x.a∧x.ok:=by
 obtain ⟨c0,r0,rfl,h0,h⟩:=z0c h
 obtain ⟨c1,r1,rfl,h1,h⟩:=z0c h
 obtain rfl:=z7l h
 obtain ⟨v0,rfl,b0⟩:=z3g h0
 obtain ⟨v1,rfl,b1⟩:=z3g h1
 exact ⟨⟨v0,v1⟩,rfl,⟨b0,b1⟩⟩
structure Nd where
 slot:Int
 level:Int
 pivots:List ByteArray
 kids:List Int
 high:ByteArray
 top:Bool
 right:Int
 seen:Int
 msgs:List Msg
 rows:List Par
def Nd.a (x:Nd):AV:=.agg [.int .i64 x.slot,.int .i64 x.level,.sl (x.pivots.map AV.str),.sl (x.kids.map (AV.int .i64)),.str x.high,.bool x.top,.int .i64 x.right,.int .i64 x.seen,.sl (x.msgs.map Msg.a),.sl (x.rows.map Par.a)]
structure Nd.ok (x:Nd):Prop where
 slot:(-9223372036854775808≤x.slot∧x.slot≤9223372036854775807)
 level:(-9223372036854775808≤x.level∧x.level≤9223372036854775807)
 pivots:(x.pivots.length≤281474976710656∧∀ z,z ∈ x.pivots->z.size≤281474976710656)
 kids:(x.kids.length≤281474976710656∧∀ z,z ∈ x.kids->(-9223372036854775808≤z∧z≤9223372036854775807))
 high:x.high.size≤281474976710656
 top:True
 right:(-9223372036854775808≤x.right∧x.right≤9223372036854775807)
 seen:(-9223372036854775808≤x.seen∧x.seen≤9223372036854775807)
 msgs:(x.msgs.length≤281474976710656∧∀ z,z ∈ x.msgs->z.ok)
 rows:(x.rows.length≤281474976710656∧∀ z,z ∈ x.rows->z.ok)
def NdT:Ty:=.st [.int .i64,.int .i64,.sl (.str),.sl (.int .i64),.str,.bool,.int .i64,.int .i64,.sl MsgT,.sl ParT]
theorem Nd.of {c:List AV} (h:TypedC NdT c):∃ x:Nd,AV.agg c = x.a∧x.ok:=by
 obtain ⟨c0,r0,rfl,h0,h⟩:=z0c h
 obtain ⟨c1,r1,rfl,h1,h⟩:=z0c h
 obtain ⟨c2,r2,rfl,h2,h⟩:=z0c h
 obtain ⟨c3,r3,rfl,h3,h⟩:=z0c h
 obtain ⟨c4,r4,rfl,h4,h⟩:=z0c h
 obtain ⟨c5,r5,rfl,h5,h⟩:=z0c h
 obtain ⟨c6,r6,rfl,h6,h⟩:=z0c h
 obtain ⟨c7,r7,rfl,h7,h⟩:=z0c h
 obtain ⟨c8,r8,rfl,h8,h⟩:=z0c h
 obtain ⟨c9,r9,rfl,h9,h⟩:=z0c h
 obtain rfl:=z7l h
 obtain ⟨v0,rfl,b0⟩:=z0j h0
 obtain ⟨v1,rfl,b1⟩:=z0j h1
 obtain ⟨v2,rfl,b2⟩:=zif AV.str (fun z:ByteArray=>z.size≤281474976710656) h2 (fun c hc=>by obtain ⟨v,rfl,b⟩:=z3g hc; exact ⟨v,rfl,b⟩)
 obtain ⟨v3,rfl,b3⟩:=zif (AV.int .i64) (fun z:Int=>-9223372036854775808≤z∧z≤9223372036854775807) h3 (fun c hc=>by obtain ⟨v,rfl,b⟩:=z0j hc; exact ⟨v,rfl,b⟩)
 obtain ⟨v4,rfl,b4⟩:=z3g h4
 obtain ⟨v5,rfl⟩:=z6l h5
 have b5:=True.intro
 obtain ⟨v6,rfl,b6⟩:=z0j h6
 obtain ⟨v7,rfl,b7⟩:=z0j h7
 obtain ⟨v8,rfl,b8⟩:=zif Msg.a Msg.ok h8 (fun c hc=>Msg.of hc)
 obtain ⟨v9,rfl,b9⟩:=zif Par.a Par.ok h9 (fun c hc=>Par.of hc)
 exact ⟨⟨v0,v1,v2,v3,v4,v5,v6,v7,v8,v9⟩,rfl,⟨b0,b1,b2,b3,b4,b5,b6,b7,b8,b9⟩⟩
structure Hld where
 thread:Int
 slot:Int
 wr:Bool
def Hld.a (x:Hld):AV:=.agg [.int .i64 x.thread,.int .i64 x.slot,.bool x.wr]
structure Hld.ok (x:Hld):Prop where
 thread:(-9223372036854775808≤x.thread∧x.thread≤9223372036854775807)
 slot:(-9223372036854775808≤x.slot∧x.slot≤9223372036854775807)
 wr:True
def HldT:Ty:=.st [.int .i64,.int .i64,.bool]
theorem Hld.of {c:List AV} (h:TypedC HldT c):∃ x:Hld,AV.agg c = x.a∧x.ok:=by
 obtain ⟨c0,r0,rfl,h0,h⟩:=z0c h
 obtain ⟨c1,r1,rfl,h1,h⟩:=z0c h
 obtain ⟨c2,r2,rfl,h2,h⟩:=z0c h
 obtain rfl:=z7l h
 obtain ⟨v0,rfl,b0⟩:=z0j h0
 obtain ⟨v1,rfl,b1⟩:=z0j h1
 obtain ⟨v2,rfl⟩:=z6l h2
 have b2:=True.intro
 exact ⟨⟨v0,v1,v2⟩,rfl,⟨b0,b1,b2⟩⟩
structure Cfg where
 fanout:Int
 leaf:Int
 budget:Int
 slots:Int
 restarts:Int
def Cfg.a (x:Cfg):AV:=.agg [.int .i64 x.fanout,.int .i64 x.leaf,.int .i64 x.budget,.int .i64 x.slots,.int .i64 x.restarts]
structure Cfg.ok (x:Cfg):Prop where
 fanout:(-9223372036854775808≤x.fanout∧x.fanout≤9223372036854775807)
 leaf:(-9223372036854775808≤x.leaf∧x.leaf≤9223372036854775807)
 budget:(-9223372036854775808≤x.budget∧x.budget≤9223372036854775807)
 slots:(-9223372036854775808≤x.slots∧x.slots≤9223372036854775807)
 restarts:(-9223372036854775808≤x.restarts∧x.restarts≤9223372036854775807)
def CfgT:Ty:=.st [.int .i64,.int .i64,.int .i64,.int .i64,.int .i64]
theorem Cfg.of {c:List AV} (h:TypedC CfgT c):∃ x:Cfg,AV.agg c = x.a∧x.ok:=by
 obtain ⟨c0,r0,rfl,h0,h⟩:=z0c h
 obtain ⟨c1,r1,rfl,h1,h⟩:=z0c h
 obtain ⟨c2,r2,rfl,h2,h⟩:=z0c h
 obtain ⟨c3,r3,rfl,h3,h⟩:=z0c h
 obtain ⟨c4,r4,rfl,h4,h⟩:=z0c h
 obtain rfl:=z7l h
 obtain ⟨v0,rfl,b0⟩:=z0j h0
 obtain ⟨v1,rfl,b1⟩:=z0j h1
 obtain ⟨v2,rfl,b2⟩:=z0j h2
 obtain ⟨v3,rfl,b3⟩:=z0j h3
 obtain ⟨v4,rfl,b4⟩:=z0j h4
 exact ⟨⟨v0,v1,v2,v3,v4⟩,rfl,⟨b0,b1,b2,b3,b4⟩⟩
structure Gau where
 nodes:Int
 leaves:Int
 height:Int
 rows:Int
 msgs:Int
 bytes:Int
 empty:Int
 levels:List Int
 waits:List Int
def Gau.a (x:Gau):AV:=.agg [.int .i64 x.nodes,.int .i64 x.leaves,.int .i64 x.height,.int .i64 x.rows,.int .i64 x.msgs,.int .i64 x.bytes,.int .i64 x.empty,.sl (x.levels.map (AV.int .i64)),.sl (x.waits.map (AV.int .i64))]
structure Gau.ok (x:Gau):Prop where
 nodes:(-9223372036854775808≤x.nodes∧x.nodes≤9223372036854775807)
 leaves:(-9223372036854775808≤x.leaves∧x.leaves≤9223372036854775807)
 height:(-9223372036854775808≤x.height∧x.height≤9223372036854775807)
 rows:(-9223372036854775808≤x.rows∧x.rows≤9223372036854775807)
 msgs:(-9223372036854775808≤x.msgs∧x.msgs≤9223372036854775807)
 bytes:(-9223372036854775808≤x.bytes∧x.bytes≤9223372036854775807)
 empty:(-9223372036854775808≤x.empty∧x.empty≤9223372036854775807)
 levels:(x.levels.length≤281474976710656∧∀ z,z ∈ x.levels->(-9223372036854775808≤z∧z≤9223372036854775807))
 waits:(x.waits.length≤281474976710656∧∀ z,z ∈ x.waits->(-9223372036854775808≤z∧z≤9223372036854775807))
def GauT:Ty:=.st [.int .i64,.int .i64,.int .i64,.int .i64,.int .i64,.int .i64,.int .i64,.sl (.int .i64),.sl (.int .i64)]
theorem Gau.of {c:List AV} (h:TypedC GauT c):∃ x:Gau,AV.agg c = x.a∧x.ok:=by
 obtain ⟨c0,r0,rfl,h0,h⟩:=z0c h
 obtain ⟨c1,r1,rfl,h1,h⟩:=z0c h
 obtain ⟨c2,r2,rfl,h2,h⟩:=z0c h
 obtain ⟨c3,r3,rfl,h3,h⟩:=z0c h
 obtain ⟨c4,r4,rfl,h4,h⟩:=z0c h
 obtain ⟨c5,r5,rfl,h5,h⟩:=z0c h
 obtain ⟨c6,r6,rfl,h6,h⟩:=z0c h
 obtain ⟨c7,r7,rfl,h7,h⟩:=z0c h
 obtain ⟨c8,r8,rfl,h8,h⟩:=z0c h
 obtain rfl:=z7l h
 obtain ⟨v0,rfl,b0⟩:=z0j h0
 obtain ⟨v1,rfl,b1⟩:=z0j h1
 obtain ⟨v2,rfl,b2⟩:=z0j h2
 obtain ⟨v3,rfl,b3⟩:=z0j h3
 obtain ⟨v4,rfl,b4⟩:=z0j h4
 obtain ⟨v5,rfl,b5⟩:=z0j h5
 obtain ⟨v6,rfl,b6⟩:=z0j h6
 obtain ⟨v7,rfl,b7⟩:=zif (AV.int .i64) (fun z:Int=>-9223372036854775808≤z∧z≤9223372036854775807) h7 (fun c hc=>by obtain ⟨v,rfl,b⟩:=z0j hc; exact ⟨v,rfl,b⟩)
 obtain ⟨v8,rfl,b8⟩:=zif (AV.int .i64) (fun z:Int=>-9223372036854775808≤z∧z≤9223372036854775807) h8 (fun c hc=>by obtain ⟨v,rfl,b⟩:=z0j hc; exact ⟨v,rfl,b⟩)
 exact ⟨⟨v0,v1,v2,v3,v4,v5,v6,v7,v8⟩,rfl,⟨b0,b1,b2,b3,b4,b5,b6,b7,b8⟩⟩
/-- an element's place,a number's next -/
theorem z1b {α:Type} {f:α->AV} {l:List α} {j:Nat} {x:α} (h:l[j]? = some x):(l.map f).getD j .und = f x:=by
 rw [List.getD_eq_getElem?_getD,List.getElem?_map,h]; rfl
theorem z1w {α:Type} {l:List α} {j:Nat} (h:j < l.length):∃ x,l[j]? = some x:=⟨_,List.getElem?_eq_getElem h⟩
theorem z5s {j:Nat} (h:j≤1000000000000000):IntKind.i64.wrap ((j:Int) + 1) = ((j + 1:Nat):Int):=by rw [IntWalk.i64_in _ (by omega)]; rfl
theorem z9b {α:Type} {l:List α} {j:Nat} {x:α} (h:l[j]? = some x):l.drop j = x :: l.drop (j + 1):=by
 obtain ⟨hlt,e⟩:=List.getElem?_eq_some_iff.1 h
 rw [List.drop_eq_getElem_cons hlt,e]
end
section
/-
 Operations,answers,events: as plain data,and what came in of their types is such.
-/
open Go.RowKit
def nul:ByteArray:=⟨#[]⟩
structure Opr where
 kind:Int
 key:ByteArray
 hi:ByteArray
 op:Bool
 val:ByteArray
 lim:Int
def Opr.a (o:Opr):AV:=.agg [.int .i64 o.kind,.str o.key,.str o.hi,.bool o.op,.str o.val,.int .i64 o.lim]
def Opr.zero:Opr:=⟨0,⟨#[]⟩,⟨#[]⟩,false,⟨#[]⟩,0⟩
structure Ans where
 err:Int
 has:Bool
 val:ByteArray
 prs:List Par
def Ans.a (x:Ans):AV:=.agg [.int .i64 x.err,.bool x.has,.str x.val,.sl (x.prs.map Par.a)]
def Ans.zero:Ans:=⟨0,false,nul,[]⟩
structure Evt where
 client:Int
 op:Opr
 ans:Ans
 began:Int
 point:Int
 ended:Int
 done:Bool
def Evt.a (x:Evt):AV:=.agg [.int .i64 x.client,.int .i64 x.op.kind,.str x.op.key,.str x.op.hi,.bool x.op.op,.str x.op.val,.int .i64 x.op.lim,.int .i64 x.ans.err,.bool x.ans.has,.str x.ans.val,.sl (x.ans.prs.map Par.a),.int .i64 x.began,.int .i64 x.point,.int .i64 x.ended,.bool x.done]
def Evt.zero:Evt:=⟨0,Opr.zero,Ans.zero,0,0,0,false⟩
structure Opr.ok (x:Opr):Prop where
 kind:(-9223372036854775808≤x.kind∧x.kind≤9223372036854775807)
 key:x.key.size≤281474976710656
 hi:x.hi.size≤281474976710656
 op:True
 val:x.val.size≤281474976710656
 lim:(-9223372036854775808≤x.lim∧x.lim≤9223372036854775807)
def OprT:Ty:=.st [.int .i64,.str,.str,.bool,.str,.int .i64]
theorem Opr.of {c:List AV} (h:TypedC OprT c):∃ x:Opr,AV.agg c = x.a∧x.ok:=by
 obtain ⟨c0,r0,rfl,h0,h⟩:=z0c h
 obtain ⟨c1,r1,rfl,h1,h⟩:=z0c h
 obtain ⟨c2,r2,rfl,h2,h⟩:=z0c h
 obtain ⟨c3,r3,rfl,h3,h⟩:=z0c h
 obtain ⟨c4,r4,rfl,h4,h⟩:=z0c h
 obtain ⟨c5,r5,rfl,h5,h⟩:=z0c h
 obtain rfl:=z7l h
 obtain ⟨v0,rfl,b0⟩:=z0j h0
 obtain ⟨v1,rfl,b1⟩:=z3g h1
 obtain ⟨v2,rfl,b2⟩:=z3g h2
 obtain ⟨v3,rfl⟩:=z6l h3
 have b3:=True.intro
 obtain ⟨v4,rfl,b4⟩:=z3g h4
 obtain ⟨v5,rfl,b5⟩:=z0j h5
 exact ⟨⟨v0,v1,v2,v3,v4,v5⟩,rfl,⟨b0,b1,b2,b3,b4,b5⟩⟩
structure Ans.ok (x:Ans):Prop where
 err:(-9223372036854775808≤x.err∧x.err≤9223372036854775807)
 has:True
 val:x.val.size≤281474976710656
 prs:(x.prs.length≤281474976710656∧∀ z,z ∈ x.prs->z.ok)
def AnsT:Ty:=.st [.int .i64,.bool,.str,.sl ParT]
theorem Ans.of {c:List AV} (h:TypedC AnsT c):∃ x:Ans,AV.agg c = x.a∧x.ok:=by
 obtain ⟨c0,r0,rfl,h0,h⟩:=z0c h
 obtain ⟨c1,r1,rfl,h1,h⟩:=z0c h
 obtain ⟨c2,r2,rfl,h2,h⟩:=z0c h
 obtain ⟨c3,r3,rfl,h3,h⟩:=z0c h
 obtain rfl:=z7l h
 obtain ⟨v0,rfl,b0⟩:=z0j h0
 obtain ⟨v1,rfl⟩:=z6l h1
 have b1:=True.intro
 obtain ⟨v2,rfl,b2⟩:=z3g h2
 obtain ⟨v3,rfl,b3⟩:=zif Par.a Par.ok h3 (fun c hc=>Par.of hc)
 exact ⟨⟨v0,v1,v2,v3⟩,rfl,⟨b0,b1,b2,b3⟩⟩
structure Evt.ok (x:Evt):Prop where
 client:(-9223372036854775808≤x.client∧x.client≤9223372036854775807)
 op:x.op.ok
 ans:x.ans.ok
 began:(-9223372036854775808≤x.began∧x.began≤9223372036854775807)
 point:(-9223372036854775808≤x.point∧x.point≤9223372036854775807)
 ended:(-9223372036854775808≤x.ended∧x.ended≤9223372036854775807)
 done:True
def EvtT:Ty:=.st [.int .i64,OprT,AnsT,.int .i64,.int .i64,.int .i64,.bool]
theorem Evt.of {c:List AV} (h:TypedC EvtT c):∃ x:Evt,AV.agg c = x.a∧x.ok:=by
 obtain ⟨c0,r0,rfl,h0,h⟩:=z0c h
 obtain ⟨c1,r1,rfl,h1,h⟩:=z0c h
 obtain ⟨c2,r2,rfl,h2,h⟩:=z0c h
 obtain ⟨c3,r3,rfl,h3,h⟩:=z0c h
 obtain ⟨c4,r4,rfl,h4,h⟩:=z0c h
 obtain ⟨c5,r5,rfl,h5,h⟩:=z0c h
 obtain ⟨c6,r6,rfl,h6,h⟩:=z0c h
 obtain rfl:=z7l h
 obtain ⟨v0,rfl,b0⟩:=z0j h0
 obtain ⟨v1,e1,b1⟩:=Opr.of h1
 cases e1
 obtain ⟨v2,e2,b2⟩:=Ans.of h2
 cases e2
 obtain ⟨v3,rfl,b3⟩:=z0j h3
 obtain ⟨v4,rfl,b4⟩:=z0j h4
 obtain ⟨v5,rfl,b5⟩:=z0j h5
 obtain ⟨v6,rfl⟩:=z6l h6
 have b6:=True.intro
 exact ⟨⟨v0,v1,v2,v3,v4,v5,v6⟩,rfl,⟨b0,b1,b2,b3,b4,b5,b6⟩⟩
end
section
/-
 Layer 7 on the plain machine: operations: whether they may be,their spans.
-/
open Go.RowKit
attribute [local go_sem ↓] z0s z0g
structure OSpn where
 lo:ByteArray
 hi:ByteArray
 op:Bool
def OSpn.a (s:OSpn):AV:=.agg [.str s.lo,.str s.hi,.bool s.op]
def nextB (k:ByteArray):ByteArray:=k ++ ⟨#[0]⟩
def Opr.ranged (o:Opr):Bool:=o.kind == 4 || o.kind == 6
def Opr.valued (o:Opr):Bool:=o.kind == 1 || o.kind == 2
def Opr.span (o:Opr):OSpn:=if o.ranged then ⟨o.key,o.hi,o.op⟩ else ⟨o.key,nextB o.key,false⟩
def leB (x y:ByteArray):Bool:=Op.bytesLess x.toList y.toList
def OSpn.empty (s:OSpn):Bool:=!s.op && !leB s.lo s.hi
def nilB (s:ByteArray):Bool:=s.toList == nul.toList
/-- no byte,or so many -/
def Opr.right (o:Opr):Bool :=
 decide (1≤o.kind) && decide (o.kind≤6) && decide ((o.key.size:Int)≤16) && decide ((o.hi.size:Int)≤16) && decide ((o.val.size:Int)≤16) &&
 (o.valued || nilB o.val) && (!o.op || nilB o.hi) && (if o.ranged then !(OSpn.empty ⟨o.key,o.hi,o.op⟩) else nilB o.hi && !o.op) &&
 (if o.kind == 6 then decide (1≤o.lim) && decide (o.lim≤64) else o.lim == 0)
/-! ### percolate/op.valued -/
def zdu:Reg:=⟨[],[⟨.box 6 26 (.t 0),some 1,none,[],[]⟩,⟨.mv (.c (.bool false)),some 2,none,[],[]⟩],[1],[],false⟩
def z83:List ROp:=[⟨.faddr 0 (.t 1),some 3,none,[],[]⟩,⟨.load 1 false (.t 3),some 4,none,[],[]⟩,⟨.bin .eql (.t 4) (.c (.int .i64 1)),some 5,none,[],[]⟩,⟨.mv (.t 5),some 6,none,[],[]⟩,⟨.faddr 0 (.t 1),some 7,(some (6,false)),[],[]⟩,⟨.load 1 false (.t 7),some 8,(some (6,false)),[],[]⟩,⟨.bin .eql (.t 8) (.c (.int .i64 2)),some 9,(some (6,false)),[],[]⟩,⟨.pick (.t 6) (.c (.bool true)) (.t 9),some 10,none,[],[]⟩,⟨.mv (.t 10),some 2,none,[],[]⟩]
def zdt:Reg:=⟨[],z83,[],[],false⟩
def zlx:IR:=(.seq (.reg zdu)
 (.seq (.reg zdt)
 .ret))
def zdn:List RDesc:=[(.tmp 2)]
theorem e_valued_0:EqR zdu [⟨.box 6 26 (.t 0),some 1,none,[],[]⟩,⟨.mv (.c (.bool false)),some 2,none,[],[]⟩] [1]:=fun _ _ _=>rfl
theorem e_valued_1:EqR zdt z83 []:=fun _ _ _=>rfl
theorem fn_valued {args:List AV} {r:AV} (ha:args.length.ble Try.f62.ntmps = true) (h:run (AFn Try.prog) zlx (endQ zdn r) (z0b args)):AFn Try.prog 62 args r :=
 AFn.of_code (pv:=false) (hint:=fun _=>[]) (c:=Try.f62.body.getD .skip) (by kernel_rfl) (by kernel_rfl) Try.func62 (by kernel_rfl) (by kernel_rfl) (by kernel_rfl) (of_decide_eq_true (by kernel_rfl)) (Nat.le_of_ble_eq_true ha) (Nat.le_of_ble_eq_true (by kernel_rfl)) (z09 h)
/-! ### percolate/op.ranged -/
def ze1:Reg:=⟨[],[⟨.box 6 26 (.t 0),some 1,none,[],[]⟩,⟨.mv (.c (.bool false)),some 2,none,[],[]⟩],[1],[],false⟩
def z86:List ROp:=[⟨.faddr 0 (.t 1),some 3,none,[],[]⟩,⟨.load 1 false (.t 3),some 4,none,[],[]⟩,⟨.bin .eql (.t 4) (.c (.int .i64 4)),some 5,none,[],[]⟩,⟨.mv (.t 5),some 6,none,[],[]⟩,⟨.faddr 0 (.t 1),some 7,(some (6,false)),[],[]⟩,⟨.load 1 false (.t 7),some 8,(some (6,false)),[],[]⟩,⟨.bin .eql (.t 8) (.c (.int .i64 6)),some 9,(some (6,false)),[],[]⟩,⟨.pick (.t 6) (.c (.bool true)) (.t 9),some 10,none,[],[]⟩,⟨.mv (.t 10),some 2,none,[],[]⟩]
def ze0:Reg:=⟨[],z86,[],[],false⟩
def zm0:IR:=(.seq (.reg ze1)
 (.seq (.reg ze0)
 .ret))
def zdq:List RDesc:=[(.tmp 2)]
theorem e_ranged_0:EqR ze1 [⟨.box 6 26 (.t 0),some 1,none,[],[]⟩,⟨.mv (.c (.bool false)),some 2,none,[],[]⟩] [1]:=fun _ _ _=>rfl
theorem e_ranged_1:EqR ze0 z86 []:=fun _ _ _=>rfl
theorem fn_ranged {args:List AV} {r:AV} (ha:args.length.ble Try.f63.ntmps = true) (h:run (AFn Try.prog) zm0 (endQ zdq r) (z0b args)):AFn Try.prog 63 args r :=
 AFn.of_code (pv:=false) (hint:=fun _=>[]) (c:=Try.f63.body.getD .skip) (by kernel_rfl) (by kernel_rfl) Try.func63 (by kernel_rfl) (by kernel_rfl) (by kernel_rfl) (of_decide_eq_true (by kernel_rfl)) (Nat.le_of_ble_eq_true ha) (Nat.le_of_ble_eq_true (by kernel_rfl)) (z09 h)
/-! ### percolate/key.Right -/
def zvl:Reg:=⟨[],[⟨.mv (.c (.bool false)),some 2,none,[],[]⟩],[],[],false⟩
def zgr:List ROp:=[⟨.mv (.t 0),some 3,none,[],[]⟩,⟨.len true (.t 3),some 4,none,[],[]⟩,⟨.bin .leq (.t 4) (.c (.int .i64 16)),some 5,none,[],[]⟩,⟨.mv (.t 5),some 2,none,[],[]⟩]
def zvk:Reg:=⟨[],zgr,[],[],false⟩
def ir_keyR:IR:=(.seq (.reg zvl)
 (.seq (.reg zvk)
 .ret))
def zsj:List RDesc:=[(.tmp 2)]
theorem e_keyR_0:EqR zvl [⟨.mv (.c (.bool false)),some 2,none,[],[]⟩] []:=fun _ _ _=>rfl
theorem e_keyR_1:EqR zvk zgr []:=fun _ _ _=>rfl
theorem fn_keyR {args:List AV} {r:AV} (ha:args.length.ble Try.f60.ntmps = true) (h:run (AFn Try.prog) ir_keyR (endQ zsj r) (z0b args)):AFn Try.prog 60 args r :=
 AFn.of_code (pv:=false) (hint:=fun _=>[]) (c:=Try.f60.body.getD .skip) (by kernel_rfl) (by kernel_rfl) Try.func60 (by kernel_rfl) (by kernel_rfl) (by kernel_rfl) (of_decide_eq_true (by kernel_rfl)) (Nat.le_of_ble_eq_true ha) (Nat.le_of_ble_eq_true (by kernel_rfl)) (z09 h)
/-! ### percolate/value.Right -/
def zsv:Reg:=⟨[],[⟨.mv (.c (.bool false)),some 2,none,[],[]⟩],[],[],false⟩
def zfr:List ROp:=[⟨.mv (.t 0),some 3,none,[],[]⟩,⟨.len true (.t 3),some 4,none,[],[]⟩,⟨.bin .leq (.t 4) (.c (.int .i64 16)),some 5,none,[],[]⟩,⟨.mv (.t 5),some 2,none,[],[]⟩]
def zsu:Reg:=⟨[],zfr,[],[],false⟩
def ir_valR:IR:=(.seq (.reg zsv)
 (.seq (.reg zsu)
 .ret))
def zs5:List RDesc:=[(.tmp 2)]
theorem e_valR_0:EqR zsv [⟨.mv (.c (.bool false)),some 2,none,[],[]⟩] []:=fun _ _ _=>rfl
theorem e_valR_1:EqR zsu zfr []:=fun _ _ _=>rfl
theorem fn_valR {args:List AV} {r:AV} (ha:args.length.ble Try.f61.ntmps = true) (h:run (AFn Try.prog) ir_valR (endQ zs5 r) (z0b args)):AFn Try.prog 61 args r :=
 AFn.of_code (pv:=false) (hint:=fun _=>[]) (c:=Try.f61.body.getD .skip) (by kernel_rfl) (by kernel_rfl) Try.func61 (by kernel_rfl) (by kernel_rfl) (by kernel_rfl) (of_decide_eq_true (by kernel_rfl)) (Nat.le_of_ble_eq_true ha) (Nat.le_of_ble_eq_true (by kernel_rfl)) (z09 h)
/-! ### percolate/span.Empty -/
def zdz:Reg:=⟨[],[⟨.box 3 66 (.t 0),some 1,none,[],[]⟩,⟨.mv (.c (.bool false)),some 2,none,[],[]⟩],[1],[],false⟩
def z85:List ROp:=[⟨.faddr 2 (.t 1),some 3,none,[],[]⟩,⟨.load 1 false (.t 3),some 4,none,[],[]⟩,⟨.un .not (.t 4),some 5,none,[],[]⟩,⟨.mv (.t 5),some 6,none,[],[]⟩,⟨.faddr 0 (.t 1),some 7,(some (6,true)),[],[]⟩,⟨.load 1 false (.t 7),some 8,(some (6,true)),[],[]⟩,⟨.faddr 1 (.t 1),some 9,(some (6,true)),[],[]⟩,⟨.load 1 false (.t 9),some 10,(some (6,true)),[],[]⟩,⟨.bin .geq (.t 8) (.t 10),some 11,(some (6,true)),[],[]⟩,⟨.pick (.t 6) (.t 11) (.c (.bool false)),some 12,none,[],[]⟩,⟨.mv (.t 12),some 2,none,[],[]⟩]
def zdy:Reg:=⟨[],z85,[],[],false⟩
def zlz:IR:=(.seq (.reg zdz)
 (.seq (.reg zdy)
 .ret))
def zdp:List RDesc:=[(.tmp 2)]
theorem e_sEmpty_0:EqR zdz [⟨.box 3 66 (.t 0),some 1,none,[],[]⟩,⟨.mv (.c (.bool false)),some 2,none,[],[]⟩] [1]:=fun _ _ _=>rfl
theorem e_sEmpty_1:EqR zdy z85 []:=fun _ _ _=>rfl
theorem fn_sEmpty {args:List AV} {r:AV} (ha:args.length.ble Try.f64.ntmps = true) (h:run (AFn Try.prog) zlz (endQ zdp r) (z0b args)):AFn Try.prog 64 args r :=
 AFn.of_code (pv:=false) (hint:=fun _=>[]) (c:=Try.f64.body.getD .skip) (by kernel_rfl) (by kernel_rfl) Try.func64 (by kernel_rfl) (by kernel_rfl) (by kernel_rfl) (of_decide_eq_true (by kernel_rfl)) (Nat.le_of_ble_eq_true ha) (Nat.le_of_ble_eq_true (by kernel_rfl)) (z09 h)
/-! ### percolate/key.Next -/
def zl2:Reg:=⟨[],[⟨.mv (.c (.str ⟨#[]⟩)),some 2,none,[],[]⟩],[],[],false⟩
def zay:List ROp:=[⟨.mv (.t 0),some 3,none,[],[]⟩,⟨.bin .add (.t 3) (.c (.str ⟨#[0]⟩)),some 4,none,[],[]⟩,⟨.mv (.t 4),some 2,none,[],[]⟩]
def zl1:Reg:=⟨[],zay,[],[],false⟩
def zxq:IR:=(.seq (.reg zl2)
 (.seq (.reg zl1)
 .ret))
def zj2:List RDesc:=[(.tmp 2)]
theorem e_kNext_0:EqR zl2 [⟨.mv (.c (.str ⟨#[]⟩)),some 2,none,[],[]⟩] []:=fun _ _ _=>rfl
theorem e_kNext_1:EqR zl1 zay []:=fun _ _ _=>rfl
theorem fn_kNext {args:List AV} {r:AV} (ha:args.length.ble Try.f78.ntmps = true) (h:run (AFn Try.prog) zxq (endQ zj2 r) (z0b args)):AFn Try.prog 78 args r :=
 AFn.of_code (pv:=false) (hint:=fun _=>[]) (c:=Try.f78.body.getD .skip) (by kernel_rfl) (by kernel_rfl) Try.func78 (by kernel_rfl) (by kernel_rfl) (by kernel_rfl) (of_decide_eq_true (by kernel_rfl)) (Nat.le_of_ble_eq_true ha) (Nat.le_of_ble_eq_true (by kernel_rfl)) (z09 h)
/-! ### percolate/span.Point -/
def zdx:Reg:=⟨[],[⟨.alloc 3 66 (.agg [(.str ⟨#[]⟩),(.str ⟨#[]⟩),(.bool false)]),some 2,none,[],[]⟩],[2],[],false⟩
def z84:List ROp:=[⟨.mv (.t 0),some 3,none,[5],[]⟩,⟨.mv (.t 0),some 4,none,[5],[]⟩,⟨.callv (.c (.clo 78 [] [])) [(.t 4)],some 5,none,[],[]⟩,⟨.bld [(.str ⟨#[]⟩),(.str ⟨#[]⟩),(.bool false)] [⟨0,1,(.t 3)⟩,⟨1,1,(.t 5)⟩],some 6,none,[],[]⟩,⟨.store 3 (.t 2) (.t 6),none,none,[],[]⟩]
def zdw:Reg:=⟨[],z84,[5],[],false⟩
def zly:IR:=(.seq (.reg zdx)
 (.seq (.reg zdw)
 .ret))
def zdo:List RDesc:=[(.cell 2 3 true)]
theorem e_sPoint_0:EqR zdx [⟨.alloc 3 66 (.agg [(.str ⟨#[]⟩),(.str ⟨#[]⟩),(.bool false)]),some 2,none,[],[]⟩] [2]:=fun _ _ _=>rfl
theorem e_sPoint_1:EqR zdw z84 [5]:=fun _ _ _=>rfl
theorem fn_sPoint {args:List AV} {r:AV} (ha:args.length.ble Try.f67.ntmps = true) (h:run (AFn Try.prog) zly (endQ zdo r) (z0b args)):AFn Try.prog 67 args r :=
 AFn.of_code (pv:=false) (hint:=fun _=>[]) (c:=Try.f67.body.getD .skip) (by kernel_rfl) (by kernel_rfl) Try.func67 (by kernel_rfl) (by kernel_rfl) (by kernel_rfl) (of_decide_eq_true (by kernel_rfl)) (Nat.le_of_ble_eq_true ha) (Nat.le_of_ble_eq_true (by kernel_rfl)) (z09 h)
/-! ### percolate/op.Span -/
def zan:List ROp:=[⟨.box 6 26 (.t 0),some 1,none,[2],[]⟩,⟨.alloc 3 66 (.agg [(.str ⟨#[]⟩),(.str ⟨#[]⟩),(.bool false)]),some 2,none,[],[]⟩]
def zkk:Reg:=⟨[],zan,[1,2],[],false⟩
def zkj:Reg:=⟨[],[⟨.load 6 true (.t 1),some 3,none,[4],[]⟩,⟨.callv (.c (.clo 63 [] [])) [(.t 3)],some 4,none,[],[]⟩],[4],[],false⟩
def zam:List ROp:=[⟨.faddr 1 (.t 1),some 5,none,[],[]⟩,⟨.load 1 false (.t 5),some 6,none,[],[]⟩,⟨.faddr 2 (.t 1),some 7,none,[],[]⟩,⟨.load 1 false (.t 7),some 8,none,[],[]⟩,⟨.faddr 3 (.t 1),some 9,none,[],[]⟩,⟨.load 1 false (.t 9),some 10,none,[],[]⟩,⟨.bld [(.str ⟨#[]⟩),(.str ⟨#[]⟩),(.bool false)] [⟨0,1,(.t 6)⟩,⟨1,1,(.t 8)⟩,⟨2,1,(.t 10)⟩],some 11,none,[],[]⟩,⟨.store 3 (.t 2) (.t 11),none,none,[],[]⟩]
def zki:Reg:=⟨[],zam,[],[],false⟩
def zal:List ROp:=[⟨.faddr 1 (.t 1),some 12,none,[14],[]⟩,⟨.load 1 false (.t 12),some 13,none,[14],[]⟩,⟨.callv (.c (.clo 67 [] [])) [(.t 13)],some 14,none,[],[]⟩,⟨.store 3 (.t 2) (.t 14),none,none,[],[]⟩]
def zkh:Reg:=⟨[],zal,[14],[],false⟩
def zxm:IR:=(.seq (.reg zkk)
 (.seq (.seq (.reg zkj)
 (.cond (.t 4) (.seq (.reg zki)
 .ret)
 .skip))
 (.seq (.reg zkh)
 .ret)))
def ziy:List RDesc:=[(.cell 2 3 true)]
theorem e_oSpan_0:EqR zkk zan [1,2]:=fun _ _ _=>rfl
theorem e_oSpan_1:EqR zkj [⟨.load 6 true (.t 1),some 3,none,[4],[]⟩,⟨.callv (.c (.clo 63 [] [])) [(.t 3)],some 4,none,[],[]⟩] [4]:=fun _ _ _=>rfl
theorem e_oSpan_2:EqR zki zam []:=fun _ _ _=>rfl
theorem e_oSpan_3:EqR zkh zal [14]:=fun _ _ _=>rfl
theorem fn_oSpan {args:List AV} {r:AV} (ha:args.length.ble Try.f49.ntmps = true) (h:run (AFn Try.prog) zxm (endQ ziy r) (z0b args)):AFn Try.prog 49 args r :=
 AFn.of_code (pv:=false) (hint:=fun _=>[]) (c:=Try.f49.body.getD .skip) (by kernel_rfl) (by kernel_rfl) Try.func49 (by kernel_rfl) (by kernel_rfl) (by kernel_rfl) (of_decide_eq_true (by kernel_rfl)) (Nat.le_of_ble_eq_true ha) (Nat.le_of_ble_eq_true (by kernel_rfl)) (z09 h)
attribute [local go_sem ↓] zlx
attribute [local go_sem] zdn e_valued_0 e_valued_1 z83
attribute [local go_sem ↓] zm0
attribute [local go_sem] zdq e_ranged_0 e_ranged_1 z86
attribute [local go_sem ↓] ir_keyR
attribute [local go_sem] zsj e_keyR_0 e_keyR_1 zgr
attribute [local go_sem ↓] ir_valR
attribute [local go_sem] zs5 e_valR_0 e_valR_1 zfr
attribute [local go_sem ↓] zlz
attribute [local go_sem] zdp e_sEmpty_0 e_sEmpty_1 z85
attribute [local go_sem ↓] zxq
attribute [local go_sem] zj2 e_kNext_0 e_kNext_1 zay
attribute [local go_sem ↓] zly
attribute [local go_sem] zdo e_sPoint_0 e_sPoint_1 z84
attribute [local go_sem ↓] zxm
attribute [local go_sem] ziy e_oSpan_0 zan e_oSpan_1 e_oSpan_2 zam e_oSpan_3 zal
theorem z4s (o:Opr):AFn Try.prog 62 [o.a] (.bool o.valued):=by
 refine fn_valued rfl ?_
 unfold Opr.valued
 cases h1:(o.kind == 1) <;> cases h2:(o.kind == 2) <;> (simp (maxSteps:=9^7) only [go_sem,↓reduceIte,reduceCtorEq,Nat.reduceEqDiff,Nat.reduceBEq,Nat.reduceAdd,Nat.reduceSub,Nat.reduceMul,Nat.reduceLT,Nat.reduceLeDiff,Nat.reduceBNe,Int.reduceBEq,Int.reduceBNe,Int.reduceLT,Int.reduceLE,Opr.a,OSpn.a,nul,h1,h2])
theorem z29 (o:Opr):AFn Try.prog 63 [o.a] (.bool o.ranged):=by
 refine fn_ranged rfl ?_
 unfold Opr.ranged
 cases h1:(o.kind == 4) <;> cases h2:(o.kind == 6) <;> (simp (maxSteps:=9^7) only [go_sem,↓reduceIte,reduceCtorEq,Nat.reduceEqDiff,Nat.reduceBEq,Nat.reduceAdd,Nat.reduceSub,Nat.reduceMul,Nat.reduceLT,Nat.reduceLeDiff,Nat.reduceBNe,Int.reduceBEq,Int.reduceBNe,Int.reduceLT,Int.reduceLE,Opr.a,OSpn.a,nul,h1,h2])
theorem z02 (s:ByteArray):AFn Try.prog 60 [.str s] (.bool (decide ((s.size:Int)≤16))):=by
 refine fn_keyR rfl ?_
 simp (maxSteps:=9^7) only [go_sem,↓reduceIte,reduceCtorEq,Nat.reduceEqDiff,Nat.reduceBEq,Nat.reduceAdd,Nat.reduceSub,Nat.reduceMul,Nat.reduceLT,Nat.reduceLeDiff,Nat.reduceBNe,Int.reduceBEq,Int.reduceBNe,Int.reduceLT,Int.reduceLE,Opr.a,OSpn.a,nul]
theorem z06 (s:ByteArray):AFn Try.prog 61 [.str s] (.bool (decide ((s.size:Int)≤16))):=by
 refine fn_valR rfl ?_
 simp (maxSteps:=9^7) only [go_sem,↓reduceIte,reduceCtorEq,Nat.reduceEqDiff,Nat.reduceBEq,Nat.reduceAdd,Nat.reduceSub,Nat.reduceMul,Nat.reduceLT,Nat.reduceLeDiff,Nat.reduceBNe,Int.reduceBEq,Int.reduceBNe,Int.reduceLT,Int.reduceLE,Opr.a,OSpn.a,nul]
theorem sEmpty_ok (s:OSpn):AFn Try.prog 64 [s.a] (.bool s.empty):=by
 refine fn_sEmpty rfl ?_
 unfold OSpn.empty leB
 cases h1:s.op <;> (simp (maxSteps:=9^7) only [go_sem,↓reduceIte,reduceCtorEq,Nat.reduceEqDiff,Nat.reduceBEq,Nat.reduceAdd,Nat.reduceSub,Nat.reduceMul,Nat.reduceLT,Nat.reduceLeDiff,Nat.reduceBNe,Int.reduceBEq,Int.reduceBNe,Int.reduceLT,Int.reduceLE,Opr.a,OSpn.a,nul,h1])
theorem zxf (s:ByteArray) (h:s.size≤9000000000):AFn Try.prog 78 [.str s] (.str (nextB s)):=by
 refine fn_kNext rfl ?_
 unfold nextB
 simp (maxSteps:=9^7) only [go_sem,↓reduceIte,reduceCtorEq,Nat.reduceEqDiff,Nat.reduceBEq,Nat.reduceAdd,Nat.reduceSub,Nat.reduceMul,Nat.reduceLT,Nat.reduceLeDiff,Nat.reduceBNe,Int.reduceBEq,Int.reduceBNe,Int.reduceLT,Int.reduceLE,Opr.a,OSpn.a,nul]
 show s.size + 1≤_
 omega
theorem zik (s:ByteArray) (h:s.size≤9000000000):AFn Try.prog 67 [.str s] (OSpn.a ⟨s,nextB s,false⟩):=by
 refine fn_sPoint rfl ?_
 simp (maxSteps:=9^7) only [go_sem,↓reduceIte,reduceCtorEq,Nat.reduceEqDiff,Nat.reduceBEq,Nat.reduceAdd,Nat.reduceSub,Nat.reduceMul,Nat.reduceLT,Nat.reduceLeDiff,Nat.reduceBNe,Int.reduceBEq,Int.reduceBNe,Int.reduceLT,Int.reduceLE,Opr.a,OSpn.a,nul]
 (first | refine z01 (zxf s h) ?_ | refine z00 (zxf s h) ?_)
 simp (maxSteps:=9^7) only [go_sem,↓reduceIte,reduceCtorEq,Nat.reduceEqDiff,Nat.reduceBEq,Nat.reduceAdd,Nat.reduceSub,Nat.reduceMul,Nat.reduceLT,Nat.reduceLeDiff,Nat.reduceBNe,Int.reduceBEq,Int.reduceBNe,Int.reduceLT,Int.reduceLE,Opr.a,OSpn.a,nul]
theorem zx3 (o:Opr) (h:o.key.size≤9000000000):AFn Try.prog 49 [o.a] o.span.a:=by
 refine fn_oSpan rfl ?_
 unfold Opr.span
 simp (maxSteps:=9^7) only [go_sem,↓reduceIte,reduceCtorEq,Nat.reduceEqDiff,Nat.reduceBEq,Nat.reduceAdd,Nat.reduceSub,Nat.reduceMul,Nat.reduceLT,Nat.reduceLeDiff,Nat.reduceBNe,Int.reduceBEq,Int.reduceBNe,Int.reduceLT,Int.reduceLE,Opr.a,OSpn.a,nul]
 (first | refine z01 (z29 o) ?_ | refine z00 (z29 o) ?_)
 cases h1:o.ranged with
 | true=>simp (maxSteps:=9^7) only [go_sem,↓reduceIte,reduceCtorEq,Nat.reduceEqDiff,Nat.reduceBEq,Nat.reduceAdd,Nat.reduceSub,Nat.reduceMul,Nat.reduceLT,Nat.reduceLeDiff,Nat.reduceBNe,Int.reduceBEq,Int.reduceBNe,Int.reduceLT,Int.reduceLE,Opr.a,OSpn.a,nul,h1]
 | false =>
  simp (maxSteps:=9^7) only [go_sem,↓reduceIte,reduceCtorEq,Nat.reduceEqDiff,Nat.reduceBEq,Nat.reduceAdd,Nat.reduceSub,Nat.reduceMul,Nat.reduceLT,Nat.reduceLeDiff,Nat.reduceBNe,Int.reduceBEq,Int.reduceBNe,Int.reduceLT,Int.reduceLE,Opr.a,OSpn.a,nul,h1]
  (first | refine z01 (zik o.key h) ?_ | refine z00 (zik o.key h) ?_)
  simp (maxSteps:=9^7) only [go_sem,↓reduceIte,reduceCtorEq,Nat.reduceEqDiff,Nat.reduceBEq,Nat.reduceAdd,Nat.reduceSub,Nat.reduceMul,Nat.reduceLT,Nat.reduceLeDiff,Nat.reduceBNe,Int.reduceBEq,Int.reduceBNe,Int.reduceLT,Int.reduceLE,Opr.a,OSpn.a,nul,h1]
end
end Go.Proofs.Ytolocaankfcjiaa
