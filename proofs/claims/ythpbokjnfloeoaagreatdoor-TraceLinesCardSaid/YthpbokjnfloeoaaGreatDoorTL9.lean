/-
  Part 9 of a proof: PkB, PkC, PkA, PkD, PkE, PkF, PkG, PkH, PkI.
-/
import Derived.IntWalk
import Derived.Shelf.Strings.BuilderK
import Derived.Lib.CutLaws
import Derived.StillTailTactics
import Derived.Test.YthpbokjnfloeoaaGreatDoorTL8
namespace Go.Proofs.YthpbokjnfloeoaaGreatDoor
attribute [local go_sem] ev0 ev1 ev2 ev3 ev4 evA zjt.eq_1 zjt.eq_2 zjs.eq_1 zjs.eq_2 okV valV fzV okF valF okBld zh0 mxOk.eq_1 mxOk.eq_2 y9f.eq_1 y9f.eq_2 z1q.eq_1 z1q.eq_2 z1q.eq_3 z5l.eq_1 z5l.eq_2 z5l.eq_3 upd_at AV.flatB AV.flatBs zxi binIV zxh binSV z2k.eq_1 z2k.eq_2 z25.eq_1 z25.eq_2 z0e.eq_1 z0e.eq_2 objZ.eq_1 objZ.eq_2 z1l.eq_1 z1l.eq_2 znj ze6.eq_1 ze6.eq_2 ze6.eq_3 z0v.eq_1 z0v.eq_2 z0v.eq_3 z94.eq_1 z94.eq_2 z94.eq_3 z94.eq_4 z3f.eq_1 z3f.eq_2 z3f.eq_3 z3f.eq_4 faOk.eq_1 faOk.eq_2 faOk.eq_3 zoc.eq_1 zoc.eq_2 zoc.eq_3 iaOk.eq_1 iaOk.eq_2 iaOk.eq_3 znz.eq_1 znz.eq_2 znz.eq_3 z2l.eq_1 z2l.eq_2 z2l.eq_3 z2l.eq_4 bdOk.eq_1 bdOk.eq_2 z9f.eq_1 z9f.eq_2 z8l.eq_1 z8l.eq_2 z8l.eq_3 z8l.eq_4 z3e.eq_1 z3e.eq_2 z3e.eq_3 z3e.eq_4 zz0.eq_1 zz0.eq_2 loK.eq_1 loK.eq_2 loK.eq_3 zdy.eq_1 zdy.eq_2 zdy.eq_3 byOk.eq_1 byOk.eq_2 byOk.eq_3 byOk.eq_4 byOk.eq_5 byOk.eq_6 byOk.eq_7 byOk.eq_8 z18.eq_1 z18.eq_2 z18.eq_3 byFz.eq_1 byFz.eq_2 byFz.eq_3 z5m z17 z71 zpb z6y.eq_1 z6y.eq_2 z1b.eq_1 z1b.eq_2 stOk.eq_1 stOk.eq_2 zpg.eq_1 zpg.eq_2 stSt.eq_1 stSt.eq_2 AV.patch z91 gB.eq_1 gB.eq_2 gB.eq_3 gIs.eq_1 gIs.eq_2 gIs.eq_3 retV resV y0w z09 z2o St.byval List.getD_cons_zero List.getD_cons_succ List.getD_nil List.map_cons List.map_nil List.length_cons List.length_nil List.take_succ_cons List.take_zero List.drop_succ_cons List.drop_zero List.headD_cons List.set_cons_zero List.append_nil List.nil_append List.cons_append List.contains_cons List.contains_nil List.elem_cons List.elem_nil List.all_cons List.all_nil List.getElem?_cons_zero List.getElem?_cons_succ List.filterMap_cons List.filterMap_nil Option.isSome_some Option.isSome_none Option.map_some Option.map_none Option.some.injEq AV.int.injEq AV.bool.injEq AV.str.injEq AV.tup.injEq AV.agg.injEq AV.sl.injEq List.cons.injEq Bool.false_eq_true Bool.true_eq_false Bool.not_true Bool.not_false Bool.and_true Bool.true_and Bool.or_false Bool.or_true Bool.false_or Bool.true_or Bool.or_self Bool.and_self Bool.not_eq_true' Bool.not_eq_false' Bool.not_not beq_self_eq_true true_and and_true false_and and_false and_self not_true_eq_false not_false_eq_true forall_const true_implies false_implies implies_true imp_self Nat.lt_add_one Nat.le_refl Nat.zero_le Nat.add_zero Nat.zero_add decide_true decide_false decide_eq_true_eq decide_eq_false_iff_not exists_eq_left exists_eq_left' ge_iff_le gt_iff_lt zeg z95 zzb.eq_1 zzb.eq_2 z9z.eq_1 z9z.eq_2 AV.isSl.eq_1 z9y.eq_1 z9y.eq_2 apSt.eq_1 y8e.eq_1 y8e.eq_2 y8d.eq_1 y8d.eq_2 apSt2.eq_1 zgp.eq_1 zgp.eq_2 slOf.eq_1 y9v List.mem_cons List.not_mem_nil Bool.false_and Bool.and_false z1p.eq_1 z1p.eq_2 z1p.eq_3 z1p.eq_4 z1p.eq_5 z0q.eq_1 z0q.eq_2 z0q.eq_3 z0q.eq_4 z0q.eq_5 mOk.eq_1 mOk.eq_2 mVal.eq_1 mVal.eq_2 mFz.eq_1 mFz.eq_2 mOks zzg mFzs za0.eq_1 za0.eq_2 mFn.eq_1 mFn.eq_2 zzh.eq_1 zzh.eq_2 ckOk.eq_1 ckOk.eq_2 cloOk.eq_1 ptrAt.eq_1 sh.eq_1 sh.eq_2 sh.eq_3 sh.eq_4 sh.eq_5 sh.eq_6 retM zjy evM za8.eq_1 za8.eq_2 ents.eq_1 ents.eq_2 kI.eq_1 mpOk.eq_1 mpR.eq_1 lkV.eq_1 lkV.eq_2 remp.eq_2 evP pvOk.eq_1 pvOk.eq_2 zz5.eq_1 zz5.eq_2 plOk.eq_1 plOk.eq_2 plOk.eq_3 plV.eq_1 plV.eq_2 plF.eq_1 plF.eq_2 zpj.eq_1 zpj.eq_2 plFz.eq_1 plFz.eq_2 lpOk.eq_1 lpOk.eq_2 y6a.eq_1 y6a.eq_2 lpFz.eq_1 lpFz.eq_2 zpf.eq_1 zpf.eq_2 zgq.eq_1 zgq.eq_2 zjq.eq_1 zpl.eq_1 zpl.eq_2
section
/-
 Layer 6 on the plain machine: bytes,texts with their lengths.
-/
open Go.RowKit
set_option linter.unusedVariables false
set_option linter.unusedSimpArgs false
set_option maxRecDepth 100000
attribute [local go_sem ↓] z11 z0l
abbrev bz (c:UInt8):AV:=.int .u8 (c.toNat:Int)
theorem wrapU8 (n:Nat):IntKind.u8.wrap (n:Int) = ((UInt8.ofNat n).toNat:Int):=by
 rw [show (UInt8.ofNat n).toNat = n % 256 from UInt8.toNat_ofNat' ..]
 simp [IntKind.wrap,IntKind.signed,IntKind.bits]
theorem z5f (c:UInt8):(AV.int .u8 (c.toNat:Int)).byteB = true:=by
 have:=c.toNat_lt
 simp [AV.byteB]; omega
theorem zh1 (c:UInt8):(AV.int .u8 (c.toNat:Int)).toB = c:=by
 simp [AV.toB]
def z0u (c:UInt8):Bool:=(decide (97≤(c.toNat:Int)) && decide ((c.toNat:Int)≤122)) || (decide (65≤(c.toNat:Int)) && decide ((c.toNat:Int)≤90)) || (decide (48≤(c.toNat:Int)) && decide ((c.toNat:Int)≤57)) || ((c.toNat:Int) == 95)
/-! ### percolate/pack.plain -/
def y3u:Reg:=⟨[],[⟨.mv (.c (.bool false)),some 2,none,[],[]⟩],[],[],false⟩
def zif:List ROp:=[⟨.mv (.t 0),some 3,none,[],[]⟩,⟨.bin .geq (.t 3) (.c (.int .u8 97)),some 4,none,[],[]⟩,⟨.mv (.t 4),some 5,none,[],[]⟩,⟨.mv (.t 0),some 6,(some (5,true)),[],[]⟩,⟨.bin .leq (.t 6) (.c (.int .u8 122)),some 7,(some (5,true)),[],[]⟩,⟨.pick (.t 5) (.t 7) (.c (.bool false)),some 8,none,[],[]⟩,⟨.mv (.t 8),some 9,none,[],[]⟩,⟨.mv (.t 0),some 10,(some (9,false)),[],[]⟩,⟨.bin .geq (.t 10) (.c (.int .u8 65)),some 11,(some (9,false)),[],[]⟩,⟨.mv (.t 11),some 12,(some (9,false)),[],[]⟩,⟨.mv (.t 0),some 13,(some (12,true)),[],[]⟩,⟨.bin .leq (.t 13) (.c (.int .u8 90)),some 14,(some (12,true)),[],[]⟩,⟨.pick (.t 12) (.t 14) (.c (.bool false)),some 15,(some (9,false)),[],[]⟩,⟨.pick (.t 9) (.c (.bool true)) (.t 15),some 16,none,[],[]⟩,⟨.mv (.t 16),some 17,none,[],[]⟩,⟨.mv (.t 0),some 18,(some (17,false)),[],[]⟩,⟨.bin .geq (.t 18) (.c (.int .u8 48)),some 19,(some (17,false)),[],[]⟩,⟨.mv (.t 19),some 20,(some (17,false)),[],[]⟩,⟨.mv (.t 0),some 21,(some (20,true)),[],[]⟩,⟨.bin .leq (.t 21) (.c (.int .u8 57)),some 22,(some (20,true)),[],[]⟩,⟨.pick (.t 20) (.t 22) (.c (.bool false)),some 23,(some (17,false)),[],[]⟩,⟨.pick (.t 17) (.c (.bool true)) (.t 23),some 24,none,[],[]⟩,⟨.mv (.t 24),some 25,none,[],[]⟩,⟨.mv (.t 0),some 26,(some (25,false)),[],[]⟩,⟨.bin .eql (.t 26) (.c (.int .u8 95)),some 27,(some (25,false)),[],[]⟩,⟨.pick (.t 25) (.c (.bool true)) (.t 27),some 28,none,[],[]⟩,⟨.mv (.t 28),some 2,none,[],[]⟩]
def y3t:Reg:=⟨[],zif,[],[],false⟩
def yft:IR:=(.seq (.reg y3u)
 (.seq (.reg y3t)
 .ret))
def y0k:List RDesc:=[(.tmp 2)]
theorem e_plain_0:EqR y3u [⟨.mv (.c (.bool false)),some 2,none,[],[]⟩] []:=fun _ _ _=>rfl
theorem e_plain_1:EqR y3t zif []:=fun _ _ _=>rfl
theorem fn_plain {args:List AV} {r:AV} (ha:args.length.ble Tryz.f43.ntmps = true) (h:run (AFn Tryz.prog) yft (endQ y0k r) (z0b args)):AFn Tryz.prog 43 args r :=
 AFn.of_code (pv:=false) (hint:=fun _=>[]) (c:=Tryz.f43.body.getD .skip) (by kernel_rfl) (by kernel_rfl) Tryz.func43 (by kernel_rfl) (by kernel_rfl) (by kernel_rfl) (of_decide_eq_true (by kernel_rfl)) (Nat.le_of_ble_eq_true ha) (Nat.le_of_ble_eq_true (by kernel_rfl)) (z0c h)
/-! ### percolate/percolateref06.own -/
def ydy:Reg:=⟨[],[⟨.mv (.c (.bool false)),some 2,none,[],[]⟩],[],[],false⟩
def zyc:List ROp:=[⟨.mv (.t 0),some 3,none,[],[]⟩,⟨.bin .leq (.c (.int .u8 97)) (.t 3),some 4,none,[],[]⟩,⟨.mv (.t 4),some 5,none,[],[]⟩,⟨.mv (.t 0),some 6,(some (5,true)),[],[]⟩,⟨.bin .leq (.t 6) (.c (.int .u8 122)),some 7,(some (5,true)),[],[]⟩,⟨.pick (.t 5) (.t 7) (.c (.bool false)),some 8,none,[],[]⟩,⟨.mv (.t 8),some 9,none,[],[]⟩,⟨.mv (.t 0),some 10,(some (9,false)),[],[]⟩,⟨.bin .leq (.c (.int .u8 65)) (.t 10),some 11,(some (9,false)),[],[]⟩,⟨.mv (.t 11),some 12,(some (9,false)),[],[]⟩,⟨.mv (.t 0),some 13,(some (12,true)),[],[]⟩,⟨.bin .leq (.t 13) (.c (.int .u8 90)),some 14,(some (12,true)),[],[]⟩,⟨.pick (.t 12) (.t 14) (.c (.bool false)),some 15,(some (9,false)),[],[]⟩,⟨.pick (.t 9) (.c (.bool true)) (.t 15),some 16,none,[],[]⟩,⟨.mv (.t 16),some 17,none,[],[]⟩,⟨.mv (.t 0),some 18,(some (17,false)),[],[]⟩,⟨.bin .leq (.c (.int .u8 48)) (.t 18),some 19,(some (17,false)),[],[]⟩,⟨.mv (.t 19),some 20,(some (17,false)),[],[]⟩,⟨.mv (.t 0),some 21,(some (20,true)),[],[]⟩,⟨.bin .leq (.t 21) (.c (.int .u8 57)),some 22,(some (20,true)),[],[]⟩,⟨.pick (.t 20) (.t 22) (.c (.bool false)),some 23,(some (17,false)),[],[]⟩,⟨.pick (.t 17) (.c (.bool true)) (.t 23),some 24,none,[],[]⟩,⟨.mv (.t 24),some 25,none,[],[]⟩,⟨.mv (.t 0),some 26,(some (25,false)),[],[]⟩,⟨.bin .eql (.t 26) (.c (.int .u8 95)),some 27,(some (25,false)),[],[]⟩,⟨.pick (.t 25) (.c (.bool true)) (.t 27),some 28,none,[],[]⟩,⟨.mv (.t 28),some 2,none,[],[]⟩]
def ydx:Reg:=⟨[],zyc,[],[],false⟩
def ir_rOwn:IR:=(.seq (.reg ydy)
 (.seq (.reg ydx)
 .ret))
def ycu:List RDesc:=[(.tmp 2)]
theorem e_rOwn_0:EqR ydy [⟨.mv (.c (.bool false)),some 2,none,[],[]⟩] []:=fun _ _ _=>rfl
theorem e_rOwn_1:EqR ydx zyc []:=fun _ _ _=>rfl
theorem fn_rOwn {args:List AV} {r:AV} (ha:args.length.ble Tryz.f50.ntmps = true) (h:run (AFn Tryz.prog) ir_rOwn (endQ ycu r) (z0b args)):AFn Tryz.prog 50 args r :=
 AFn.of_code (pv:=false) (hint:=fun _=>[]) (c:=Tryz.f50.body.getD .skip) (by kernel_rfl) (by kernel_rfl) Tryz.func50 (by kernel_rfl) (by kernel_rfl) (by kernel_rfl) (of_decide_eq_true (by kernel_rfl)) (Nat.le_of_ble_eq_true ha) (Nat.le_of_ble_eq_true (by kernel_rfl)) (z0c h)
attribute [local go_sem ↓] yft
attribute [local go_sem] y0k e_plain_0 e_plain_1 zif
attribute [local go_sem ↓] ir_rOwn
attribute [local go_sem] ycu e_rOwn_0 e_rOwn_1 zyc
theorem z9x (c:UInt8):AFn Tryz.prog 43 [bz c] (.bool (z0u c)):=by
 refine fn_plain rfl ?_
 simp (maxSteps:=9^7) only [go_sem,↓reduceIte,reduceCtorEq,Nat.reduceEqDiff,Nat.reduceBEq,Nat.reduceAdd,Nat.reduceSub,Nat.reduceMul,Nat.reduceLT,Nat.reduceLeDiff,Nat.reduceBNe,Int.reduceBEq,Int.reduceBNe,Int.reduceLT,Int.reduceLE]
 repeat' split
 all_goals (simp [z0u, *] <;> omega)
theorem rOwn_ok (c:UInt8):AFn Tryz.prog 50 [bz c] (.bool (z0u c)):=by
 refine fn_rOwn rfl ?_
 simp (maxSteps:=9^7) only [go_sem,↓reduceIte,reduceCtorEq,Nat.reduceEqDiff,Nat.reduceBEq,Nat.reduceAdd,Nat.reduceSub,Nat.reduceMul,Nat.reduceLT,Nat.reduceLeDiff,Nat.reduceBNe,Int.reduceBEq,Int.reduceBNe,Int.reduceLT,Int.reduceLE]
 repeat' split
 all_goals (simp [z0u, *] <;> omega)
def b0 (s:ByteArray):UInt8:=s.data.toList.getD 0 0
/-! ### Contracts that are proved over the model itself -/
theorem AFn.flat1 {P:Program} {f:FuncId} (hok:z79 P f = true) {d r:AV} {v u:Value} (hd:∀ Q w v',VR Q w d v'->v' = v) (hr:∀ Q base w,RR Q base w r u)
  (h:∀ w,Glob w->Calls P f #[v] w fun e w'=>e = .returned u∧Below w.heap.size w w'):AFn P f [d] r:=by
 refine ⟨hok,fun w Pr vs hG hPr hlen hvs=>?_⟩
 obtain ⟨v',rfl⟩:∃ v',vs = [v']:=by
  match vs,hlen with
  | [v'],_=>exact ⟨v',rfl⟩
 rw [hd _ _ _ (hvs 0 _ v' rfl rfl)]
 exact (h w hG).mono fun e w' ⟨he,hb⟩=>⟨u,he,hb,hr _ _ _⟩
theorem AFn.flat2 {P:Program} {f:FuncId} (hok:z79 P f = true) {d1 d2 r:AV} {v1 v2 u:Value} (hd1:∀ Q w v',VR Q w d1 v'->v' = v1) (hd2:∀ Q w v',VR Q w d2 v'->v' = v2) (hr:∀ Q base w,RR Q base w r u)
  (h:∀ w,Glob w->Calls P f #[v1,v2] w fun e w'=>e = .returned u∧Below w.heap.size w w'):AFn P f [d1,d2] r:=by
 refine ⟨hok,fun w Pr vs hG hPr hlen hvs=>?_⟩
 obtain ⟨a,b,rfl⟩:∃ a b,vs = [a,b]:=by
  match vs,hlen with
  | [a,b],_=>exact ⟨a,b,rfl⟩
 rw [hd1 _ _ _ (hvs 0 _ a rfl rfl),hd2 _ _ _ (hvs 1 _ b rfl rfl)]
 exact (h w hG).mono fun e w' ⟨he,hb⟩=>⟨u,he,hb,hr _ _ _⟩
theorem AFn.flat2' {P:Program} {f:FuncId} (hok:z79 P f = true) {d1 d2 r:AV} {v1 v2:Value} (hd1:∀ Q w v',VR Q w d1 v'->v' = v1) (hd2:∀ Q w v',VR Q w d2 v'->v' = v2)
  (h:∀ w,Glob w->Calls P f #[v1,v2] w fun e w'=>∃ u,e = .returned u∧Below w.heap.size w w'∧∀ (Q:Nat->Nat->Prop) base,base≤w.heap.size->RR Q base w' r u):AFn P f [d1,d2] r:=by
 refine ⟨hok,fun w Pr vs hG hPr hlen hvs=>?_⟩
 obtain ⟨a,b,rfl⟩:∃ a b,vs = [a,b]:=by
  match vs,hlen with
  | [a,b],_=>exact ⟨a,b,rfl⟩
 rw [hd1 _ _ _ (hvs 0 _ a rfl rfl),hd2 _ _ _ (hvs 1 _ b rfl rfl)]
 exact (h w hG).mono fun e w' ⟨u,he,hb,hr⟩=>⟨u,he,hb,hr _ _ (Nat.le_refl _)⟩
theorem zgt {s:ByteArray}:∀ Q w v',VR Q w (.str s) v'->v' = .string s:=fun _ _ _ h=>h.str_of
theorem yg5 {k:IntKind} {m:Int}:∀ Q w v',VR Q w (.int k m) v'->v' = .int k m:=fun _ _ _ h=>h.int_of
theorem zgb (s:ByteArray) (c:UInt8):AFn Tryz.prog 100 [.str s,bz c] (.int .i64 (Lib.indexByte s.data.toList c)) :=
 .flat2 (by kernel_rfl) zgt yg5 (fun _ _ _=>.int _ _) fun w _=>(Tryz.strings_IndexByte s (c.toNat:Int) w).mono fun e w' ⟨he,hw⟩=>by
  subst hw
  refine ⟨?_,Below.refl _ _⟩
  rw [he]
  simp
/-! ### percolate/pack.digit -/
def y5h:Reg:=⟨[],[⟨.mv (.c (.int .i64 0)),some 2,none,[],[]⟩],[],[],false⟩
def zj8:List ROp:=[⟨.mv (.t 0),some 3,none,[4],[]⟩,⟨.callv (.c (.clo 100 [] [])) [(.c (.str ⟨#[48,49,50,51,52,53,54,55,56,57,97,98,99,100,101,102]⟩)),(.t 3)],some 4,none,[],[]⟩,⟨.mv (.t 4),some 2,none,[],[]⟩]
def y5g:Reg:=⟨[],zj8,[4],[],false⟩
def yg2:IR:=(.seq (.reg y5h)
 (.seq (.reg y5g)
 .ret))
def y0t:List RDesc:=[(.tmp 2)]
theorem e_digit_0:EqR y5h [⟨.mv (.c (.int .i64 0)),some 2,none,[],[]⟩] []:=fun _ _ _=>rfl
theorem e_digit_1:EqR y5g zj8 [4]:=fun _ _ _=>rfl
theorem fn_digit {args:List AV} {r:AV} (ha:args.length.ble Tryz.f87.ntmps = true) (h:run (AFn Tryz.prog) yg2 (endQ y0t r) (z0b args)):AFn Tryz.prog 87 args r :=
 AFn.of_code (pv:=false) (hint:=fun _=>[]) (c:=Tryz.f87.body.getD .skip) (by kernel_rfl) (by kernel_rfl) Tryz.func87 (by kernel_rfl) (by kernel_rfl) (by kernel_rfl) (of_decide_eq_true (by kernel_rfl)) (Nat.le_of_ble_eq_true ha) (Nat.le_of_ble_eq_true (by kernel_rfl)) (z0c h)
attribute [local go_sem ↓] yg2
attribute [local go_sem] y0t e_digit_0 e_digit_1 zj8
def hexL:List UInt8:=[48,49,50,51,52,53,54,55,56,57,97,98,99,100,101,102]
def digF (c:UInt8):Int:=Lib.indexByte hexL c
theorem z3v (c:UInt8):AFn Tryz.prog 87 [bz c] (.int .i64 (digF c)):=by
 refine fn_digit rfl ?_
 simp (maxSteps:=9^7) only [go_sem,↓reduceIte,reduceCtorEq,Nat.reduceEqDiff,Nat.reduceBEq,Nat.reduceAdd,Nat.reduceSub,Nat.reduceMul,Nat.reduceLT,Nat.reduceLeDiff,Nat.reduceBNe,Int.reduceBEq,Int.reduceBNe,Int.reduceLT,Int.reduceLE]
 (first | refine z01 (zgb ⟨#[48,49,50,51,52,53,54,55,56,57,97,98,99,100,101,102]⟩ c) ?_ | refine z00 (zgb ⟨#[48,49,50,51,52,53,54,55,56,57,97,98,99,100,101,102]⟩ c) ?_)
 simp (maxSteps:=9^7) only [go_sem,↓reduceIte,reduceCtorEq,Nat.reduceEqDiff,Nat.reduceBEq,Nat.reduceAdd,Nat.reduceSub,Nat.reduceMul,Nat.reduceLT,Nat.reduceLeDiff,Nat.reduceBNe,Int.reduceBEq,Int.reduceBNe,Int.reduceLT,Int.reduceLE]
 rfl
end
section
/-
 Layer 6 on the plain machine: a word as a text,a text as a number.
-/
open Go.RowKit
set_option linter.unusedVariables false
set_option linter.unusedSimpArgs false
set_option maxRecDepth 100000
attribute [local go_sem ↓] z11 z0l
/-! ### percolate/pack.Unquote -/
def r_unq_0:Reg:=⟨[],[⟨.mv (.c (.str ⟨#[]⟩)),some 2,none,[],[]⟩,⟨.mv (.c (.bool false)),some 3,none,[],[]⟩],[],[],false⟩
def r_unq_1:Reg:=⟨[],[⟨.mv (.t 0),some 7,none,[],[]⟩,⟨.bin .eql (.t 7) (.c (.str ⟨#[45]⟩)),some 8,none,[],[]⟩],[],[],false⟩
def r_unq_2:Reg:=⟨[],[⟨.mv (.c (.str ⟨#[]⟩)),some 2,none,[],[]⟩,⟨.mv (.c (.bool true)),some 3,none,[],[]⟩],[],[],false⟩
def r_unq_3:Reg:=⟨[],[⟨.mknil 1 5,some 4,none,[],[]⟩],[4],[],false⟩
def r_unq_4:Reg:=⟨[],[⟨.mv (.c (.int .i64 0)),some 5,none,[],[]⟩],[],[],false⟩
def y8n:List ROp:=[⟨.mv (.t 5),some 9,none,[],[]⟩,⟨.mv (.t 0),some 10,none,[],[]⟩,⟨.len true (.t 10),some 11,none,[],[]⟩,⟨.bin .lss (.t 9) (.t 11),some 12,none,[],[]⟩]
def r_unq_5:Reg:=⟨[],y8n,[],[],false⟩
def y8m:List ROp:=[⟨.mv (.t 0),some 15,none,[18],[]⟩,⟨.mv (.t 5),some 16,none,[18],[]⟩,⟨.idx (.t 15) (.t 16),some 17,none,[18],[]⟩,⟨.callv (.c (.clo 43 [] [])) [(.t 17)],some 18,none,[],[]⟩]
def r_unq_6:Reg:=⟨[],y8m,[18],[],false⟩
def y8l:List ROp:=[⟨.mv (.t 4),some 19,none,[23],[]⟩,⟨.mv (.t 0),some 20,none,[23],[]⟩,⟨.mv (.t 5),some 21,none,[23],[]⟩,⟨.idx (.t 20) (.t 21),some 22,none,[23],[]⟩,⟨.bsl 1 5 [(.t 22)],some 23,none,[],[]⟩,⟨.append 1 5 1 (.t 19) (.t 23),some 24,none,[],[]⟩,⟨.mv (.t 24),some 4,none,[],[]⟩]
def r_unq_7:Reg:=⟨[],y8l,[23],[],false⟩
def y8k:List ROp:=[⟨.mv (.t 0),some 25,none,[41,49],[]⟩,⟨.mv (.t 5),some 26,none,[41,49],[]⟩,⟨.idx (.t 25) (.t 26),some 27,none,[41,49],[]⟩,⟨.bin .neq (.t 27) (.c (.int .u8 37)),some 28,none,[41,49],[]⟩,⟨.mv (.t 28),some 29,none,[41,49],[]⟩,⟨.mv (.t 0),some 30,(some (29,false)),[41,49],[]⟩,⟨.len true (.t 30),some 31,(some (29,false)),[41,49],[]⟩,⟨.mv (.t 5),some 32,(some (29,false)),[41,49],[]⟩,⟨.bin .sub (.t 31) (.t 32),some 33,(some (29,false)),[41,49],[]⟩,⟨.bin .lss (.t 33) (.c (.int .i64 3)),some 34,(some (29,false)),[41,49],[]⟩,⟨.pick (.t 29) (.c (.bool true)) (.t 34),some 35,none,[41,49],[]⟩,⟨.mv (.t 35),some 36,none,[41,49],[]⟩,⟨.mv (.t 0),some 37,(some (36,false)),[41,49],[]⟩,⟨.mv (.t 5),some 38,(some (36,false)),[41,49],[]⟩,⟨.bin .add (.t 38) (.c (.int .i64 1)),some 39,(some (36,false)),[41,49],[]⟩,⟨.idx (.t 37) (.t 39),some 40,(some (36,false)),[41,49],[]⟩,⟨.callv (.c (.clo 87 [] [])) [(.t 40)],some 41,(some (36,false)),[49],[]⟩,⟨.bin .lss (.t 41) (.c (.int .i64 0)),some 42,(some (36,false)),[49],[]⟩,⟨.pick (.t 36) (.c (.bool true)) (.t 42),some 43,none,[49],[]⟩,⟨.mv (.t 43),some 44,none,[49],[]⟩,⟨.mv (.t 0),some 45,(some (44,false)),[49],[]⟩,⟨.mv (.t 5),some 46,(some (44,false)),[49],[]⟩,⟨.bin .add (.t 46) (.c (.int .i64 2)),some 47,(some (44,false)),[49],[]⟩,⟨.idx (.t 45) (.t 47),some 48,(some (44,false)),[49],[]⟩,⟨.callv (.c (.clo 87 [] [])) [(.t 48)],some 49,(some (44,false)),[],[]⟩,⟨.bin .lss (.t 49) (.c (.int .i64 0)),some 50,(some (44,false)),[],[]⟩,⟨.pick (.t 44) (.c (.bool true)) (.t 50),some 51,none,[],[]⟩]
def r_unq_8:Reg:=⟨[],y8k,[41,49],[],false⟩
def r_unq_9:Reg:=⟨[],[⟨.mv (.c (.str ⟨#[]⟩)),some 2,none,[],[]⟩,⟨.mv (.c (.bool false)),some 3,none,[],[]⟩],[],[],false⟩
def zxw:List ROp:=[⟨.bin .or (.t 57) (.t 62),some 63,none,[],[]⟩,⟨.conv .u8 (.t 63),some 64,none,[],[]⟩,⟨.mv (.t 64),some 6,none,[],[]⟩]
def zzk:List ROp:=[⟨.mv (.t 0),some 52,none,[56,57,62],[]⟩,⟨.mv (.t 5),some 53,none,[56,57,62],[]⟩,⟨.bin .add (.t 53) (.c (.int .i64 1)),some 54,none,[56,57,62],[]⟩,⟨.idx (.t 52) (.t 54),some 55,none,[56,57,62],[]⟩,⟨.callv (.c (.clo 87 [] [])) [(.t 55)],some 56,none,[57,62],[]⟩,⟨.call 3 [(.t 56),(.c (.int .u64 4))],some 57,none,[62],[]⟩,⟨.mv (.t 0),some 58,none,[56,57,62],[]⟩,⟨.mv (.t 5),some 59,none,[56,57,62],[]⟩,⟨.bin .add (.t 59) (.c (.int .i64 2)),some 60,none,[56,57,62],[]⟩,⟨.idx (.t 58) (.t 60),some 61,none,[56,57,62],[]⟩,⟨.callv (.c (.clo 87 [] [])) [(.t 61)],some 62,none,[57],[]⟩]
def ydc:Reg:=⟨zzk,zxw,[56,57,62],[],true⟩
def ydb:Reg:=⟨[],[⟨.mv (.t 6),some 65,none,[66],[]⟩,⟨.callv (.c (.clo 43 [] [])) [(.t 65)],some 66,none,[],[]⟩],[66],[],false⟩
def yda:Reg:=⟨[],[⟨.mv (.c (.str ⟨#[]⟩)),some 2,none,[],[]⟩,⟨.mv (.c (.bool false)),some 3,none,[],[]⟩],[],[],false⟩
def zxv:List ROp:=[⟨.mv (.t 4),some 67,none,[69],[]⟩,⟨.mv (.t 6),some 68,none,[69],[]⟩,⟨.bsl 1 5 [(.t 68)],some 69,none,[],[]⟩,⟨.append 1 5 1 (.t 67) (.t 69),some 70,none,[],[]⟩,⟨.mv (.t 70),some 4,none,[],[]⟩]
def yd9:Reg:=⟨[],zxv,[69],[],false⟩
def zxu:List ROp:=[⟨.mv (.t 5),some 71,none,[],[]⟩,⟨.bin .add (.t 71) (.c (.int .i64 2)),some 72,none,[],[]⟩,⟨.mv (.t 72),some 5,none,[],[]⟩]
def yd8:Reg:=⟨[],zxu,[],[],false⟩
def zxt:List ROp:=[⟨.mv (.t 5),some 13,none,[],[]⟩,⟨.bin .add (.t 13) (.c (.int .i64 1)),some 14,none,[],[]⟩,⟨.mv (.t 14),some 5,none,[],[]⟩]
def yd7:Reg:=⟨[],zxt,[],[],false⟩
def y11:IR:=(.seq (.seq (.reg r_unq_5)
 (.cond (.t 12) .skip
 (.exit 0)))
 (.seq (.block 1 (.seq (.seq (.reg r_unq_6)
 (.cond (.t 18) (.seq (.reg r_unq_7)
 (.exit 1))
 .skip))
 (.seq (.seq (.reg r_unq_8)
 (.cond (.t 51) (.seq (.reg r_unq_9)
 .ret)
 .skip))
 (.seq (.reg ydc)
 (.seq (.seq (.reg ydb)
 (.cond (.t 66) (.seq (.reg yda)
 .ret)
 .skip))
 (.seq (.reg yd9)
 (.reg yd8)))))))
 (.reg yd7)))
def zxs:List ROp:=[⟨.mv (.t 4),some 73,none,[74],[]⟩,⟨.call 1 [(.t 73)],some 74,none,[],[]⟩,⟨.mv (.t 4),some 75,none,[],[]⟩,⟨.len false (.t 75),some 76,none,[],[]⟩,⟨.bin .gtr (.t 76) (.c (.int .i64 0)),some 77,none,[],[]⟩,⟨.mv (.t 74),some 2,none,[],[]⟩,⟨.mv (.t 77),some 3,none,[],[]⟩]
def yd6:Reg:=⟨[],zxs,[74],[],false⟩
def ir_unq:IR:=(.seq (.reg r_unq_0)
 (.seq (.seq (.reg r_unq_1)
 (.cond (.t 8) (.seq (.reg r_unq_2)
 .ret)
 .skip))
 (.seq (.reg r_unq_3)
 (.seq (.seq (.reg r_unq_4)
 (.block 0 (.loop y11)))
 (.seq (.reg yd6)
 .ret)))))
def res_unq:List RDesc:=[(.tmp 2),(.tmp 3)]
theorem e_unq_0:EqR r_unq_0 [⟨.mv (.c (.str ⟨#[]⟩)),some 2,none,[],[]⟩,⟨.mv (.c (.bool false)),some 3,none,[],[]⟩] []:=fun _ _ _=>rfl
theorem e_unq_1:EqR r_unq_1 [⟨.mv (.t 0),some 7,none,[],[]⟩,⟨.bin .eql (.t 7) (.c (.str ⟨#[45]⟩)),some 8,none,[],[]⟩] []:=fun _ _ _=>rfl
theorem e_unq_2:EqR r_unq_2 [⟨.mv (.c (.str ⟨#[]⟩)),some 2,none,[],[]⟩,⟨.mv (.c (.bool true)),some 3,none,[],[]⟩] []:=fun _ _ _=>rfl
theorem e_unq_3:EqR r_unq_3 [⟨.mknil 1 5,some 4,none,[],[]⟩] [4]:=fun _ _ _=>rfl
theorem e_unq_4:EqR r_unq_4 [⟨.mv (.c (.int .i64 0)),some 5,none,[],[]⟩] []:=fun _ _ _=>rfl
theorem e_unq_5:EqR r_unq_5 y8n []:=fun _ _ _=>rfl
theorem e_unq_6:EqR r_unq_6 y8m [18]:=fun _ _ _=>rfl
theorem e_unq_7:EqR r_unq_7 y8l [23]:=fun _ _ _=>rfl
theorem e_unq_8:EqR r_unq_8 y8k [41,49]:=fun _ _ _=>rfl
theorem e_unq_9:EqR r_unq_9 [⟨.mv (.c (.str ⟨#[]⟩)),some 2,none,[],[]⟩,⟨.mv (.c (.bool false)),some 3,none,[],[]⟩] []:=fun _ _ _=>rfl
theorem e_unq_10 (C:FuncId->List AV->AV->Prop) (σ:St) (K:St->Prop):z0k C ydc σ K = z08 C [] zxw zzk (σ.kills [56,57,62]) K:=rfl
theorem e_unq_11:EqR ydb [⟨.mv (.t 6),some 65,none,[66],[]⟩,⟨.callv (.c (.clo 43 [] [])) [(.t 65)],some 66,none,[],[]⟩] [66]:=fun _ _ _=>rfl
theorem e_unq_12:EqR yda [⟨.mv (.c (.str ⟨#[]⟩)),some 2,none,[],[]⟩,⟨.mv (.c (.bool false)),some 3,none,[],[]⟩] []:=fun _ _ _=>rfl
theorem e_unq_13:EqR yd9 zxv [69]:=fun _ _ _=>rfl
theorem e_unq_14:EqR yd8 zxu []:=fun _ _ _=>rfl
theorem e_unq_15:EqR yd7 zxt []:=fun _ _ _=>rfl
theorem e_unq_17:EqR yd6 zxs [74]:=fun _ _ _=>rfl
theorem fn_unq {args:List AV} {r:AV} (ha:args.length.ble Tryz.f65.ntmps = true) (h:run (AFn Tryz.prog) ir_unq (endQ res_unq r) (z0b args)):AFn Tryz.prog 65 args r :=
 AFn.of_code (pv:=false) (hint:=fun _=>[]) (c:=Tryz.f65.body.getD .skip) (by kernel_rfl) (by kernel_rfl) Tryz.func65 (by kernel_rfl) (by kernel_rfl) (by kernel_rfl) (of_decide_eq_true (by kernel_rfl)) (Nat.le_of_ble_eq_true ha) (Nat.le_of_ble_eq_true (by kernel_rfl)) (z0c h)
/-! ### percolate/pack.Undec -/
def y1b:Reg:=⟨[],[⟨.mv (.c (.int .i64 0)),some 2,none,[],[]⟩,⟨.mv (.c (.bool false)),some 3,none,[],[]⟩],[],[],false⟩
def zh9:List ROp:=[⟨.mv (.t 0),some 7,none,[],[]⟩,⟨.bin .eql (.t 7) (.c (.str ⟨#[]⟩)),some 8,none,[],[]⟩,⟨.mv (.t 8),some 9,none,[],[]⟩,⟨.mv (.t 0),some 10,(some (9,false)),[],[]⟩,⟨.len true (.t 10),some 11,(some (9,false)),[],[]⟩,⟨.bin .gtr (.t 11) (.c (.int .i64 9)),some 12,(some (9,false)),[],[]⟩,⟨.pick (.t 9) (.c (.bool true)) (.t 12),some 13,none,[],[]⟩,⟨.mv (.t 13),some 14,none,[],[]⟩,⟨.mv (.t 0),some 15,(some (14,false)),[],[]⟩,⟨.idx (.t 15) (.c (.int .i64 0)),some 16,(some (14,false)),[],[]⟩,⟨.bin .eql (.t 16) (.c (.int .u8 48)),some 17,(some (14,false)),[],[]⟩,⟨.mv (.t 17),some 18,(some (14,false)),[],[]⟩,⟨.mv (.t 0),some 19,(some (18,true)),[],[]⟩,⟨.len true (.t 19),some 20,(some (18,true)),[],[]⟩,⟨.bin .gtr (.t 20) (.c (.int .i64 1)),some 21,(some (18,true)),[],[]⟩,⟨.pick (.t 18) (.t 21) (.c (.bool false)),some 22,(some (14,false)),[],[]⟩,⟨.pick (.t 14) (.c (.bool true)) (.t 22),some 23,none,[],[]⟩]
def y1a:Reg:=⟨[],zh9,[],[],false⟩
def y19:Reg:=⟨[],[⟨.mv (.c (.int .i64 0)),some 2,none,[],[]⟩,⟨.mv (.c (.bool false)),some 3,none,[],[]⟩],[],[],false⟩
def y18:Reg:=⟨[],[⟨.mv (.c (.int .i64 0)),some 4,none,[],[]⟩],[],[],false⟩
def zh8:List ROp:=[⟨.mv (.t 0),some 24,none,[25],[]⟩,⟨.call 0 [(.t 24)],some 25,none,[],[]⟩,⟨.len false (.t 25),some 26,none,[],[]⟩,⟨.mv (.c (.int .i64 0)),some 27,none,[],[]⟩]
def y17:Reg:=⟨[],zh8,[25],[],false⟩
def y16:Reg:=⟨[],[⟨.bin .lss (.t 27) (.t 26),some 28,none,[],[]⟩],[],[],false⟩
def zh7:List ROp:=[⟨.iaddr 1 (.t 25) (.t 27),some 29,none,[],[]⟩,⟨.load 1 false (.t 29),some 30,none,[],[]⟩,⟨.mv (.t 30),some 6,none,[],[]⟩]
def y15:Reg:=⟨[],zh7,[],[],false⟩
def zh6:List ROp:=[⟨.mv (.t 6),some 31,none,[],[]⟩,⟨.bin .lss (.t 31) (.c (.int .u8 48)),some 32,none,[],[]⟩,⟨.mv (.t 32),some 33,none,[],[]⟩,⟨.mv (.t 6),some 34,(some (33,false)),[],[]⟩,⟨.bin .gtr (.t 34) (.c (.int .u8 57)),some 35,(some (33,false)),[],[]⟩,⟨.pick (.t 33) (.c (.bool true)) (.t 35),some 36,none,[],[]⟩]
def y14:Reg:=⟨[],zh6,[],[],false⟩
def y13:Reg:=⟨[],[⟨.mv (.c (.int .i64 0)),some 2,none,[],[]⟩,⟨.mv (.c (.bool false)),some 3,none,[],[]⟩],[],[],false⟩
def zh5:List ROp:=[⟨.mv (.t 4),some 37,none,[],[]⟩,⟨.bin .mul (.c (.int .i64 10)) (.t 37),some 38,none,[],[]⟩,⟨.mv (.t 6),some 39,none,[],[]⟩,⟨.bin .sub (.t 39) (.c (.int .u8 48)),some 40,none,[],[]⟩,⟨.conv .i64 (.t 40),some 41,none,[],[]⟩,⟨.bin .add (.t 38) (.t 41),some 42,none,[],[]⟩,⟨.mv (.t 42),some 4,none,[],[]⟩]
def y12:Reg:=⟨[],zh5,[],[],false⟩
def zqn:Reg:=⟨[],[⟨.bin .add (.t 27) (.c (.int .i64 1)),some 43,none,[],[]⟩,⟨.mv (.t 43),some 27,none,[],[]⟩],[],[],false⟩
def z8s:IR:=(.seq (.reg y16)
 (.seq (.cond (.t 28) .skip
 (.exit 0))
 (.seq (.block 1 (.seq (.reg y15)
 (.seq (.seq (.reg y14)
 (.cond (.t 36) (.seq (.reg y13)
 .ret)
 .skip))
 (.reg y12))))
 (.reg zqn))))
def zai:List ROp:=[⟨.mv (.t 4),some 44,none,[],[]⟩,⟨.mv (.t 44),some 2,none,[],[]⟩,⟨.mv (.c (.bool true)),some 3,none,[],[]⟩]
def ze3:Reg:=⟨[],zai,[],[],false⟩
def zzi:IR:=(.seq (.reg y1b)
 (.seq (.seq (.reg y1a)
 (.cond (.t 23) (.seq (.reg y19)
 .ret)
 .skip))
 (.seq (.reg y18)
 (.seq (.seq (.reg y17)
 (.block 0 (.loop z8s)))
 (.seq (.reg ze3)
 .ret)))))
def zk2:List RDesc:=[(.tmp 2),(.tmp 3)]
theorem e_undec_0:EqR y1b [⟨.mv (.c (.int .i64 0)),some 2,none,[],[]⟩,⟨.mv (.c (.bool false)),some 3,none,[],[]⟩] []:=fun _ _ _=>rfl
theorem e_undec_1:EqR y1a zh9 []:=fun _ _ _=>rfl
theorem e_undec_2:EqR y19 [⟨.mv (.c (.int .i64 0)),some 2,none,[],[]⟩,⟨.mv (.c (.bool false)),some 3,none,[],[]⟩] []:=fun _ _ _=>rfl
theorem e_undec_3:EqR y18 [⟨.mv (.c (.int .i64 0)),some 4,none,[],[]⟩] []:=fun _ _ _=>rfl
theorem e_undec_4:EqR y17 zh8 [25]:=fun _ _ _=>rfl
theorem e_undec_5:EqR y16 [⟨.bin .lss (.t 27) (.t 26),some 28,none,[],[]⟩] []:=fun _ _ _=>rfl
theorem e_undec_6:EqR y15 zh7 []:=fun _ _ _=>rfl
theorem e_undec_7:EqR y14 zh6 []:=fun _ _ _=>rfl
theorem e_undec_8:EqR y13 [⟨.mv (.c (.int .i64 0)),some 2,none,[],[]⟩,⟨.mv (.c (.bool false)),some 3,none,[],[]⟩] []:=fun _ _ _=>rfl
theorem e_undec_9:EqR y12 zh5 []:=fun _ _ _=>rfl
theorem e_undec_10:EqR zqn [⟨.bin .add (.t 27) (.c (.int .i64 1)),some 43,none,[],[]⟩,⟨.mv (.t 43),some 27,none,[],[]⟩] []:=fun _ _ _=>rfl
theorem e_undec_12:EqR ze3 zai []:=fun _ _ _=>rfl
theorem fn_undec {args:List AV} {r:AV} (ha:args.length.ble Tryz.f34.ntmps = true) (h:run (AFn Tryz.prog) zzi (endQ zk2 r) (z0b args)):AFn Tryz.prog 34 args r :=
 AFn.of_code (pv:=false) (hint:=fun _=>[]) (c:=Tryz.f34.body.getD .skip) (by kernel_rfl) (by kernel_rfl) Tryz.func34 (by kernel_rfl) (by kernel_rfl) (by kernel_rfl) (of_decide_eq_true (by kernel_rfl)) (Nat.le_of_ble_eq_true ha) (Nat.le_of_ble_eq_true (by kernel_rfl)) (z0c h)
attribute [local go_sem ↓] ir_unq
attribute [local go_sem] res_unq e_unq_0 e_unq_1 e_unq_2 e_unq_3 e_unq_4 e_unq_5 y8n e_unq_6 y8m e_unq_7 y8l e_unq_8 y8k e_unq_9 e_unq_10 zxw zzk e_unq_11 e_unq_12 e_unq_13 zxv e_unq_14 zxu e_unq_15 zxt e_unq_17 zxs
attribute [local go_sem ↓] zzi
attribute [local go_sem] zk2 e_undec_0 e_undec_1 zh9 e_undec_2 e_undec_3 e_undec_4 zh8 e_undec_5 e_undec_6 zh7 e_undec_7 zh6 e_undec_8 e_undec_9 zh5 e_undec_10 e_undec_12 zai
theorem zp2:∀ c:UInt8,digF c < 16:=by
 have h:∀ n:Fin 256,digF (UInt8.ofFin n) < 16:=by decide +kernel
 intro c
 have:=h c.toFin
 simpa using this
theorem or_hex:∀ a b:Fin 16,IntKind.i64.wrap (orI .i64 ((a.val:Int) * 16) (b.val:Int)) = (a.val:Int) * 16 + (b.val:Int):=by decide +kernel
def hexV (a b:UInt8):UInt8:=UInt8.ofNat (digF a * 16 + digF b).toNat
def uqGo (s:List UInt8):Nat->Nat->List UInt8->Option (List UInt8)
 | 0,_,out=>some out
 | f + 1,i,out=>match s[i]? with
  | none=>some out
  | some c=>if z0u c then uqGo s f (i + 1) (out ++ [c]) else if c ≠ 37∨s.length - i < 3 then none else match s[i + 1]?,s[i + 2]? with
   | some a,some b=>if digF a < 0∨digF b < 0 then none else if z0u (hexV a b) then none else uqGo s f (i + 3) (out ++ [hexV a b])
   | _,_=>none
def zpe:Option (List UInt8)->AV
 | some out=>.tup [.str ⟨out.toArray⟩,.bool (decide (0 < (out.length:Int)))]
 | none=>.tup [.str ⟨#[]⟩,.bool false]
def uqF (s:ByteArray):AV:=if s.toList == (ByteArray.mk #[45]).toList then .tup [.str ⟨#[]⟩,.bool true] else zpe (uqGo s.data.toList s.size 0 [])
def uqInv (s:ByteArray) (r:Option (List UInt8)) (k:Nat) (σ:St):Prop :=
 ∃ (i:Nat) (out:List UInt8),i≤s.size + 2∧out.length≤i∧s.size≤i + k∧σ.T 0 = .str s∧σ.T 5 = .int .i64 i∧σ.T 4 = .rs 4 0 out.length∧σ.H 4 = some ⟨1,5,out.map bz,0⟩∧uqGo s.data.toList k i out = r
theorem bz_all (l:List UInt8):(l.map bz).all AV.byteB = true:=by
 rw [List.all_map]
 exact List.all_eq_true.2 fun c _=>z5f c
theorem bz_back (l:List UInt8):(l.map bz).map AV.toB = l:=by
 rw [List.map_map]
 conv=>rhs; rw [← List.map_id l]
 exact List.map_congr_left fun c _=>zh1 c
theorem unq_ok (s:ByteArray) (hs:s.size≤1000000):AFn Tryz.prog 65 [.str s] (uqF s):=by
 have hL:s.data.toList.length = s.size:=by rw [Array.length_toList]; rfl
 refine fn_unq rfl ?_
 unfold uqF
 cases he:(s.toList == (ByteArray.mk #[45]).toList) with
 | true =>
  rw [if_pos rfl]
  simp (maxSteps:=9^7) only [go_sem,↓reduceIte,reduceCtorEq,Nat.reduceEqDiff,Nat.reduceBEq,Nat.reduceAdd,Nat.reduceSub,Nat.reduceMul,Nat.reduceLT,Nat.reduceLeDiff,Nat.reduceBNe,Int.reduceBEq,Int.reduceBNe,Int.reduceLT,Int.reduceLE,he]
 | false =>
  rw [if_neg (by simp)]
  simp (maxSteps:=9^7) only [go_sem,↓reduceIte,reduceCtorEq,Nat.reduceEqDiff,Nat.reduceBEq,Nat.reduceAdd,Nat.reduceSub,Nat.reduceMul,Nat.reduceLT,Nat.reduceLeDiff,Nat.reduceBNe,Int.reduceBEq,Int.reduceBNe,Int.reduceLT,Int.reduceLE,he]
  refine z0d (uqInv s (uqGo s.data.toList s.size 0 [])) (k:=s.size) ⟨0,[],by omega,Nat.le_refl _,by omega,?_,?_,?_,?_,rfl⟩ ?_
  ·simp (maxSteps:=9^7) only [go_sem,↓reduceIte,reduceCtorEq,Nat.reduceEqDiff,Nat.reduceBEq,Nat.reduceAdd,Nat.reduceSub,Nat.reduceMul,Nat.reduceLT,Nat.reduceLeDiff,Nat.reduceBNe,Int.reduceBEq,Int.reduceBNe,Int.reduceLT,Int.reduceLE]
  ·simp (maxSteps:=9^7) only [go_sem,↓reduceIte,reduceCtorEq,Nat.reduceEqDiff,Nat.reduceBEq,Nat.reduceAdd,Nat.reduceSub,Nat.reduceMul,Nat.reduceLT,Nat.reduceLeDiff,Nat.reduceBNe,Int.reduceBEq,Int.reduceBNe,Int.reduceLT,Int.reduceLE]
   rfl
  iterate 2 focus ((simp (maxSteps:=9^7) only [go_sem,↓reduceIte,reduceCtorEq,Nat.reduceEqDiff,Nat.reduceBEq,Nat.reduceAdd,Nat.reduceSub,Nat.reduceMul,Nat.reduceLT,Nat.reduceLeDiff,Nat.reduceBNe,Int.reduceBEq,Int.reduceBNe,Int.reduceLT,Int.reduceLE]) <;> rfl)
  rintro k σ ⟨i,out,hi,ho,hk,t0,t5,t4,o4,hr⟩
  simp only [y11]
  have hto:(out.map bz).take out.length = out.map bz:=List.take_of_length_le (by rw [List.length_map]; exact Nat.le_refl _)
  have hw1:IntKind.i64.wrap ((i:Int) + 1) = ((i + 1:Nat):Int):=by rw [IntWalk.i64_in _ (by omega)]; rfl
  by_cases hlt:i < s.size
  ·have hlt':(i:Int) < (s.size:Int):=by omega
   obtain ⟨f,rfl⟩:∃ f,k = f + 1:=⟨k - 1,by omega⟩
   have hli:i < s.data.toList.length:=by omega
   obtain ⟨c,hc⟩:∃ c,s.data.toList[i]? = some c:=⟨_,List.getElem?_eq_getElem hli⟩
   have hg:s.data.toList.getD i 0 = c:=by rw [List.getD_eq_getElem?_getD,hc]; rfl
   rw [uqGo,hc] at hr
   simp only at hr
   simp (maxSteps:=9^7) only [go_sem,↓reduceIte,reduceCtorEq,Nat.reduceEqDiff,Nat.reduceBEq,Nat.reduceAdd,Nat.reduceSub,Nat.reduceMul,Nat.reduceLT,Nat.reduceLeDiff,Nat.reduceBNe,Int.reduceBEq,Int.reduceBNe,Int.reduceLT,Int.reduceLE,t0,t5,t4,o4,hlt',hg,Int.toNat_natCast]
   (repeat refine And.intro (by omega) ?_)
   (first | refine z01 (z9x c) ?_ | refine z00 (z9x c) ?_)
   cases hp:z0u c with
   | true =>
    rw [hp,if_pos rfl] at hr
    simp (maxSteps:=9^7) only [go_sem,↓reduceIte,reduceCtorEq,Nat.reduceEqDiff,Nat.reduceBEq,Nat.reduceAdd,Nat.reduceSub,Nat.reduceMul,Nat.reduceLT,Nat.reduceLeDiff,Nat.reduceBNe,Int.reduceBEq,Int.reduceBNe,Int.reduceLT,Int.reduceLE,t0,t5,t4,o4,hp,hg,hw1,Int.toNat_natCast,List.length_map]
    (repeat refine And.intro (by omega) ?_)
    refine ⟨⟨⟨by omega,by omega⟩,fun d hd=>by rcases hd with rfl | hd; exact ⟨rfl,rfl⟩; cases hd⟩,f,by omega,i + 1,out ++ [c],by omega,by rw [List.length_append]; simp; omega,by omega,?_,?_,?_,?_,hr⟩ <;>
     (simp (maxSteps:=9^7) only [go_sem,↓reduceIte,reduceCtorEq,Nat.reduceEqDiff,Nat.reduceBEq,Nat.reduceAdd,Nat.reduceSub,Nat.reduceMul,Nat.reduceLT,Nat.reduceLeDiff,Nat.reduceBNe,Int.reduceBEq,Int.reduceBNe,Int.reduceLT,Int.reduceLE,t0,t5,t4,o4,hto,List.length_append,List.map_append])
   | false =>
    rw [hp,if_neg (by simp)] at hr
    by_cases h37:c = 37
    ·subst h37
     have hc37:((((37:UInt8).toNat:Nat):Int) != 37) = false:=by decide
     have hwl:IntKind.i64.wrap ((s.size:Int) - (i:Int)) = (s.size:Int) - (i:Int):=IntWalk.i64_in _ (by omega)
     by_cases h3:s.size - i < 3
     ·rw [if_pos (.inr (by rw [hL]; exact h3))] at hr
      have h3':(s.size:Int) - (i:Int) < 3:=by omega
      simp (maxSteps:=9^7) only [go_sem,↓reduceIte,reduceCtorEq,Nat.reduceEqDiff,Nat.reduceBEq,Nat.reduceAdd,Nat.reduceSub,Nat.reduceMul,Nat.reduceLT,Nat.reduceLeDiff,Nat.reduceBNe,Int.reduceBEq,Int.reduceBNe,Int.reduceLT,Int.reduceLE,t0,t5,t4,o4,hg,hc37,hwl,h3',Int.toNat_natCast]
      (repeat refine And.intro (by omega) ?_)
      simp only [← hr,zpe]
     ·rw [if_neg (by rw [hL]; rintro (h | h); exact h rfl; omega)] at hr
      have h3':¬ (s.size:Int) - (i:Int) < 3:=by omega
      obtain ⟨a,ha⟩:∃ a,s.data.toList[i + 1]? = some a:=⟨_,List.getElem?_eq_getElem (by omega)⟩
      obtain ⟨b,hb⟩:∃ b,s.data.toList[i + 2]? = some b:=⟨_,List.getElem?_eq_getElem (by omega)⟩
      have hga:s.data.toList.getD (i + 1) 0 = a:=by rw [List.getD_eq_getElem?_getD,ha]; rfl
      have hgb:s.data.toList.getD (i + 2) 0 = b:=by rw [List.getD_eq_getElem?_getD,hb]; rfl
      have hw2:IntKind.i64.wrap ((i:Int) + 2) = ((i + 2:Nat):Int):=by rw [IntWalk.i64_in _ (by omega)]; rfl
      have hw3:IntKind.i64.wrap (((i + 2:Nat):Int) + 1) = ((i + 3:Nat):Int):=by rw [IntWalk.i64_in _ (by omega)]; rfl
      rw [ha,hb] at hr
      simp only at hr
      simp (maxSteps:=9^7) only [go_sem,↓reduceIte,reduceCtorEq,Nat.reduceEqDiff,Nat.reduceBEq,Nat.reduceAdd,Nat.reduceSub,Nat.reduceMul,Nat.reduceLT,Nat.reduceLeDiff,Nat.reduceBNe,Int.reduceBEq,Int.reduceBNe,Int.reduceLT,Int.reduceLE,t0,t5,t4,o4,hg,hc37,hwl,h3',hw1,hga,Int.toNat_natCast]
      (repeat refine And.intro (by omega) ?_)
      (first | refine z01 (z3v a) ?_ | refine z00 (z3v a) ?_)
      by_cases hda:digF a < 0
      ·rw [if_pos (.inl hda)] at hr
       simp (maxSteps:=9^7) only [go_sem,↓reduceIte,reduceCtorEq,Nat.reduceEqDiff,Nat.reduceBEq,Nat.reduceAdd,Nat.reduceSub,Nat.reduceMul,Nat.reduceLT,Nat.reduceLeDiff,Nat.reduceBNe,Int.reduceBEq,Int.reduceBNe,Int.reduceLT,Int.reduceLE,hda]
       simp only [← hr,zpe]
      ·simp (maxSteps:=9^7) only [go_sem,↓reduceIte,reduceCtorEq,Nat.reduceEqDiff,Nat.reduceBEq,Nat.reduceAdd,Nat.reduceSub,Nat.reduceMul,Nat.reduceLT,Nat.reduceLeDiff,Nat.reduceBNe,Int.reduceBEq,Int.reduceBNe,Int.reduceLT,Int.reduceLE,t0,t5,hda,hw2,hgb,Int.toNat_natCast]
       (repeat refine And.intro (by omega) ?_)
       (first | refine z01 (z3v b) ?_ | refine z00 (z3v b) ?_)
       by_cases hdb:digF b < 0
       ·rw [if_pos (.inr hdb)] at hr
        simp (maxSteps:=9^7) only [go_sem,↓reduceIte,reduceCtorEq,Nat.reduceEqDiff,Nat.reduceBEq,Nat.reduceAdd,Nat.reduceSub,Nat.reduceMul,Nat.reduceLT,Nat.reduceLeDiff,Nat.reduceBNe,Int.reduceBEq,Int.reduceBNe,Int.reduceLT,Int.reduceLE,hdb]
        simp only [← hr,zpe]
       ·rw [if_neg (by omega)] at hr
        have ba:=zp2 a
        have bb:=zp2 b
        have hsh:IntKind.i64.wrap (digF a * 2 ^ min (Int.toNat 4) 64) = digF a * 16:=by
         rw [show (2:Int) ^ min (Int.toNat 4) 64 = 16 by decide]
         exact IntWalk.i64_in _ (by omega)
        have hor:IntKind.i64.wrap (orI .i64 (digF a * 16) (digF b)) = digF a * 16 + digF b:=by
         have:=or_hex ⟨(digF a).toNat,by omega⟩ ⟨(digF b).toNat,by omega⟩
         simp only at this
         rwa [show (((digF a).toNat:Nat):Int) = digF a by omega,show (((digF b).toNat:Nat):Int) = digF b by omega] at this
        have hv:IntKind.u8.wrap (digF a * 16 + digF b) = ((hexV a b).toNat:Int):=by
         have:=wrapU8 (digF a * 16 + digF b).toNat
         rwa [show (((digF a * 16 + digF b).toNat:Nat):Int) = digF a * 16 + digF b by omega] at this
        simp (maxSteps:=9^7) only [go_sem,↓reduceIte,reduceCtorEq,Nat.reduceEqDiff,Nat.reduceBEq,Nat.reduceAdd,Nat.reduceSub,Nat.reduceMul,Nat.reduceLT,Nat.reduceLeDiff,Nat.reduceBNe,Int.reduceBEq,Int.reduceBNe,Int.reduceLT,Int.reduceLE,t0,t5,hdb,hw1,hw2,hga,hgb,Int.toNat_natCast]
        (repeat refine And.intro (by omega) ?_)
        (first | refine z01 (z3v a) ?_ | refine z00 (z3v a) ?_)
        simp (maxSteps:=9^7) only [go_sem,↓reduceIte,reduceCtorEq,Nat.reduceEqDiff,Nat.reduceBEq,Nat.reduceAdd,Nat.reduceSub,Nat.reduceMul,Nat.reduceLT,Nat.reduceLeDiff,Nat.reduceBNe,Int.reduceBEq,Int.reduceBNe,Int.reduceLT,Int.reduceLE,t0,t5,hw1,hw2,hga,hgb,hsh,Int.toNat_natCast]
        (repeat refine And.intro (by omega) ?_)
        (first | refine z01 (z3v b) ?_ | refine z00 (z3v b) ?_)
        simp (maxSteps:=9^7) only [go_sem,↓reduceIte,reduceCtorEq,Nat.reduceEqDiff,Nat.reduceBEq,Nat.reduceAdd,Nat.reduceSub,Nat.reduceMul,Nat.reduceLT,Nat.reduceLeDiff,Nat.reduceBNe,Int.reduceBEq,Int.reduceBNe,Int.reduceLT,Int.reduceLE,t0,t5,hor,hv]
        (first | refine z01 (z9x (hexV a b)) ?_ | refine z00 (z9x (hexV a b)) ?_)
        cases hp2:z0u (hexV a b) with
        | true =>
         rw [hp2,if_pos rfl] at hr
         simp (maxSteps:=9^7) only [go_sem,↓reduceIte,reduceCtorEq,Nat.reduceEqDiff,Nat.reduceBEq,Nat.reduceAdd,Nat.reduceSub,Nat.reduceMul,Nat.reduceLT,Nat.reduceLeDiff,Nat.reduceBNe,Int.reduceBEq,Int.reduceBNe,Int.reduceLT,Int.reduceLE,hp2]
         simp only [← hr,zpe]
        | false =>
         rw [hp2,if_neg (by simp)] at hr
         simp (maxSteps:=9^7) only [go_sem,↓reduceIte,reduceCtorEq,Nat.reduceEqDiff,Nat.reduceBEq,Nat.reduceAdd,Nat.reduceSub,Nat.reduceMul,Nat.reduceLT,Nat.reduceLeDiff,Nat.reduceBNe,Int.reduceBEq,Int.reduceBNe,Int.reduceLT,Int.reduceLE,t0,t5,t4,o4,hw2,hw3,List.length_map]
         (repeat refine And.intro (by omega) ?_)
         refine ⟨⟨⟨by omega,by omega⟩,fun d hd=>by rcases hd with rfl | hd; exact ⟨rfl,rfl⟩; cases hd⟩,f,by omega,i + 3,out ++ [hexV a b],by omega,by rw [List.length_append]; simp; omega,by omega,?_,?_,?_,?_,hr⟩ <;>
          (simp (maxSteps:=9^7) only [go_sem,↓reduceIte,reduceCtorEq,Nat.reduceEqDiff,Nat.reduceBEq,Nat.reduceAdd,Nat.reduceSub,Nat.reduceMul,Nat.reduceLT,Nat.reduceLeDiff,Nat.reduceBNe,Int.reduceBEq,Int.reduceBNe,Int.reduceLT,Int.reduceLE,t0,t5,t4,o4,hto,List.length_append,List.map_append])
    ·rw [if_pos (.inl h37)] at hr
     have hc37:(((c.toNat:Nat):Int) != 37) = true:=by
      simp only [bne_iff_ne,ne_eq]
      intro e
      exact h37 (UInt8.toNat.inj (by rw [show (37:UInt8).toNat = 37 from rfl]; omega))
     simp (maxSteps:=9^7) only [go_sem,↓reduceIte,reduceCtorEq,Nat.reduceEqDiff,Nat.reduceBEq,Nat.reduceAdd,Nat.reduceSub,Nat.reduceMul,Nat.reduceLT,Nat.reduceLeDiff,Nat.reduceBNe,Int.reduceBEq,Int.reduceBNe,Int.reduceLT,Int.reduceLE,t0,t5,t4,o4,hg,hc37,Int.toNat_natCast]
     (repeat refine And.intro (by omega) ?_)
     simp only [← hr,zpe]
  ·have hlt':¬ (i:Int) < (s.size:Int):=by omega
   have hr':some out = uqGo s.data.toList s.size 0 []:=by
    rw [← hr]
    cases k with
    | zero=>rfl
    | succ f=>rw [uqGo,List.getElem?_eq_none (by omega)]
   simp (maxSteps:=9^7) only [go_sem,↓reduceIte,reduceCtorEq,Nat.reduceEqDiff,Nat.reduceBEq,Nat.reduceAdd,Nat.reduceSub,Nat.reduceMul,Nat.reduceLT,Nat.reduceLeDiff,Nat.reduceBNe,Int.reduceBEq,Int.reduceBNe,Int.reduceLT,Int.reduceLE,t0,t5,t4,o4,hlt',hto,bz_all,bz_back,List.length_map]
   rw [← hr']; rfl
def udGo:List UInt8->Int->Option Int
 | [],n=>some n
 | c :: l,n=>if (c.toNat:Int) < 48 then none else if 57 < (c.toNat:Int) then none else udGo l (10 * n + ((c.toNat:Int) - 48))
def zxo:Option Int->AV
 | some n=>.tup [.int .i64 n,.bool true]
 | none=>.tup [.int .i64 0,.bool false]
def udF (s:ByteArray):AV:=if s.size = 0∨9 < s.size∨(b0 s = 48∧1 < s.size) then .tup [.int .i64 0,.bool false] else zxo (udGo s.data.toList 0)
def udInv (s:ByteArray) (r:Option Int) (k:Nat) (σ:St):Prop :=
 ∃ (j:Nat) (n:Int),j≤s.size∧k = s.size - j∧0≤n∧n < 10 ^ j∧σ.T 25 = .sl (s.data.toList.map bz)∧σ.T 26 = .int .i64 s.size∧σ.T 27 = .int .i64 j∧σ.T 4 = .int .i64 n∧udGo (s.data.toList.drop j) n = r
theorem z6k {s:ByteArray}:(s.toList == (ByteArray.mk #[]).toList) = decide (s.size = 0):=by
 rw [ByteArray.toList_eq,ByteArray.toList_eq]
 have:s.size = s.data.toList.length:=by rw [Array.length_toList]; rfl
 rw [this]
 cases s.data.toList with
 | nil=>rfl
 | cons c l=>simp
theorem pow9:∀ j:Fin 9,(10:Int) ^ j.val≤100000000:=by decide
theorem zgs (s:ByteArray) (hs:s.size≤1000000):AFn Tryz.prog 34 [.str s] (udF s):=by
 have hL:s.data.toList.length = s.size:=by rw [Array.length_toList]; rfl
 have hz:Int.toNat 0 = 0:=rfl
 have hg0:s.data.toList.getD 0 0 = b0 s:=rfl
 have hb:=(b0 s).toNat_lt
 refine fn_undec rfl ?_
 unfold udF
 by_cases h0:s.size = 0
 ·have he:(s.toList == (ByteArray.mk #[]).toList) = true:=by rw [z6k]; simpa using h0
  rw [if_pos (.inl h0)]
  simp (maxSteps:=9^7) only [go_sem,↓reduceIte,reduceCtorEq,Nat.reduceEqDiff,Nat.reduceBEq,Nat.reduceAdd,Nat.reduceSub,Nat.reduceMul,Nat.reduceLT,Nat.reduceLeDiff,Nat.reduceBNe,Int.reduceBEq,Int.reduceBNe,Int.reduceLT,Int.reduceLE,he]
 ·have he:(s.toList == (ByteArray.mk #[]).toList) = false:=by rw [z6k]; simpa using h0
  by_cases h9:9 < s.size
  ·have h9':(9:Int) < (s.size:Int):=by omega
   rw [if_pos (.inr (.inl h9))]
   simp (maxSteps:=9^7) only [go_sem,↓reduceIte,reduceCtorEq,Nat.reduceEqDiff,Nat.reduceBEq,Nat.reduceAdd,Nat.reduceSub,Nat.reduceMul,Nat.reduceLT,Nat.reduceLeDiff,Nat.reduceBNe,Int.reduceBEq,Int.reduceBNe,Int.reduceLT,Int.reduceLE,he,h9']
  ·have h9':¬ (9:Int) < (s.size:Int):=by omega
   by_cases h48:b0 s = 48∧1 < s.size
   ·have e1:(((b0 s).toNat:Int) == 48) = true:=by rw [h48.1]; rfl
    have e2:(1:Int) < (s.size:Int):=by omega
    rw [if_pos (.inr (.inr h48))]
    simp (maxSteps:=9^7) only [go_sem,↓reduceIte,reduceCtorEq,Nat.reduceEqDiff,Nat.reduceBEq,Nat.reduceAdd,Nat.reduceSub,Nat.reduceMul,Nat.reduceLT,Nat.reduceLeDiff,Nat.reduceBNe,Int.reduceBEq,Int.reduceBNe,Int.reduceLT,Int.reduceLE,he,h9',hz,hg0,e1,e2]
    omega
   ·rw [if_neg (by rintro (h | h | h); exact h0 h; exact h9 h; exact h48 h)]
    have go:run (AFn Tryz.prog) zzi (endQ zk2 (zxo (udGo s.data.toList 0))) (z0b [.str s]):=by
     have key:∀ σ:St,σ.T 25 = .sl (s.data.toList.map bz)->σ.T 26 = .int .i64 s.size->σ.T 27 = .int .i64 0->σ.T 4 = .int .i64 0->awp (AFn Tryz.prog) (.loop z8s) (z4i 0 (z30 (run (AFn Tryz.prog) (.seq (.reg ze3) .ret) (endQ [.tmp 2,.tmp 3] (zxo (udGo s.data.toList 0)))) (endQ [.tmp 2,.tmp 3] (zxo (udGo s.data.toList 0))))) σ:=by
      intro σ q25 q26 q27 q4
      refine z0d (udInv s (udGo s.data.toList 0)) (k:=s.size) ⟨0,0,by omega,by omega,by omega,by omega,q25,q26,q27,q4,rfl⟩ ?_
      rintro k σ ⟨j,n,hj,rfl,hn0,hn1,t25,t26,t27,t4,hr⟩
      simp only [z8s]
      by_cases hlt:j < s.size
      ·have hlt':(j:Int) < (s.size:Int):=by omega
       have hli:j < s.data.toList.length:=by omega
       obtain ⟨c,hc⟩:∃ c,s.data.toList[j]? = some c:=⟨_,List.getElem?_eq_getElem hli⟩
       have hg:(s.data.toList.map bz).getD j .und = .int .u8 (c.toNat:Int):=by rw [List.getD_eq_getElem?_getD,List.getElem?_map,hc]; rfl
       have hw1:IntKind.i64.wrap ((j:Int) + 1) = ((j + 1:Nat):Int):=by rw [IntWalk.i64_in _ (by omega)]; rfl
       have hdc:s.data.toList.drop j = c :: s.data.toList.drop (j + 1):=by
        rw [List.drop_eq_getElem_cons hli]; congr 1; exact (List.getElem?_eq_some_iff.1 hc).2
       rw [hdc,udGo] at hr
       by_cases h1:(c.toNat:Int) < 48
       ·rw [if_pos h1] at hr
        simp (maxSteps:=9^7) only [go_sem,↓reduceIte,reduceCtorEq,Nat.reduceEqDiff,Nat.reduceBEq,Nat.reduceAdd,Nat.reduceSub,Nat.reduceMul,Nat.reduceLT,Nat.reduceLeDiff,Nat.reduceBNe,Int.reduceBEq,Int.reduceBNe,Int.reduceLT,Int.reduceLE,t25,t26,t27,t4,hlt',hg,h1,Int.toNat_natCast,List.length_map,hL]
        (repeat refine And.intro (by omega) ?_)
        simp only [← hr,zxo]
       ·rw [if_neg h1] at hr
        by_cases h2:57 < (c.toNat:Int)
        ·rw [if_pos h2] at hr
         simp (maxSteps:=9^7) only [go_sem,↓reduceIte,reduceCtorEq,Nat.reduceEqDiff,Nat.reduceBEq,Nat.reduceAdd,Nat.reduceSub,Nat.reduceMul,Nat.reduceLT,Nat.reduceLeDiff,Nat.reduceBNe,Int.reduceBEq,Int.reduceBNe,Int.reduceLT,Int.reduceLE,t25,t26,t27,t4,hlt',hg,h1,h2,Int.toNat_natCast,List.length_map,hL]
         (repeat refine And.intro (by omega) ?_)
         simp only [← hr,zxo]
        ·rw [if_neg h2] at hr
         have hpow:(10:Int) ^ (j + 1) = 10 * 10 ^ j:=by rw [Int.pow_succ,Int.mul_comm]
         have hp9:(10:Int) ^ j≤100000000:=pow9 ⟨j,by omega⟩
         have w1:IntKind.i64.wrap (10 * n) = 10 * n:=IntWalk.i64_in _ (by omega)
         have w2:IntKind.u8.wrap ((c.toNat:Int) - 48) = (c.toNat:Int) - 48:=by
          have:=c.toNat_lt
          rw [show ((c.toNat:Int) - 48) = ((c.toNat - 48:Nat):Int) by omega,wrapU8,show (UInt8.ofNat (c.toNat - 48)).toNat = (c.toNat - 48) % 256 from UInt8.toNat_ofNat' ..]
          omega
         have w3:IntKind.i64.wrap ((c.toNat:Int) - 48) = (c.toNat:Int) - 48:=IntWalk.i64_in _ (by omega)
         have w4:IntKind.i64.wrap (10 * n + ((c.toNat:Int) - 48)) = 10 * n + ((c.toNat:Int) - 48):=IntWalk.i64_in _ (by omega)
         simp (maxSteps:=9^7) only [go_sem,↓reduceIte,reduceCtorEq,Nat.reduceEqDiff,Nat.reduceBEq,Nat.reduceAdd,Nat.reduceSub,Nat.reduceMul,Nat.reduceLT,Nat.reduceLeDiff,Nat.reduceBNe,Int.reduceBEq,Int.reduceBNe,Int.reduceLT,Int.reduceLE,t25,t26,t27,t4,hlt',hg,h1,h2,w1,w2,w3,w4,hw1,Int.toNat_natCast,List.length_map,hL]
         (repeat refine And.intro (by omega) ?_)
         refine ⟨s.size - (j + 1),by omega,j + 1,10 * n + ((c.toNat:Int) - 48),by omega,rfl,by omega,by omega,?_,?_,?_,?_,hr⟩ <;>
          (simp (maxSteps:=9^7) only [go_sem,↓reduceIte,reduceCtorEq,Nat.reduceEqDiff,Nat.reduceBEq,Nat.reduceAdd,Nat.reduceSub,Nat.reduceMul,Nat.reduceLT,Nat.reduceLeDiff,Nat.reduceBNe,Int.reduceBEq,Int.reduceBNe,Int.reduceLT,Int.reduceLE,t25,t26,t27,t4])
      ·have hlt':¬ (j:Int) < (s.size:Int):=by omega
       have hjs:j = s.size:=by omega
       rw [List.drop_eq_nil_of_le (by omega),udGo] at hr
       simp (maxSteps:=9^7) only [go_sem,↓reduceIte,reduceCtorEq,Nat.reduceEqDiff,Nat.reduceBEq,Nat.reduceAdd,Nat.reduceSub,Nat.reduceMul,Nat.reduceLT,Nat.reduceLeDiff,Nat.reduceBNe,Int.reduceBEq,Int.reduceBNe,Int.reduceLT,Int.reduceLE,t25,t26,t27,t4,hlt',List.length_map,hL]
       rw [← hr]; rfl
     by_cases e1:b0 s = 48
     ·have e1':(((b0 s).toNat:Int) == 48) = true:=by rw [e1]; rfl
      have e2:¬ (1:Int) < (s.size:Int):=by have:¬ 1 < s.size:=fun h=>h48 ⟨e1,h⟩; omega
      simp (maxSteps:=9^7) only [go_sem,↓reduceIte,reduceCtorEq,Nat.reduceEqDiff,Nat.reduceBEq,Nat.reduceAdd,Nat.reduceSub,Nat.reduceMul,Nat.reduceLT,Nat.reduceLeDiff,Nat.reduceBNe,Int.reduceBEq,Int.reduceBNe,Int.reduceLT,Int.reduceLE,he,h9',hz,hg0,e1',e2]
      (repeat refine And.intro (by omega) ?_)
      refine key _ ?_ ?_ ?_ ?_ <;> (simp (maxSteps:=9^7) only [go_sem,↓reduceIte,reduceCtorEq,Nat.reduceEqDiff,Nat.reduceBEq,Nat.reduceAdd,Nat.reduceSub,Nat.reduceMul,Nat.reduceLT,Nat.reduceLeDiff,Nat.reduceBNe,Int.reduceBEq,Int.reduceBNe,Int.reduceLT,Int.reduceLE,List.length_map,hL])
     ·have e1':(((b0 s).toNat:Int) == 48) = false:=by
       rw [beq_eq_false_iff_ne]
       intro e
       exact e1 (UInt8.toNat.inj (by rw [show (48:UInt8).toNat = 48 from rfl]; omega))
      simp (maxSteps:=9^7) only [go_sem,↓reduceIte,reduceCtorEq,Nat.reduceEqDiff,Nat.reduceBEq,Nat.reduceAdd,Nat.reduceSub,Nat.reduceMul,Nat.reduceLT,Nat.reduceLeDiff,Nat.reduceBNe,Int.reduceBEq,Int.reduceBNe,Int.reduceLT,Int.reduceLE,he,h9',hz,hg0,e1']
      (repeat refine And.intro (by omega) ?_)
      refine key _ ?_ ?_ ?_ ?_ <;> (simp (maxSteps:=9^7) only [go_sem,↓reduceIte,reduceCtorEq,Nat.reduceEqDiff,Nat.reduceBEq,Nat.reduceAdd,Nat.reduceSub,Nat.reduceMul,Nat.reduceLT,Nat.reduceLeDiff,Nat.reduceBNe,Int.reduceBEq,Int.reduceBNe,Int.reduceLT,Int.reduceLE,List.length_map,hL])
    exact go
end
section
/-
 The library's text builder: WriteByte,Write,String,over the model itself.
-/
open Go.RowKit Go.Shelf
set_option linter.unusedVariables false
set_option linter.unusedSimpArgs false
set_option maxRecDepth 100000
def renB:Go.Shelf.Ren:=⟨fun | 167=>44 | n=>Tryz.lays156_ren.f n,Tryz.lays156_ren.t,Tryz.lays156_ren.g⟩
theorem laysCC:Go.Proofs.Lays.n240 Tryz.prog renB:={ Tryz.lays156 with }
theorem ygj:Builder.Extra Tryz.prog renB:={
 sizeBuilder:=by kernel_rfl
 liesBuilder:=by kernel_rfl
 t5:=Tryz.underlying5
 a5:=Tryz.isAgg5
 z5:=Tryz.sizeOf5
 v5:=Tryz.zeroValue5
 infoByte:=by kernel_rfl
 cellsByte:=by kernel_rfl
 sizeByte:=by kernel_rfl
 neB5:=by decide }
/-- a builder in block b,whose bytes lie in blocks from N on -/
def z1r (N b:Nat) (bs:List Value) (w:World):Prop:=b < N∧N≤w.heap.size∧∃ p v,(p = .pointer none∨p = .pointer (some ⟨b,0,none⟩))∧w.heap[b]? = some (.cells #[p,v] 88 (0,0))∧w.ownsRow N 5 1 v bs.length bs
/-- blocks below N but b are as they were -/
def z5h (N b:Nat) (w w':World):Prop:=Below b w w'∧∀ g,g < N->g ≠ b->w'.heap[g]? = w.heap[g]?
theorem zg8 {w:World} {N b:Nat} {v:Value} {n:Nat} {xs:List Value} (h:w.ownsRow N 5 1 v n xs) (hb:b < N):v.ownBlock ≠ some b:=by
 rcases h.2 with ⟨rfl,_⟩ | ⟨g,cap,cur,rfl,hg,_⟩
 ·simp [Value.ownBlock]
 ·intro e
  simp only [Value.ownBlock,Option.some.injEq] at e
  omega
theorem zz9 {w:World} {N b:Nat} {v:Value} {n:Nat} {xs:List Value} (h:w.ownsRow N 5 1 v n xs) (hb:b≤N):w.ownsRow b 5 1 v n xs:=by
 refine ⟨h.1,?_⟩
 rcases h.2 with h | ⟨g,cap,cur,h1,h2,h3⟩
 ·exact .inl h
 ·exact .inr ⟨g,cap,cur,h1,by omega,h3⟩
theorem z1r.is {N b:Nat} {bs:List Value} {w:World} (h:z1r N b bs w):Lib.IsBuilder 88 5 b b bs w:=by
 obtain ⟨h1,h2,p,v,h3,h4,h5⟩:=h
 rcases h3 with rfl | rfl
 ·exact .inl ⟨Nat.le_refl _,v,h4,zz9 h5 (by omega),zg8 h5 h1⟩
 ·exact .inr ⟨Nat.le_refl _,v,h4,zz9 h5 (by omega),zg8 h5 h1⟩
theorem own_set {w:World} {N b o:Nat} {v u:Value} {n:Nat} {xs:List Value} (h:w.ownsRow N 5 1 v n xs) (hb:b < N):(w.setCell ⟨b,o,none⟩ u).ownsRow N 5 1 v n xs :=
 h.kept (row:=some b) ⟨rfl,rfl,rfl,by simp [World.setCell],fun k _ hk=>Below.heap_setCell _ _ _ _ (fun e=>hk (by simp [e]))⟩ (Or.inr (zg8 h hb))
/-- a later world that keeps all blocks -/
theorem z1r.below {N b:Nat} {bs:List Value} {w w':World} (h:z1r N b bs w) (hb:Below w.heap.size w w'):z1r N b bs w':=by
 obtain ⟨h1,h2,p,v,h3,h4,h5⟩:=h
 refine ⟨h1,Nat.le_trans h2 hb.size,p,v,h3,by rw [hb.block b (by omega)]; exact h4,h5.1,?_⟩
 rcases h5.2 with h | ⟨g,cap,cur,e1,e2,e3,e4⟩
 ·exact .inl h
 ·refine .inr ⟨g,cap,cur,e1,e2,?_,e4⟩
  have hg:g < w.heap.size:=by
   rcases Nat.lt_or_ge g w.heap.size with h | h
   ·exact h
   ·rw [Array.getElem?_eq_none h] at e3; cases e3
  rw [hb.block g hg]; exact e3
theorem z5h.refl (N b:Nat) (w:World):z5h N b w w:=⟨Below.refl _ _,fun _ _ _=>rfl⟩
theorem z5h.trans {N b:Nat} {w w1 w2:World} (h:z5h N b w w1) (h':z5h N b w1 w2):z5h N b w w2 :=
 ⟨h.1.trans h'.1,fun g h1 h2=>(h'.2 g h1 h2).trans (h.2 g h1 h2)⟩
theorem z5h.below {N b:Nat} {w w1 w2:World} (h:z5h N b w w1) (hN:N≤w1.heap.size) (hbN:b < N) (h':Below w1.heap.size w1 w2):z5h N b w w2 :=
 ⟨h.1.trans (h'.mono (by omega)),fun g h1 h2=>by rw [h'.block g (by omega)]; exact h.2 g h1 h2⟩
theorem zxf (N b:Nat) (bs:List Value) (w0:World) (h0:z1r N b bs w0) :
  Calls Tryz.prog 72 #[.pointer (some ⟨b,0,none⟩)] w0 fun e w'=>e = .returned (.tuple #[])∧(∃ v,w'.heap[b]? = some (.cells #[.pointer (some ⟨b,0,none⟩),v] 88 (0,0))∧w'.ownsRow N 5 1 v bs.length bs)∧N≤w'.heap.size∧z5h N b w0 w'∧∀ g o,g ≠ b->w'.cell? ⟨g,o,none⟩ = w0.cell? ⟨g,o,none⟩:=by
 obtain ⟨q1,q2,p,v,q3,q4,q5⟩:=h0
 have hi:∀ p,w0.heap[b]? = some (.cells #[p,v] 88 (0,0))->Lib.BuilderAt 88 5 b b p bs w0:=fun p hp=>⟨Nat.le_refl _,v,hp,zz9 q5 (by omega),zg8 q5 q1⟩
 rcases q3 with rfl | rfl
 ·have hi:=hi _ q4
  refine (Any.Builder_copyCheck_fresh laysCC ygj.toX72 b w0 hi.cell0 hi.shape hi.frozen0).mono ?_
  rintro e w' ⟨rfl,rfl⟩
  refine ⟨rfl,⟨v,?_,own_set q5 q1⟩,by simpa [World.setCell] using q2,⟨(Below.refl b w0).setCell (p:=⟨b,0,none⟩) (Nat.le_refl _) _,fun g hg hgb=>Below.heap_setCell _ _ _ _ (fun e=>hgb e)⟩,fun g o hg=>World.cell?_setCell_other _ _ _ _ (fun e=>hg (by cases e; rfl))⟩
  simp [World.setCell,Array.getElem?_modify,q4]
 ·have hi:=hi _ q4
  refine (Any.Builder_copyCheck_used laysCC ygj.toX72 b w0 hi.cell0).mono ?_
  rintro e w' ⟨rfl,rfl⟩
  exact ⟨rfl,⟨v,q4,q5⟩,q2,z5h.refl _ _ _,fun _ _ _=>rfl⟩
/-- the builder's new bytes laid into it -/
theorem z1r.put {N b:Nat} {bs':List Value} {w:World} {p v v':Value} (h1:b < N) (h2:N≤w.heap.size) (hp:p = .pointer none∨p = .pointer (some ⟨b,0,none⟩)) (hb:w.heap[b]? = some (.cells #[p,v] 88 (0,0))) (ho:w.ownsRow N 5 1 v' bs'.length bs') :
  z1r N b bs' (w.setCell ⟨b,1,none⟩ v'):=by
 refine ⟨h1,by simpa [World.setCell] using h2,p,v',hp,?_,own_set ho h1⟩
 simp [World.setCell,Array.getElem?_modify,hb]
set_option maxHeartbeats 2000000 in
theorem writeB (N b:Nat) (bs:List Value) (bk o n cap:Nat) (xs:List Value) (w:World) (h:z1r N b bs w) (hlen:bs.length + xs.length≤140737488355328) (hn:xs.length = n) (hp:0 < n)
  (hbb:bk ≠ b) (hx:∀ (j:Nat) (u:Value),xs[j]? = some u->w.cell? ⟨bk,o + j,none⟩ = some u) (hone:∀ u,u ∈ xs->u.oneCell' = true) :
  Calls Tryz.prog 45 #[.pointer (some ⟨b,0,none⟩),.slice (some ⟨bk,o,none⟩) n cap] w fun e w'=>e = .returned (.tuple #[.int .i64 n,.nilIface])∧z1r N b (bs ++ xs) w'∧z5h N b w w':=by
 have hN:=h.1
 obtain ⟨i0,hi,hz0,hz1,hz2⟩:=info_parts ygj.infoByte
 go_enter Tryz.func45,Tryz.ntmps45
 go_wp2_with fail
 refine (zxf N b bs _ h).mono ?_
 rintro e w1 ⟨rfl,⟨v,hbk',hown⟩,hN1,hk1,hc1⟩
 have c0:w1.cell? ⟨b,0,none⟩ = some (.pointer (some ⟨b,0,none⟩)):=by rw [Lib.cell_of_heap hbk']; rfl
 have c1:w1.cell? ⟨b,1,none⟩ = some v:=by rw [Lib.cell_of_heap hbk']; rfl
 go_wp2_with (at_builtin; refine wpList_append_own _ rfl _ _ 86 rfl N 5 i0 (.int .u8 0) 1 1 Tryz.underlying86 hi hz0 hz1 hz2 rfl (by decide) _ _ _ rfl hown ⟨bk,o,none⟩ n cap xs rfl (by omega) ?c1 ?c2 ?c3 ?c4 ?c5 ?_)
 case c1 =>
  intro j u hj
  have hplain:(⟨bk,o,none⟩:Addr).add j = ⟨bk,o + j,none⟩:=by unfold Addr.add; split <;> simp_all
  rw [hplain,hc1 _ _ hbb]
  exact hx j u hj
 case c2=>exact hone
 case c3=>unfold maxLen; omega
 case c4=>omega
 case c5=>exact hN1
 intro v' w2 hown' hgrow _
 have hlt:b < w1.heap.size:=by omega
 have hb2:w2.heap[b]? = some (.cells #[.pointer (some ⟨b,0,none⟩),v] 88 (0,0)):=by
  rw [hgrow.block b hlt (fun e=>zg8 hown hN e.symm)]
  exact hbk'
 have d0:w2.cell? ⟨b,0,none⟩ = some (.pointer (some ⟨b,0,none⟩)):=by rw [Lib.cell_of_heap hb2]; rfl
 have d1:w2.cell? ⟨b,1,none⟩ = some v:=by rw [Lib.cell_of_heap hb2]; rfl
 have f1:w2.frozen? ⟨b,1,none⟩ = false:=Lib.frozen_of_heap hb2 1
 have hN2:N≤w2.heap.size:=Nat.le_trans hN1 hgrow.size
 obtain ⟨g,cap2,rfl⟩:∃ g cap2,v' = .slice (some ⟨g,0,none⟩) (bs.length + n) cap2:=by
  rcases hown'.2 with ⟨_,h0⟩ | ⟨g,cap,cur,hv,_⟩
  ·omega
  ·exact ⟨g,cap,hv⟩
 go_wp2
 go_ret2
 refine ⟨rfl,z1r.put hN hN2 (.inr rfl) hb2 (bs':=bs ++ xs) (by rw [List.length_append,hn]; exact hown'),?_,fun q hq hqb=>?_⟩
 ·exact (hk1.1.grown hgrow (by omega) (fun k hk=>by have:=(hown.lt k hk).1; omega)).setCell (p:=⟨b,1,none⟩) (Nat.le_refl _) _
 ·rw [Below.heap_setCell _ _ _ _ (fun e=>hqb e),hgrow.block q (by omega) (fun e=>zg8 hown hq e.symm)]
  exact hk1.2 q hq hqb
set_option maxHeartbeats 2000000 in
theorem writeByteB (N b:Nat) (bs:List Value) (c:Int) (w:World) (h:z1r N b bs w) (hlen:bs.length + 1≤140737488355328) :
  Calls Tryz.prog 44 #[.pointer (some ⟨b,0,none⟩),.int .u8 c] w fun e w'=>e = .returned .nilIface∧z1r N b (bs ++ [.int .u8 c]) w'∧z5h N b w w':=by
 have hN:=h.1
 obtain ⟨i0,hi,hz0,hz1,hz2⟩:=info_parts ygj.infoByte
 go_enter Tryz.func44,Tryz.ntmps44
 go_wp2_with fail
 refine (zxf N b bs _ h).mono ?_
 rintro e w1 ⟨rfl,⟨v,hbk',hown⟩,hN1,hk1,hc1⟩
 have c0:w1.cell? ⟨b,0,none⟩ = some (.pointer (some ⟨b,0,none⟩)):=by rw [Lib.cell_of_heap hbk']; rfl
 have c1:w1.cell? ⟨b,1,none⟩ = some v:=by rw [Lib.cell_of_heap hbk']; rfl
 go_wp2_with (at_builtin; refine wpList_append_own _ rfl _ _ 86 rfl N 5 i0 (.int .u8 0) 1 1 Tryz.underlying86 hi hz0 hz1 hz2 rfl (by decide) _ _ _ rfl (hown.alloc _) ⟨w1.heap.size,0,none⟩ 1 1 [.int .u8 c] rfl rfl ?c1 ?c2 ?c3 ?c4 ?c5 ?_)
 case c1 =>
  intro j u hj
  match j,hj with
  | 0,hj=>simp at hj; subst hj; simp [Addr.add]
 case c2=>intro u hu; simp at hu; subst hu; rfl
 case c3=>unfold maxLen; omega
 case c4=>omega
 case c5=>simp; omega
 intro v' w2 hown' hgrow _
 have hlt:b < w1.heap.size:=by omega
 have hb2:w2.heap[b]? = some (.cells #[.pointer (some ⟨b,0,none⟩),v] 88 (0,0)):=by
  rw [hgrow.block b (by simp; omega) (fun e=>zg8 hown hN e.symm),Lib.alloc_old w1 _ b hlt]
  exact hbk'
 have d0:w2.cell? ⟨b,0,none⟩ = some (.pointer (some ⟨b,0,none⟩)):=by rw [Lib.cell_of_heap hb2]; rfl
 have d1:w2.cell? ⟨b,1,none⟩ = some v:=by rw [Lib.cell_of_heap hb2]; rfl
 have f1:w2.frozen? ⟨b,1,none⟩ = false:=Lib.frozen_of_heap hb2 1
 have hN2:N≤w2.heap.size:=by have:=hgrow.size; simp at this; omega
 obtain ⟨g,cap2,rfl⟩:∃ g cap2,v' = .slice (some ⟨g,0,none⟩) (bs.length + 1) cap2:=by
  rcases hown'.2 with ⟨_,h0⟩ | ⟨g,cap,cur,hv,_⟩
  ·omega
  ·exact ⟨g,cap,hv⟩
 go_wp2
 go_ret
 refine ⟨rfl,z1r.put hN hN2 (.inr rfl) hb2 (bs':=bs ++ [.int .u8 c]) (by simpa using hown'),?_,fun q hq hqb=>?_⟩
 ·exact ((hk1.1.alloc (by omega) _).grown hgrow (by simp; omega) (fun k hk=>by have:=(hown.lt k hk).1; omega)).setCell (p:=⟨b,1,none⟩) (Nat.le_refl _) _
 ·rw [Below.heap_setCell _ _ _ _ (fun e=>hqb e),hgrow.block q (by simp; omega) (fun e=>zg8 hown hq e.symm),Lib.alloc_old w1 _ q (by omega)]
  exact hk1.2 q hq hqb
theorem stringB (N b:Nat) (l:List UInt8) (w:World) (h:z1r N b (Lib.byteCells l) w) :
  Calls Tryz.prog 46 #[.pointer (some ⟨b,0,none⟩)] w fun e w'=>e = .returned (.string ⟨l.toArray⟩)∧Below b w w' :=
 Tryz.Builder_String_any b b l w h.is (by have:=h.1; have:=h.2.1; omega)
end
section
/-
 Layer 6: words,a text as a word.
-/
open Go.RowKit
set_option linter.unusedVariables false
set_option linter.unusedSimpArgs false
set_option maxRecDepth 100000
attribute [local go_sem ↓] z11 z0l
/-! ### percolate/pack.Words -/
def y10:Reg:=⟨[],[⟨.mknil 1 9,some 2,none,[],[]⟩],[2],[],false⟩
def zh4:List ROp:=[⟨.mv (.t 0),some 3,none,[4],[]⟩,⟨.callv (.c (.clo 32 [] [])) [(.t 3),(.c (.str ⟨#[32]⟩))],some 4,none,[],[]⟩,⟨.mv (.t 4),some 2,none,[],[]⟩]
def y0z:Reg:=⟨[],zh4,[4],[],false⟩
def yfi:IR:=(.seq (.reg y10)
 (.seq (.reg y0z)
 .ret))
def y09:List RDesc:=[(.tmp 2)]
theorem e_words_0:EqR y10 [⟨.mknil 1 9,some 2,none,[],[]⟩] [2]:=fun _ _ _=>rfl
theorem e_words_1:EqR y0z zh4 [4]:=fun _ _ _=>rfl
theorem fn_words {args:List AV} {r:AV} (ha:args.length.ble Tryz.f33.ntmps = true) (h:run (AFn Tryz.prog) yfi (endQ y09 r) (z0b args)):AFn Tryz.prog 33 args r :=
 AFn.of_code (pv:=false) (hint:=fun _=>[]) (c:=Tryz.f33.body.getD .skip) (by kernel_rfl) (by kernel_rfl) Tryz.func33 (by kernel_rfl) (by kernel_rfl) (by kernel_rfl) (of_decide_eq_true (by kernel_rfl)) (Nat.le_of_ble_eq_true ha) (Nat.le_of_ble_eq_true (by kernel_rfl)) (z0c h)
attribute [local go_sem ↓] yfi
attribute [local go_sem] y09 e_words_0 e_words_1 zh4
theorem split_len {sep:ByteArray} (h1:1≤sep.size):∀ (n:Nat) (s:ByteArray),Lib.countB s sep = n->(Lib.splitB sep 0 n s).length = n + 1:=by
 intro n
 induction n with
 | zero=>intro s _; rfl
 | succ n ih =>
  intro s hc
  rcases Lib.indexB_cases s sep with h | ⟨i,h,_⟩
  ·rw [Lib.countB_miss s sep h] at hc; omega
  ·rw [Lib.countB_hit s sep i h1 h] at hc
   rw [Lib.splitB_hit sep 0 n s i h,List.length_cons,ih _ (by omega)]
def z3d (s sep:ByteArray):List ByteArray:=Lib.splitB sep 0 (Lib.countB s sep) s
theorem zyz (s sep:ByteArray) (hs:s.size≤1000000) (h1:1≤sep.size) (h9:(z3d s sep).length≤maxLen):AFn Tryz.prog 32 [.str s,.str sep] (.own 1 9 ((z3d s sep).map .str)):=by
 refine .flat2' (by kernel_rfl) zgt zgt fun w hG=>?_
 obtain ⟨m,hm⟩:=hG.cell0
 refine (Tryz.strings_Split s sep m w (by omega) hm h1).mono ?_
 rintro e w' ⟨rfl,rfl⟩
 have hl:=split_len h1 _ s rfl
 refine ⟨_,rfl,(Below.refl _ _).alloc (Nat.le_refl _) _,fun Q base hB=>?_⟩
 refine ⟨by omega,fun d hd=>?_,.inr ⟨w.heap.size,Lib.countB s sep + 1,_,?_,hB,heap_alloc_new w _,?_,?_,?_,fun i d j c hi hj=>?_⟩⟩
 ·obtain ⟨x,_,rfl⟩:=List.mem_map.1 hd
  exact ⟨rfl,fun c hc=>by simp [AV.cells] at hc; subst hc; rfl⟩
 ·rw [List.length_map]; unfold z3d; rw [hl]
 ·simp [hl]
 ·rw [List.length_map]; unfold z3d; rw [hl]; exact Nat.le_refl _
 ·unfold z3d at h9; rw [hl] at h9; exact h9
 ·rw [List.getElem?_map,Option.map_eq_some_iff] at hi
  obtain ⟨x,hx,rfl⟩:=hi
  cases j with
  | succ j=>simp [AV.cells] at hj
  | zero =>
   cases hj
   refine ⟨.string x,?_,.str _⟩
   have hx':(Lib.splitB sep 0 (Lib.countB s sep) s)[i]? = some x:=hx
   simp [hx']
theorem zxj (s:ByteArray) (hs:s.size≤1000000) (h9:(z3d s ⟨#[32]⟩).length≤maxLen):AFn Tryz.prog 33 [.str s] (.own 1 9 ((z3d s ⟨#[32]⟩).map .str)):=by
 refine fn_words rfl ?_
 simp (maxSteps:=9^7) only [go_sem,↓reduceIte,reduceCtorEq,Nat.reduceEqDiff,Nat.reduceBEq,Nat.reduceAdd,Nat.reduceSub,Nat.reduceMul,Nat.reduceLT,Nat.reduceLeDiff,Nat.reduceBNe,Int.reduceBEq,Int.reduceBNe,Int.reduceLT,Int.reduceLE]
 (first | refine z01 (zyz s ⟨#[32]⟩ hs (Nat.le_refl _) h9) ?_ | refine z00 (zyz s ⟨#[32]⟩ hs (Nat.le_refl _) h9) ?_)
 simp (maxSteps:=9^7) only [go_sem,↓reduceIte,reduceCtorEq,Nat.reduceEqDiff,Nat.reduceBEq,Nat.reduceAdd,Nat.reduceSub,Nat.reduceMul,Nat.reduceLT,Nat.reduceLeDiff,Nat.reduceBNe,Int.reduceBEq,Int.reduceBNe,Int.reduceLT,Int.reduceLE,List.length_map]
end
section
/-
 Layer 6: a text as a word,over the model itself.
-/
open Go.RowKit
set_option linter.unusedVariables false
set_option linter.unusedSimpArgs false
def hexD (n:Nat):UInt8:=hexL.getD n 0
def z0n:List UInt8->List UInt8
 | []=>[]
 | c :: l=>(if z0u c then [c] else [37,hexD (c.toNat / 16),hexD (c.toNat % 16)]) ++ z0n l
theorem z6r:∀ (l m:List UInt8),z0n (l ++ m) = z0n l ++ z0n m
 | [],m=>rfl
 | c :: l,m=>by
  rw [List.cons_append,z0n,z0n,z6r l m,List.append_assoc]
theorem ze5 (c:UInt8):z0n [c] = if z0u c then [c] else [37,hexD (c.toNat / 16),hexD (c.toNat % 16)]:=by
 rw [z0n,z0n,List.append_nil]
theorem z6q:∀ l:List UInt8,(z0n l).length≤3 * l.length
 | []=>Nat.le_refl _
 | c :: l=>by
  have:=z6q l
  rw [z0n,List.length_append,List.length_cons]
  split <;> simp <;> omega
def z04 (s:ByteArray):ByteArray:=if s.size = 0 then ⟨#[45]⟩ else ⟨(z0n s.data.toList).toArray⟩
theorem plain_any (c:UInt8) (w:World) (hG:Glob w):Calls Tryz.prog 43 #[.int .u8 (c.toNat:Int)] w fun e w'=>e = .returned (.bool (z0u c))∧Below w.heap.size w w':=by
 have:=(z9x c).calls w (fun _ _=>False) [.int .u8 (c.toNat:Int)] hG (fun _ _ h=>h.elim) rfl (fun j d u hj hu=>by
  cases j with
  | zero=>cases hj; cases hu; exact .int _ _
  | succ j=>simp at hj)
 refine this.mono fun e w' ⟨u,he,hb,hr⟩=>?_
 have hr':VR _ w' (.bool (z0u c)) u:=hr
 cases hr'
 exact ⟨he,hb⟩
theorem hexB (n:Nat) (h:n < 16):({ data:=#[48,49,50,51,52,53,54,55,56,57,97,98,99,100,101,102] }:ByteArray)[n]'h = hexD n:=by
 have:∀ i:Fin 16,({ data:=#[48,49,50,51,52,53,54,55,56,57,97,98,99,100,101,102] }:ByteArray)[i.val]'(i.isLt) = hexD i.val:=by decide +kernel
 exact this ⟨n,h⟩
theorem and15 (c:UInt8):bits BinOp.and IntKind.u8 (c.toNat:Int) 15 = (c.toNat:Int) % 16:=by
 have h:∀ n:Fin 256,bits BinOp.and IntKind.u8 (n.val:Int) 15 = (n.val:Int) % 16:=by decide +kernel
 exact h ⟨c.toNat,c.toNat_lt⟩
set_option maxRecDepth 100000 in
set_option maxHeartbeats 2000000 in
theorem quote_any (s:ByteArray) (w:World) (hG:Glob w) (hs:s.size≤1000000):Calls Tryz.prog 15 #[.string s] w fun e w'=>e = .returned (.string (z04 s))∧Below w.heap.size w w':=by
 by_cases h0:s.size = 0
 ·have he:s = ⟨#[]⟩:=by cases s; congr 1; exact Array.eq_empty_of_size_eq_zero h0
  subst he
  go_enter Tryz.func15,Tryz.ntmps15
  go_wp2_with fail
  go_ret
  exact ⟨rfl,Below.refl _ _⟩
 ·have he:s.toList.isEmpty = false:=by
   have:=z6k (s:=s)
   rw [show ((ByteArray.mk #[]).toList) = [] by rw [ByteArray.toList_eq]] at this
   cases hq:s.toList with
   | nil =>
    rw [hq,show decide (s.size = 0) = false by simpa using h0] at this
    simp at this
   | cons c l=>rfl
  have hL:s.data.toList.length = s.size:=by rw [Array.length_toList]; rfl
  obtain ⟨b,hb⟩:∃ b,w.heap.size = b:=⟨_,rfl⟩
  obtain ⟨W1,hW1⟩:∃ W1,w.alloc (.cells #[.pointer none,.slice none 0 0] 88) = W1:=⟨_,rfl⟩
  have hconv:=run_bytes_of_string (P:=Tryz.prog) W1 9 86 5 s Tryz.underlying9 Tryz.underlying86 Tryz.underlying5
  have hs1:W1.heap.size = b + 1:=by rw [← hW1,← hb]; simp
  obtain ⟨cp,hcp⟩:∃ cp,grownCap W1 s.size 0 5 = cp:=⟨_,rfl⟩
  rw [hcp,hs1] at hconv
  have hcp1:s.size≤cp:=by rw [← hcp]; exact grownCap_ge _ _ _ _
  have hcp2:cp≤maxLen:=by rw [← hcp]; exact grownCap_le_maxLen _ _ _ _ (by unfold maxLen; omega)
  obtain ⟨W2,hW2⟩:∃ W2,W1.drew.alloc (.cells (bytesRow s cp) 5 ((bytesRow s cp).size,(bytesRow s cp).size + 1)) = W2:=⟨_,rfl⟩
  rw [hW2] at hconv
  have hs2:W2.heap.size = b + 2:=by rw [← hW2]; simp [hs1]
  have hbW:Hid (Below b w W2):=by
   rw [← hW2,← hW1]
   exact (((Below.refl b w).alloc (by omega) _).drew).alloc (by simp; omega) _
  have hB0:Hid (z1r (b + 2) b (Lib.byteCells (z0n (s.data.toList.take 0))) W2):=by
   refine ⟨by omega,by omega,.pointer none,.slice none 0 0,.inl rfl,?_,⟨rfl,.inl ⟨rfl,rfl⟩⟩⟩
   have e1:W1.heap[b]? = some (.cells #[.pointer none,.slice none 0 0] 88 (0,0)):=by rw [← hW1,← hb]; exact heap_alloc_new w _
   rw [← hW2]
   exact (Lib.alloc_old W1.drew _ b (by simp [hs1])).trans e1
  have hcells:Hid (∀ (k:Nat) (c:UInt8),s.data.toList[k]? = some c->∀ wr:World,wr.heap[b + 1]? = W2.heap[b + 1]?->wr.cell? ⟨b + 1,k,none⟩ = some (.int .u8 (c.toNat:Int))):=by
   intro k c hk wr hwr
   have e2:=World.cell?_alloc_mark W1.drew (bytesRow s cp) 5 ((bytesRow s cp).size,(bytesRow s cp).size + 1) k
   rw [show W1.drew.heap.size = b + 1 from hs1,hW2] at e2
   have e3:wr.cell? ⟨b + 1,k,none⟩ = W2.cell? ⟨b + 1,k,none⟩:=by simp only [World.cell?,hwr]
   rw [e3,e2]
   have hk':k < s.data.size:=(List.getElem?_eq_some_iff.1 hk).1
   unfold bytesRow
   rw [Array.getElem?_append_left (by simpa using hk'),Array.getElem?_map]
   rw [Array.getElem?_toList] at hk
   rw [hk]; rfl
  have hGH:=Lib.hid hG
  have hLL:=Lib.hid hL
  have hSS:=Lib.hid hs2
  clear hG hL hcp hs1 hs2 hcp2
  go_enter Tryz.func15,Tryz.ntmps15
  go_wp2_with fail
  go_loopw [11] (fun j wr=>∃ k:Nat,j = .int .i64 k∧k≤s.size∧Hid (z1r (b + 2) b (Lib.byteCells (z0n (s.data.toList.take k))) wr)∧Hid (z5h (b + 2) b W2 wr)) (fun j _=>s.size - (intOf j).toNat)
  case atStart=>exact ⟨0,rfl,Nat.zero_le _,hB0,z5h.refl _ _ _⟩
  case round =>
   obtain ⟨k,rfl,hk,HB,HK⟩:=hrel
   have HG:Hid (Glob wr):=hGH.out.below (by rw [hb]; exact hbW.out.trans (HK.out.1))
   by_cases hlt:k < s.size
   ·obtain ⟨c,hc⟩:∃ c,s.data.toList[k]? = some c:=⟨_,List.getElem?_eq_getElem (by rw [hLL.out]; exact hlt)⟩
    have hcell:=hcells.out k c hc wr (HK.out.2 (b + 1) (by omega) (by omega))
    have hq:Hid (z0n (s.data.toList.take (k + 1)) = z0n (s.data.toList.take k) ++ (if z0u c then [c] else [37,hexD (c.toNat / 16),hexD (c.toNat % 16)])):=by
     show _ = _
     rw [List.take_add_one,hc]
     rw [z6r]; congr 1; exact ze5 c
    have hlen:Hid ((Lib.byteCells (z0n (s.data.toList.take k))).length≤3000000):=by
     show _≤_
     rw [Lib.byteCells_length]
     have h1:=z6q (s.data.toList.take k)
     have h2:(s.data.toList.take k).length≤s.size:=by rw [List.length_take,hLL.out]; omega
     omega
    have HC:=Lib.hid hc
    clear hc
    go_wp2_with fail
    refine (plain_any c _ HG.out).mono ?_
    rintro e w1 ⟨rfl,hb1⟩
    have HB1:Hid (z1r (b + 2) b (Lib.byteCells (z0n (s.data.toList.take k))) w1):=HB.out.below hb1
    have HK1:Hid (z5h (b + 2) b W2 w1):=HK.out.below HB.out.2.1 (by omega) hb1
    clear hb1 hcell
    cases hp:z0u c with
    | true =>
     go_wp2_with fail
     refine (writeByteB (b + 2) b _ (c.toNat:Int) _ HB1.out (by have:=hlen.out; omega)).mono ?_
     rintro e w2 ⟨rfl,h2,h3⟩
     have HB2:Hid (z1r (b + 2) b (Lib.byteCells (z0n (s.data.toList.take (k + 1)))) w2):=by
      have e:Lib.byteCells (z0n (s.data.toList.take (k + 1))) = Lib.byteCells (z0n (s.data.toList.take k)) ++ [.int .u8 (c.toNat:Int)]:=by
       rw [hq.out,hp,if_pos rfl]; simp [Lib.byteCells]
      show z1r _ _ _ _
      rw [e]; exact h2
     have HK2:Hid (z5h (b + 2) b W2 w2):=HK1.out.trans h3
     clear h2 h3
     go_wp2_with fail
     go_roundw
     case rel=>exact ⟨k + 1,by go_num,by omega,HB2,HK2⟩
     case measure=>simp [intOf]; omega
    | false =>
     go_wp2_with fail
     have hd0:(0:Int)≤(c.toNat:Int) / 16:=by omega
     have hd1:(c.toNat:Int) / 16 < 16:=by have:=c.toNat_lt; omega
     have hd2:=and15 c
     have hd3:(0:Int)≤(c.toNat:Int) % 16:=by omega
     have hd4:(c.toNat:Int) % 16 < 16:=by omega
     go_still_tail 6,(by kernel_rfl)
     change wpList _ _ _ _ _ w1.drew
     have HB2:Hid (z1r (b + 2) b (Lib.byteCells (z0n (s.data.toList.take k))) w1.drew):=HB1.out.below (Below.refl _ _).drew
     have HK2:Hid (z5h (b + 2) b W2 w1.drew):=HK1.out.below HB1.out.2.1 (by omega) (Below.refl _ _).drew
     generalize w1.drew = w2 at *
     go_wp2_with fail
     have hba:∀ o,Below w2.heap.size w2 (w2.alloc o):=fun o=>(Below.refl _ _).alloc (Nat.le_refl _) o
     have hw2:b + 2≤w2.heap.size:=HB2.out.2.1
     refine (writeB (b + 2) b _ w2.heap.size 0 3 3 [.int .u8 37,.int .u8 ((hexD (c.toNat / 16)).toNat:Int),.int .u8 ((hexD (c.toNat % 16)).toNat:Int)] _ (HB2.out.below (hba _)) (by have:=hlen.out; simp; omega) rfl (by omega) (by omega) (fun j u hj=>?_) (fun u hu=>by simp at hu; rcases hu with rfl | rfl | rfl <;> rfl)).mono ?_
     ·have hcell:=fun C=>World.cell?_alloc_mark w2 C 5 (0,0) j
      rw [Nat.zero_add]
      refine (hcell _).trans ?_
      have hc:=c.toNat_lt
      match j,hj with
      | 0,hj=>exact hj
      | 1,hj=>rw [← hj]; simp [hexB _ (show c.toNat / 16 < 16 by omega)]
      | 2,hj=>rw [← hj]; simp [hexB _ (show c.toNat % 16 < 16 by omega)]
     rintro e w3 ⟨rfl,h2,h3⟩
     have HB3:Hid (z1r (b + 2) b (Lib.byteCells (z0n (s.data.toList.take (k + 1)))) w3):=by
      have e:Lib.byteCells (z0n (s.data.toList.take (k + 1))) = Lib.byteCells (z0n (s.data.toList.take k)) ++ [.int .u8 37,.int .u8 ((hexD (c.toNat / 16)).toNat:Int),.int .u8 ((hexD (c.toNat % 16)).toNat:Int)]:=by
       rw [hq.out,hp,if_neg (by simp)]; simp [Lib.byteCells]
      show z1r _ _ _ _
      rw [e]; exact h2
     have HK3:Hid (z5h (b + 2) b W2 w3):=(HK2.out.below hw2 (by omega) (hba _)).trans h3
     clear h2 h3
     go_wp2_with fail
     go_roundw
     case rel=>exact ⟨k + 1,by go_num,by omega,HB3,HK3⟩
     case measure=>simp [intOf]; omega
   ·have hk2:k = s.size:=by omega
    have hall:Hid (s.data.toList.take s.size = s.data.toList):=List.take_of_length_le (by rw [hLL.out]; exact Nat.le_refl _)
    go_wp2_with fail
    refine (stringB (b + 2) b (z0n (s.data.toList.take k)) _ HB.out).mono ?_
    rintro e w1 ⟨rfl,hb1⟩
    go_wp2_with fail
    go_ret
    refine ⟨?_,?_⟩
    ·show Ending.returned (Value.string ⟨(z0n (s.data.toList.take s.size)).toArray⟩) = _
     rw [hall.out]; unfold z04; rw [if_neg h0]
    ·rw [hb]; exact (hbW.out.trans HK.out.1).trans hb1
theorem z07 (s:ByteArray) (hs:s.size≤1000000):AFn Tryz.prog 15 [.str s] (.str (z04 s)) :=
 .flat1 (by kernel_rfl) zgt (fun _ _ _=>.str _) fun w hG=>quote_any s w hG hs
end
section
/-
 The chapter's examples of layer 6,and the law PackTexts.
-/
open Go.RowKit
set_option linter.unusedVariables false
set_option linter.unusedSimpArgs false
set_option maxRecDepth 100000
theorem bext7 {a b:ByteArray} (h:a.data.toList = b.data.toList):a = b:=by
 cases a; cases b; congr 1; exact Array.ext' h
theorem zzo (s:ByteArray) (i j:Nat):(s.extract i j).data.toList = (s.data.toList.take j).drop i:=by
 rw [ByteArray.data_extract,Array.toList_extract,List.extract_eq_take_drop,List.drop_take]
theorem run_args {f:FuncId} {w:World} {ds:List AV} {vs:List Value} (hG:Glob w) (hl:ds.length = vs.length) (h:∀ (j:Nat) (d:AV) (u:Value),ds[j]? = some d->vs[j]? = some u->VR (fun b _=>b < w.heap.size) w d u) (hA:AFn Tryz.prog f ds (.bool true)) :
  Calls Tryz.prog f ⟨vs⟩ w fun e w'=>e = .returned (.bool true)∧Below w.heap.size w w':=by
 have:=hA.calls w (fun b _=>b < w.heap.size) vs hG (fun b o hb=>hb) hl h
 refine this.mono fun e w' ⟨u,he,hb,hr⟩=>?_
 have hr':VR (fun b o=>(fun b _=>b < w.heap.size) b o∨w.heap.size≤b) w' (.bool true) u:=hr
 cases hr'
 exact ⟨he,hb⟩
end
section
/-
 Layer 6: words and texts,in plain lists.
-/
open Go.RowKit
set_option linter.unusedVariables false
set_option linter.unusedSimpArgs false
set_option maxRecDepth 100000
def uqL:List UInt8->Option (List UInt8)
 | []=>some []
 | c :: l=>if z0u c then (uqL l).map (c :: ·) else if c ≠ 37 then none else match l with
  | a :: b :: m=>if digF a < 0∨digF b < 0 then none else if z0u (hexV a b) then none else (uqL m).map (hexV a b :: ·)
  | _=>none
theorem z6m (c:UInt8) (l:List UInt8):uqL (c :: l) = if z0u c then (uqL l).map (c :: ·) else if c ≠ 37 then none else match l with
  | a :: b :: m=>if digF a < 0∨digF b < 0 then none else if z0u (hexV a b) then none else (uqL m).map (hexV a b :: ·)
  | _=>none:=by
 match l with
 | []=>rfl
 | [_]=>rfl
 | _ :: _ :: _=>rfl
theorem zoz {α:Type} {s:List α} {i:Nat} {c:α} (h:s[i]? = some c):s.drop i = c :: s.drop (i + 1):=by
 obtain ⟨hi,hc⟩:=List.getElem?_eq_some_iff.1 h
 rw [List.drop_eq_getElem_cons hi,hc]
theorem uqGo_list (s:List UInt8):∀ (f i:Nat) (out:List UInt8),s.length≤i + f->uqGo s f i out = (uqL (s.drop i)).map (out ++ ·):=by
 intro f
 induction f using Nat.strongRecOn with
 | ind f ih =>
  intro i out h
  cases f with
  | zero =>
   rw [List.drop_eq_nil_of_le (by omega)]
   simp [uqGo,uqL]
  | succ f =>
   rw [uqGo]
   cases hc:s[i]? with
   | none =>
    have:s.length≤i:=by simpa using hc
    rw [List.drop_eq_nil_of_le this]
    simp [uqL]
   | some c =>
    have hi:i < s.length:=(List.getElem?_eq_some_iff.1 hc).1
    rw [zoz hc,z6m]
    simp only
    cases hp:z0u c with
    | true =>
     simp only [if_true]
     rw [ih f (by omega) (i + 1) _ (by omega),Option.map_map]
     congr 1
     funext l
     simp
    | false =>
     simp only [Bool.false_eq_true,if_false]
     by_cases h37:c = 37
     ·subst h37
      by_cases h3:s.length - i < 3
      ·rw [if_pos (.inr h3),if_neg (by simp)]
       have hl:(s.drop (i + 1)).length < 2:=by rw [List.length_drop]; omega
       match hd:s.drop (i + 1),hl with
       | [],_=>rfl
       | [_],_=>rfl
       | a :: b :: m,h=>exact absurd h (by simp)
      ·rw [if_neg (by rintro (h | h); exact h rfl; exact h3 h),if_neg (by simp)]
       obtain ⟨a,ha⟩:∃ a,s[i + 1]? = some a:=⟨_,List.getElem?_eq_getElem (by omega)⟩
       obtain ⟨b,hb⟩:∃ b,s[i + 2]? = some b:=⟨_,List.getElem?_eq_getElem (by omega)⟩
       rw [zoz ha,zoz hb,ha,hb]
       simp only
       by_cases hd:digF a < 0∨digF b < 0
       ·rw [if_pos hd,if_pos hd]; rfl
       ·rw [if_neg hd,if_neg hd]
        cases hq:z0u (hexV a b) with
        | true=>rfl
        | false =>
         simp only [Bool.false_eq_true,if_false]
         rw [ih f (by omega) (i + 3) _ (by omega),Option.map_map]
         congr 1
         funext l
         simp
     ·rw [if_pos (.inl h37),if_pos h37]; rfl
theorem ycg (s:List UInt8):uqGo s s.length 0 [] = uqL s:=by
 rw [uqGo_list s s.length 0 [] (by omega),List.drop_zero]
 cases uqL s <;> rfl
theorem z6e {p:UInt8->Prop} (h:∀ n:Fin 256,p (UInt8.ofFin n)) (c:UInt8):p c:=by
 have:=h c.toFin
 simpa using this
theorem plain37:z0u 37 = false:=by decide +kernel
theorem dig_hi:∀ c:UInt8,digF (hexD (c.toNat / 16)) = ((c.toNat / 16:Nat):Int):=z6e (by decide +kernel)
theorem dig_lo:∀ c:UInt8,digF (hexD (c.toNat % 16)) = ((c.toNat % 16:Nat):Int):=z6e (by decide +kernel)
theorem hex_dig:∀ c:UInt8,¬ digF c < 0->hexD (digF c).toNat = c:=z6e (by decide +kernel)
theorem hexV_of (c:UInt8):hexV (hexD (c.toNat / 16)) (hexD (c.toNat % 16)) = c:=by
 unfold hexV
 rw [dig_hi,dig_lo]
 have hc:=c.toNat_lt
 rw [show (((c.toNat / 16:Nat):Int) * 16 + ((c.toNat % 16:Nat):Int)).toNat = c.toNat by omega]
 simp
theorem hexV_nat (a b:UInt8) (ha:¬ digF a < 0) (hb:¬ digF b < 0):(hexV a b).toNat = (digF a).toNat * 16 + (digF b).toNat:=by
 unfold hexV
 have h1:=zp2 a
 have h2:=zp2 b
 rw [show (UInt8.ofNat (digF a * 16 + digF b).toNat).toNat = (digF a * 16 + digF b).toNat % 256 from UInt8.toNat_ofNat' ..]
 omega
theorem z6l:∀ l:List UInt8,uqL (z0n l) = some l
 | []=>rfl
 | c :: l=>by
  rw [z0n]
  cases hp:z0u c with
  | true =>
   rw [if_pos rfl,List.singleton_append,z6m,hp,if_pos rfl,z6l l]; rfl
  | false =>
   rw [if_neg (by simp)]
   show uqL (37 :: hexD (c.toNat / 16) :: hexD (c.toNat % 16) :: z0n l) = _
   rw [z6m,plain37,if_neg (by simp),if_neg (by simp)]
   simp only
   rw [if_neg (by rw [dig_hi,dig_lo]; omega),hexV_of,hp,if_neg (by simp),z6l l]; rfl
theorem yf5:∀ (s out:List UInt8),uqL s = some out->z0n out = s:=by
 intro s
 induction hn:s.length using Nat.strongRecOn generalizing s with
 | ind n ih =>
  intro out h
  match s,hn with
  | [],_=>simp [uqL] at h; subst h; rfl
  | c :: l,hn =>
   rw [z6m] at h
   cases hp:z0u c with
   | true =>
    rw [hp,if_pos rfl] at h
    obtain ⟨o,ho,rfl⟩:=Option.map_eq_some_iff.1 h
    rw [z0n,hp,if_pos rfl,ih l.length (by simp at hn; omega) l rfl o ho]; rfl
   | false =>
    rw [hp,if_neg (by simp)] at h
    by_cases h37:c = 37
    ·subst h37
     rw [if_neg (by simp)] at h
     match l,hn,h with
     | [],_,h=>simp at h
     | [_],_,h=>simp at h
     | a :: b :: m,hn,h =>
      simp only at h
      by_cases hd:digF a < 0∨digF b < 0
      ·rw [if_pos hd] at h; cases h
      ·rw [if_neg hd] at h
       cases hq:z0u (hexV a b) with
       | true=>rw [hq,if_pos rfl] at h; cases h
       | false =>
        rw [hq,if_neg (by simp)] at h
        obtain ⟨o,ho,rfl⟩:=Option.map_eq_some_iff.1 h
        have ha:¬ digF a < 0:=fun e=>hd (.inl e)
        have hb:¬ digF b < 0:=fun e=>hd (.inr e)
        have hbl:=zp2 b
        rw [z0n,hq,if_neg (by simp),ih m.length (by simp at hn; omega) m rfl o ho,hexV_nat a b ha hb]
        rw [show ((digF a).toNat * 16 + (digF b).toNat) / 16 = (digF a).toNat by omega,show ((digF a).toNat * 16 + (digF b).toNat) % 16 = (digF b).toNat by omega,hex_dig a ha,hex_dig b hb]
        rfl
    ·rw [if_pos h37] at h; cases h
/-- the document's reading -/
def valB (c:UInt8):UInt8:=if 97≤c.toNat∧c.toNat≤102 then UInt8.ofNat (c.toNat - 97 + 10) else if 48≤c.toNat∧c.toNat≤57 then UInt8.ofNat (c.toNat - 48) else 0
def pairB (a b:UInt8):UInt8:=UInt8.ofNat (16 * (valB a).toNat + (valB b).toNat)
def z4b:List UInt8->List UInt8
 | []=>[]
 | [c]=>[c]
 | [c,a]=>[c,a]
 | c :: a :: b :: m=>if c = 37 then pairB a b :: z4b m else c :: z4b (a :: b :: m)
theorem znf (c : UInt8) (l : List UInt8) : z4b (c :: l) = if c = 37 then match l with
      | a :: b :: m => pairB a b :: z4b m
      | _ => c :: z4b l
    else c :: z4b l := by
  match l with
  | [] => simp [z4b]
  | [_] => simp [z4b]
  | a :: b :: m => rw [z4b]
theorem val_dig:∀ c:UInt8,¬ digF c < 0->((valB c).toNat:Int) = digF c:=z6e (by decide +kernel)
theorem yf6:∀ (s out:List UInt8),uqL s = some out->z4b s = out:=by
 intro s
 induction hn:s.length using Nat.strongRecOn generalizing s with
 | ind n ih =>
  intro out h
  match s,hn with
  | [],_=>simp [uqL] at h; subst h; rfl
  | c :: l,hn =>
   rw [z6m] at h
   cases hp:z0u c with
   | true =>
    rw [hp,if_pos rfl] at h
    obtain ⟨o,ho,rfl⟩:=Option.map_eq_some_iff.1 h
    have h37:c ≠ 37:=by intro e; subst e; rw [plain37] at hp; cases hp
    rw [znf,if_neg h37,ih l.length (by simp at hn; omega) l rfl o ho]
   | false =>
    rw [hp,if_neg (by simp)] at h
    by_cases h37:c = 37
    ·subst h37
     rw [if_neg (by simp)] at h
     match l,hn,h with
     | [],_,h=>simp at h
     | [_],_,h=>simp at h
     | a :: b :: m,hn,h =>
      simp only at h
      by_cases hd:digF a < 0∨digF b < 0
      ·rw [if_pos hd] at h; cases h
      ·rw [if_neg hd] at h
       cases hq:z0u (hexV a b) with
       | true=>rw [hq,if_pos rfl] at h; cases h
       | false =>
        rw [hq,if_neg (by simp)] at h
        obtain ⟨o,ho,rfl⟩:=Option.map_eq_some_iff.1 h
        have ha:¬ digF a < 0:=fun e=>hd (.inl e)
        have hb:¬ digF b < 0:=fun e=>hd (.inr e)
        rw [znf,if_pos rfl]
        simp only
        rw [ih m.length (by simp at hn; omega) m rfl o ho]
        congr 1
        unfold pairB hexV
        have h1:=val_dig a ha
        have h2:=val_dig b hb
        congr 1
        omega
    ·rw [if_pos h37] at h; cases h
/-- what the document answers of a word -/
def ruqF (s:ByteArray):AV :=
 let out:=if s.data.toList = [45] then [] else z4b s.data.toList
 if z04 ⟨out.toArray⟩ = s then .tup [.str ⟨out.toArray⟩,.bool true] else .tup [.str ⟨#[]⟩,.bool false]
theorem z2p {a b:ByteArray} (h:a.data.toList = b.data.toList):a = b:=by
 cases a; cases b; congr 1; exact Array.ext' h
theorem z1e (s:ByteArray):(z04 s).data.toList = if s.data.toList = [] then [45] else z0n s.data.toList:=by
 have hL:s.data.toList.length = s.size:=by rw [Array.length_toList]; rfl
 unfold z04
 by_cases h:s.size = 0
 ·rw [if_pos h,if_pos (List.eq_nil_of_length_eq_zero (by omega))]
 ·rw [if_neg h,if_neg (fun e=>h (by rw [← hL,e]; rfl))]
theorem quoteL_nil {l:List UInt8} (h:z0n l = []):l = []:=by
 have:=z6l l
 rw [h] at this
 simp [uqL] at this
 exact this
theorem quoteL_45 (l:List UInt8):z0n l ≠ [45]:=by
 intro h
 have:=z6l l
 rw [h] at this
 revert this
 rw [z6m,show z0u 45 = false by decide +kernel]
 simp
theorem uqF_eq (s:ByteArray):uqF s = ruqF s:=by
 have hL:s.data.toList.length = s.size:=by rw [Array.length_toList]; rfl
 unfold uqF ruqF
 have hb:(s.toList == (ByteArray.mk #[45]).toList) = decide (s.data.toList = [45]):=by
  rw [ByteArray.toList_eq,ByteArray.toList_eq]
  exact Bool.eq_iff_iff.2 (by rw [beq_iff_eq,decide_eq_true_eq])
 rw [hb]
 by_cases h45:s.data.toList = [45]
 ·simp only [h45,decide_true,if_true]
  rw [if_pos (z2p (by rw [z1e,if_pos rfl,h45]))]
 ·simp only [h45,decide_false,Bool.false_eq_true,if_false]
  rw [show uqGo s.data.toList s.size 0 [] = uqL s.data.toList by rw [← hL]; exact ycg _]
  cases hu:uqL s.data.toList with
  | none =>
   rw [if_neg]
   ·rfl
   ·intro e
    have:=congrArg (fun x:ByteArray=>x.data.toList) e
    simp only [z1e] at this
    by_cases hp:z4b s.data.toList = []
    ·rw [if_pos hp] at this; exact h45 this.symm
    ·rw [if_neg hp] at this
     have h2:=z6l (z4b s.data.toList)
     rw [this,hu] at h2; cases h2
  | some out =>
   have h1:=yf5 _ _ hu
   have h2:=yf6 _ _ hu
   rw [h2]
   by_cases h0:out = []
   ·subst h0
    rw [if_neg]
    ·rfl
    ·intro e
     have:=congrArg (fun x:ByteArray=>x.data.toList) e
     simp only [z1e,if_true] at this
     exact h45 this.symm
   ·rw [if_pos (z2p (by rw [z1e,if_neg h0,h1]))]
    have:0 < out.length:=List.length_pos_iff.2 h0
    simp only [zpe]
    rw [decide_eq_true (by omega)]
/-- a text's word stands for it -/
theorem uqF_quote (s:ByteArray):uqF (z04 s) = .tup [.str s,.bool true]:=by
 rw [uqF_eq]
 unfold ruqF
 by_cases h0:s.data.toList = []
 ·have e:s = ⟨#[]⟩:=z2p h0
  subst e
  rw [z1e,if_pos rfl]
  simp only [if_true]
 ·rw [z1e,if_neg h0]
  simp only [quoteL_45,if_false]
  rw [yf6 _ _ (z6l s.data.toList)]
  have e:(⟨s.data.toList.toArray⟩:ByteArray) = s:=z2p (by simp)
  rw [e,if_pos rfl]
end
section
/-
 Layer 6: the document's Quote and Unquote,and the law PackQuotes.
-/
open Go.RowKit
set_option linter.unusedVariables false
set_option linter.unusedSimpArgs false
set_option maxRecDepth 100000
attribute [local go_sem ↓] z11 z0l
/-! ### percolate/percolateref06.Quote -/
def ztb:Reg:=⟨[],[⟨.mv (.c (.str ⟨#[]⟩)),some 2,none,[],[]⟩],[],[],false⟩
def zta:Reg:=⟨[],[⟨.mv (.c (.str ⟨#[48,49,50,51,52,53,54,55,56,57,97,98,99,100,101,102]⟩)),some 3,none,[],[]⟩],[],[],false⟩
def zt9:Reg:=⟨[],[⟨.mv (.c (.str ⟨#[]⟩)),some 4,none,[],[]⟩],[],[],false⟩
def zt8:Reg:=⟨[],[⟨.mv (.c (.int .i64 0)),some 5,none,[],[]⟩],[],[],false⟩
def zc7:List ROp:=[⟨.mv (.t 5),some 6,none,[],[]⟩,⟨.mv (.t 0),some 7,none,[],[]⟩,⟨.len true (.t 7),some 8,none,[],[]⟩,⟨.bin .lss (.t 6) (.t 8),some 9,none,[],[]⟩]
def zt7:Reg:=⟨[],zc7,[],[],false⟩
def zc6:List ROp:=[⟨.mv (.t 0),some 12,none,[15],[]⟩,⟨.mv (.t 5),some 13,none,[15],[]⟩,⟨.idx (.t 12) (.t 13),some 14,none,[15],[]⟩,⟨.callv (.c (.clo 50 [] [])) [(.t 14)],some 15,none,[],[]⟩]
def zt6:Reg:=⟨[],zc6,[15],[],false⟩
def zc5:List ROp:=[⟨.mv (.t 4),some 16,none,[],[]⟩,⟨.mv (.t 0),some 17,none,[],[]⟩,⟨.mv (.t 5),some 18,none,[],[]⟩,⟨.mv (.t 5),some 19,none,[],[]⟩,⟨.bin .add (.t 19) (.c (.int .i64 1)),some 20,none,[],[]⟩,⟨.slc true 0 (.t 17) (some (.t 18)) (some (.t 20)),some 21,none,[],[]⟩,⟨.bin .add (.t 16) (.t 21),some 22,none,[],[]⟩,⟨.mv (.t 22),some 4,none,[],[]⟩]
def zt5:Reg:=⟨[],zc5,[],[],false⟩
def zep:List ROp:=[⟨.mv (.t 4),some 23,none,[],[]⟩,⟨.mv (.t 3),some 24,none,[],[]⟩,⟨.mv (.t 0),some 25,none,[],[]⟩,⟨.mv (.t 5),some 26,none,[],[]⟩,⟨.idx (.t 25) (.t 26),some 27,none,[],[]⟩,⟨.bin .quo (.t 27) (.c (.int .u8 16)),some 28,none,[],[]⟩,⟨.mv (.t 0),some 29,none,[],[]⟩,⟨.mv (.t 5),some 30,none,[],[]⟩,⟨.idx (.t 29) (.t 30),some 31,none,[],[]⟩,⟨.bin .quo (.t 31) (.c (.int .u8 16)),some 32,none,[],[]⟩,⟨.bin .add (.t 32) (.c (.int .u8 1)),some 33,none,[],[]⟩,⟨.slc true 0 (.t 24) (some (.t 28)) (some (.t 33)),some 34,none,[],[]⟩,⟨.bin .add (.c (.str ⟨#[37]⟩)) (.t 34),some 35,none,[],[]⟩,⟨.mv (.t 3),some 36,none,[],[]⟩,⟨.mv (.t 0),some 37,none,[],[]⟩,⟨.mv (.t 5),some 38,none,[],[]⟩,⟨.idx (.t 37) (.t 38),some 39,none,[],[]⟩,⟨.bin .rem (.t 39) (.c (.int .u8 16)),some 40,none,[],[]⟩,⟨.mv (.t 0),some 41,none,[],[]⟩,⟨.mv (.t 5),some 42,none,[],[]⟩,⟨.idx (.t 41) (.t 42),some 43,none,[],[]⟩,⟨.bin .rem (.t 43) (.c (.int .u8 16)),some 44,none,[],[]⟩,⟨.bin .add (.t 44) (.c (.int .u8 1)),some 45,none,[],[]⟩,⟨.slc true 0 (.t 36) (some (.t 40)) (some (.t 45)),some 46,none,[],[]⟩,⟨.bin .add (.t 35) (.t 46),some 47,none,[],[]⟩]
def zt4:Reg:=⟨zep,[⟨.bin .add (.t 23) (.t 47),some 48,none,[],[]⟩,⟨.mv (.t 48),some 4,none,[],[]⟩],[],[],true⟩
def zc4:List ROp:=[⟨.mv (.t 5),some 10,none,[],[]⟩,⟨.bin .add (.t 10) (.c (.int .i64 1)),some 11,none,[],[]⟩,⟨.mv (.t 11),some 5,none,[],[]⟩]
def zt3:Reg:=⟨[],zc4,[],[],false⟩
def zli:IR:=(.seq (.seq (.reg zt7)
 (.cond (.t 9) .skip
 (.exit 0)))
 (.seq (.block 1 (.seq (.reg zt6)
 (.cond (.t 15) (.reg zt5)
 (.reg zt4))))
 (.reg zt3)))
def zll:Reg:=⟨[],[⟨.mv (.t 4),some 49,none,[],[]⟩,⟨.bin .eql (.t 49) (.c (.str ⟨#[]⟩)),some 50,none,[],[]⟩],[],[],false⟩
def zlk:Reg:=⟨[],[⟨.mv (.c (.str ⟨#[45]⟩)),some 2,none,[],[]⟩],[],[],false⟩
def zlj:Reg:=⟨[],[⟨.mv (.t 4),some 51,none,[],[]⟩,⟨.mv (.t 51),some 2,none,[],[]⟩],[],[],false⟩
def y6v:IR:=(.seq (.reg ztb)
 (.seq (.reg zta)
 (.seq (.reg zt9)
 (.seq (.seq (.reg zt8)
 (.block 0 (.loop zli)))
 (.seq (.seq (.reg zll)
 (.cond (.t 50) (.seq (.reg zlk)
 .ret)
 .skip))
 (.seq (.reg zlj)
 .ret))))))
def zq8:List RDesc:=[(.tmp 2)]
theorem e_rQuote_0:EqR ztb [⟨.mv (.c (.str ⟨#[]⟩)),some 2,none,[],[]⟩] []:=fun _ _ _=>rfl
theorem e_rQuote_1:EqR zta [⟨.mv (.c (.str ⟨#[48,49,50,51,52,53,54,55,56,57,97,98,99,100,101,102]⟩)),some 3,none,[],[]⟩] []:=fun _ _ _=>rfl
theorem e_rQuote_2:EqR zt9 [⟨.mv (.c (.str ⟨#[]⟩)),some 4,none,[],[]⟩] []:=fun _ _ _=>rfl
theorem e_rQuote_3:EqR zt8 [⟨.mv (.c (.int .i64 0)),some 5,none,[],[]⟩] []:=fun _ _ _=>rfl
theorem e_rQuote_4:EqR zt7 zc7 []:=fun _ _ _=>rfl
theorem e_rQuote_5:EqR zt6 zc6 [15]:=fun _ _ _=>rfl
theorem e_rQuote_6:EqR zt5 zc5 []:=fun _ _ _=>rfl
theorem e_rQuote_7 (C:FuncId->List AV->AV->Prop) (σ:St) (K:St->Prop):z0k C zt4 σ K = z08 C [] [⟨.bin .add (.t 23) (.t 47),some 48,none,[],[]⟩,⟨.mv (.t 48),some 4,none,[],[]⟩] zep (σ.kills []) K:=rfl
theorem e_rQuote_8:EqR zt3 zc4 []:=fun _ _ _=>rfl
theorem yax:EqR zll [⟨.mv (.t 4),some 49,none,[],[]⟩,⟨.bin .eql (.t 49) (.c (.str ⟨#[]⟩)),some 50,none,[],[]⟩] []:=fun _ _ _=>rfl
theorem yaw:EqR zlk [⟨.mv (.c (.str ⟨#[45]⟩)),some 2,none,[],[]⟩] []:=fun _ _ _=>rfl
theorem yav:EqR zlj [⟨.mv (.t 4),some 51,none,[],[]⟩,⟨.mv (.t 51),some 2,none,[],[]⟩] []:=fun _ _ _=>rfl
theorem fn_rQuote {args:List AV} {r:AV} (ha:args.length.ble Tryz.f21.ntmps = true) (h:run (AFn Tryz.prog) y6v (endQ zq8 r) (z0b args)):AFn Tryz.prog 21 args r :=
 AFn.of_code (pv:=false) (hint:=fun _=>[]) (c:=Tryz.f21.body.getD .skip) (by kernel_rfl) (by kernel_rfl) Tryz.func21 (by kernel_rfl) (by kernel_rfl) (by kernel_rfl) (of_decide_eq_true (by kernel_rfl)) (Nat.le_of_ble_eq_true ha) (Nat.le_of_ble_eq_true (by kernel_rfl)) (z0c h)
attribute [local go_sem ↓] y6v
attribute [local go_sem] zq8 e_rQuote_0 e_rQuote_1 e_rQuote_2 e_rQuote_3 e_rQuote_4 zc7 e_rQuote_5 zc6 e_rQuote_6 zc5 e_rQuote_7 zep e_rQuote_8 zc4 yax yaw yav
def qs (l:List UInt8):ByteArray:=⟨(z0n l).toArray⟩
def hexS:ByteArray:=⟨#[48,49,50,51,52,53,54,55,56,57,97,98,99,100,101,102]⟩
theorem yg9:∀ n:Fin 16,hexS.extract n.val (n.val + 1) = ⟨#[hexD n.val]⟩:=by decide +kernel
theorem qs_size (l:List UInt8):(qs l).size = (z0n l).length:=rfl
theorem qs_plain {s:List UInt8} {j:Nat} {c:UInt8} (hc:s[j]? = some c) (hp:z0u c = true):qs (s.take j) ++ (⟨#[c]⟩:ByteArray) = qs (s.take (j + 1)):=by
 apply z2p
 rw [ByteArray.data_append,Array.toList_append]
 unfold qs
 rw [List.take_add_one,hc]
 simp only [Option.toList]
 rw [z6r,ze5,hp,if_pos rfl]
theorem qs_other {s:List UInt8} {j:Nat} {c:UInt8} (hc:s[j]? = some c) (hp:z0u c = false):qs (s.take j) ++ ((⟨#[37]⟩:ByteArray) ++ ⟨#[hexD (c.toNat / 16)]⟩ ++ ⟨#[hexD (c.toNat % 16)]⟩) = qs (s.take (j + 1)):=by
 apply z2p
 rw [ByteArray.data_append,Array.toList_append]
 unfold qs
 rw [List.take_add_one,hc]
 simp only [Option.toList]
 rw [z6r,ze5,hp,if_neg (by simp)]
 rfl
theorem ext_one {s:ByteArray} {j:Nat} {c:UInt8} (hc:s.data.toList[j]? = some c):s.extract j (j + 1) = ⟨#[c]⟩:=by
 apply bext7
 rw [zzo,List.take_add_one,hc]
 have hj:=(List.getElem?_eq_some_iff.1 hc).1
 simp only [Option.toList]
 rw [List.drop_append,List.length_take,Nat.min_eq_left (by omega),Nat.sub_self,List.drop_zero,List.drop_eq_nil_of_le (by rw [List.length_take]; omega),List.nil_append]
def rqInv (s:ByteArray) (k:Nat) (σ:St):Prop :=
 ∃ j:Nat,j≤s.size∧k = s.size - j∧σ.T 0 = .str s∧σ.T 3 = .str hexS∧σ.T 4 = .str (qs (s.data.toList.take j))∧σ.T 5 = .int .i64 j
theorem qs_eq {s:ByteArray}:(if s.size = 0 then (⟨#[45]⟩:ByteArray) else qs s.data.toList) = z04 s:=rfl
theorem z2v (s:ByteArray) (hs:s.size≤1000000):AFn Tryz.prog 21 [.str s] (.str (z04 s)):=by
 have hL:s.data.toList.length = s.size:=by rw [Array.length_toList]; rfl
 refine fn_rQuote rfl ?_
 simp (maxSteps:=9^7) only [go_sem,↓reduceIte,reduceCtorEq,Nat.reduceEqDiff,Nat.reduceBEq,Nat.reduceAdd,Nat.reduceSub,Nat.reduceMul,Nat.reduceLT,Nat.reduceLeDiff,Nat.reduceBNe,Int.reduceBEq,Int.reduceBNe,Int.reduceLT,Int.reduceLE]
 refine z0d (rqInv s) (k:=s.size) ⟨0,by omega,rfl,?_,?_,?_,?_⟩ ?_
 ·simp (maxSteps:=9^7) only [go_sem,↓reduceIte,reduceCtorEq,Nat.reduceEqDiff,Nat.reduceBEq,Nat.reduceAdd,Nat.reduceSub,Nat.reduceMul,Nat.reduceLT,Nat.reduceLeDiff,Nat.reduceBNe,Int.reduceBEq,Int.reduceBNe,Int.reduceLT,Int.reduceLE]
 ·simp (maxSteps:=9^7) only [go_sem,↓reduceIte,reduceCtorEq,Nat.reduceEqDiff,Nat.reduceBEq,Nat.reduceAdd,Nat.reduceSub,Nat.reduceMul,Nat.reduceLT,Nat.reduceLeDiff,Nat.reduceBNe,Int.reduceBEq,Int.reduceBNe,Int.reduceLT,Int.reduceLE]
  rfl
 ·simp (maxSteps:=9^7) only [go_sem,↓reduceIte,reduceCtorEq,Nat.reduceEqDiff,Nat.reduceBEq,Nat.reduceAdd,Nat.reduceSub,Nat.reduceMul,Nat.reduceLT,Nat.reduceLeDiff,Nat.reduceBNe,Int.reduceBEq,Int.reduceBNe,Int.reduceLT,Int.reduceLE]
  rfl
 ·simp (maxSteps:=9^7) only [go_sem,↓reduceIte,reduceCtorEq,Nat.reduceEqDiff,Nat.reduceBEq,Nat.reduceAdd,Nat.reduceSub,Nat.reduceMul,Nat.reduceLT,Nat.reduceLeDiff,Nat.reduceBNe,Int.reduceBEq,Int.reduceBNe,Int.reduceLT,Int.reduceLE]
  rfl
 rintro k σ ⟨j,hj,rfl,t0,t3,t4,t5⟩
 simp only [zli]
 have hsz:(qs (s.data.toList.take j)).size≤3000000:=by
  rw [qs_size]
  have h1:=z6q (s.data.toList.take j)
  have h2:(s.data.toList.take j).length≤s.size:=by rw [List.length_take,hL]; omega
  omega
 by_cases hlt:j < s.size
 ·have hlt':(j:Int) < (s.size:Int):=by omega
  have hw1:IntKind.i64.wrap ((j:Int) + 1) = ((j + 1:Nat):Int):=by rw [IntWalk.i64_in _ (by omega)]; rfl
  obtain ⟨c,hc⟩:∃ c,s.data.toList[j]? = some c:=⟨_,List.getElem?_eq_getElem (by omega)⟩
  have hg:s.data.toList.getD j 0 = c:=by rw [List.getD_eq_getElem?_getD,hc]; rfl
  simp (maxSteps:=9^7) only [go_sem,↓reduceIte,reduceCtorEq,Nat.reduceEqDiff,Nat.reduceBEq,Nat.reduceAdd,Nat.reduceSub,Nat.reduceMul,Nat.reduceLT,Nat.reduceLeDiff,Nat.reduceBNe,Int.reduceBEq,Int.reduceBNe,Int.reduceLT,Int.reduceLE,t0,t3,t4,t5,hlt',hg,Int.toNat_natCast]
  (repeat refine And.intro (by omega) ?_)
  (first | refine z01 (rOwn_ok c) ?_ | refine z00 (rOwn_ok c) ?_)
  cases hp:z0u c with
  | true =>
   have hx:=ext_one hc
   have hq:=qs_plain hc hp
   simp (maxSteps:=9^7) only [go_sem,↓reduceIte,reduceCtorEq,Nat.reduceEqDiff,Nat.reduceBEq,Nat.reduceAdd,Nat.reduceSub,Nat.reduceMul,Nat.reduceLT,Nat.reduceLeDiff,Nat.reduceBNe,Int.reduceBEq,Int.reduceBNe,Int.reduceLT,Int.reduceLE,t0,t3,t4,t5,hp,hw1,hx,Int.toNat_natCast]
   (repeat refine And.intro (by omega) ?_)
   rw [hq]
   refine ⟨?_,s.size - (j + 1),by omega,j + 1,by omega,rfl,?_,?_,?_,?_⟩
   ·show (qs _).size + 1≤_
    omega
   all_goals (simp (maxSteps:=9^7) only [go_sem,↓reduceIte,reduceCtorEq,Nat.reduceEqDiff,Nat.reduceBEq,Nat.reduceAdd,Nat.reduceSub,Nat.reduceMul,Nat.reduceLT,Nat.reduceLeDiff,Nat.reduceBNe,Int.reduceBEq,Int.reduceBNe,Int.reduceLT,Int.reduceLE,t0,t3,t4,t5,hw1])
  | false =>
   have hcl:=c.toNat_lt
   have hq:=qs_other hc hp
   have e1:=yg9 ⟨c.toNat / 16,by omega⟩
   have e2:=yg9 ⟨c.toNat % 16,by omega⟩
   simp only at e1 e2
   have h16:hexS.size = 16:=rfl
   have s1:∀ x:UInt8,#[x].size = 1:=fun _=>rfl
   have d1:IntKind.u8.wrap ((c.toNat:Int).tdiv 16) = ((c.toNat / 16:Nat):Int):=by
    rw [Int.tdiv_eq_ediv_of_nonneg (by omega),show ((c.toNat:Int) / 16) = ((c.toNat / 16:Nat):Int) by omega]
    simp [IntKind.wrap,IntKind.signed,IntKind.bits]; omega
   have d2:(c.toNat:Int).tmod 16 = ((c.toNat % 16:Nat):Int):=by
    rw [Int.tmod_eq_emod_of_nonneg (by omega)]; omega
   have d3:IntKind.u8.wrap (((c.toNat / 16:Nat):Int) + 1) = ((c.toNat / 16 + 1:Nat):Int):=by
    simp [IntKind.wrap,IntKind.signed,IntKind.bits]; omega
   have d4:IntKind.u8.wrap (((c.toNat % 16:Nat):Int) + 1) = ((c.toNat % 16 + 1:Nat):Int):=by
    simp [IntKind.wrap,IntKind.signed,IntKind.bits]; omega
   simp (maxSteps:=9^7) only [go_sem,↓reduceIte,reduceCtorEq,Nat.reduceEqDiff,Nat.reduceBEq,Nat.reduceAdd,Nat.reduceSub,Nat.reduceMul,Nat.reduceLT,Nat.reduceLeDiff,Nat.reduceBNe,Int.reduceBEq,Int.reduceBNe,Int.reduceLT,Int.reduceLE,t0,t3,t4,t5,hp,hw1,hg,d1,d2,d3,d4,e1,e2,h16,s1,Int.toNat_natCast]
   (repeat refine And.intro (by omega) ?_)
   rw [hq]
   refine ⟨s.size - (j + 1),by omega,j + 1,by omega,rfl,?_,?_,?_,?_⟩ <;> (simp (maxSteps:=9^7) only [go_sem,↓reduceIte,reduceCtorEq,Nat.reduceEqDiff,Nat.reduceBEq,Nat.reduceAdd,Nat.reduceSub,Nat.reduceMul,Nat.reduceLT,Nat.reduceLeDiff,Nat.reduceBNe,Int.reduceBEq,Int.reduceBNe,Int.reduceLT,Int.reduceLE,t0,t3,t4,t5,hw1])
 ·have hlt':¬ (j:Int) < (s.size:Int):=by omega
  have hall:s.data.toList.take j = s.data.toList:=List.take_of_length_le (by omega)
  rw [hall] at t4
  by_cases h0:s.size = 0
  ·have hnil:s.data.toList = []:=List.eq_nil_of_length_eq_zero (by omega)
   have z1:((qs s.data.toList).toList == (ByteArray.mk #[]).toList) = true:=by rw [hnil]; decide +kernel
   have z2:z04 s = ⟨#[45]⟩:=by rw [← qs_eq,if_pos h0]
   rw [z2]
   simp (maxSteps:=9^7) only [go_sem,↓reduceIte,reduceCtorEq,Nat.reduceEqDiff,Nat.reduceBEq,Nat.reduceAdd,Nat.reduceSub,Nat.reduceMul,Nat.reduceLT,Nat.reduceLeDiff,Nat.reduceBNe,Int.reduceBEq,Int.reduceBNe,Int.reduceLT,Int.reduceLE,t0,t3,t4,t5,hlt',z1]
  ·have hq:qs s.data.toList = z04 s:=by rw [← qs_eq,if_neg h0]
   have z1:((qs s.data.toList).toList == (ByteArray.mk #[]).toList) = false:=by
    rw [z6k]
    refine decide_eq_false fun e=>h0 ?_
    rw [qs_size] at e
    have:=quoteL_nil (List.eq_nil_of_length_eq_zero e)
    rw [← hL,this]; rfl
   rw [← hq]
   simp (maxSteps:=9^7) only [go_sem,↓reduceIte,reduceCtorEq,Nat.reduceEqDiff,Nat.reduceBEq,Nat.reduceAdd,Nat.reduceSub,Nat.reduceMul,Nat.reduceLT,Nat.reduceLeDiff,Nat.reduceBNe,Int.reduceBEq,Int.reduceBNe,Int.reduceLT,Int.reduceLE,t0,t3,t4,t5,hlt',z1]
end
section
/-
 Layer 6: what stands between blanks,and the law PackWords.
-/
open Go.RowKit
set_option linter.unusedVariables false
set_option linter.unusedSimpArgs false
set_option maxRecDepth 100000
/-- what stands between blanks -/
def wl:List UInt8->List (List UInt8)
 | []=>[[]]
 | c :: l=>if c = 32 then [] :: wl l else match wl l with
  | []=>[[c]]
  | w :: ws=>(c :: w) :: ws
theorem wl_ne:∀ l,wl l ≠ []
 | []=>by simp [wl]
 | c :: l=>by
  rw [wl]
  split
  ·simp
  ·split <;> simp
theorem wl_miss:∀ {l:List UInt8},Lib.index l [32] = -1->wl l = [l]
 | [],_=>rfl
 | c :: l,h=>by
  unfold Lib.index at h
  by_cases hc:c = 32
  ·subst hc; simp [List.isPrefixOf] at h
  ·have hp:List.isPrefixOf [32] (c :: l) = false:=by simp [List.isPrefixOf,Ne.symm hc]
   rw [hp] at h
   have hge:=Lib.index_ge l [32]
   have:Lib.index l [32] = -1:=by
    by_cases e:Lib.index l [32] = -1
    ·exact e
    ·simp [e] at h; omega
   rw [wl,if_neg hc,wl_miss this]
theorem wl_hit:∀ {l:List UInt8} {i:Nat},Lib.index l [32] = i->wl l = l.take i :: wl (l.drop (i + 1))
 | [],i,h=>by simp [Lib.index] at h
 | c :: l,i,h=>by
  unfold Lib.index at h
  by_cases hc:c = 32
  ·subst hc
   simp [List.isPrefixOf] at h
   have:i = 0:=by omega
   subst this
   rw [wl,if_pos rfl]; rfl
  ·have hp:List.isPrefixOf [32] (c :: l) = false:=by simp [List.isPrefixOf,Ne.symm hc]
   rw [hp] at h
   have hge:=Lib.index_ge l [32]
   by_cases e:Lib.index l [32] = -1
   ·simp [e] at h
   ·simp [e] at h
    obtain ⟨k,rfl⟩:∃ k,i = k + 1:=⟨i - 1,by omega⟩
    have:=wl_hit (l:=l) (i:=k) (by omega)
    rw [wl,if_neg hc,this]
    rfl
theorem split_wl:∀ (n:Nat) (s:ByteArray),Lib.countB s ⟨#[32]⟩ = n->(Lib.splitB ⟨#[32]⟩ 0 n s).map (·.data.toList) = wl s.data.toList:=by
 intro n
 induction n with
 | zero =>
  intro s hc
  rcases Lib.indexB_cases s ⟨#[32]⟩ with h | ⟨i,h,_⟩
  ·rw [Lib.splitB_zero,wl_miss h]; rfl
  ·rw [Lib.countB_hit s ⟨#[32]⟩ i (Nat.le_refl _) h] at hc; omega
 | succ n ih =>
  intro s hc
  rcases Lib.indexB_cases s ⟨#[32]⟩ with h | ⟨i,h,_⟩
  ·rw [Lib.countB_miss s ⟨#[32]⟩ h] at hc; omega
  ·rw [Lib.countB_hit s ⟨#[32]⟩ i (Nat.le_refl _) h] at hc
   rw [Lib.splitB_hit ⟨#[32]⟩ 0 n s i h,List.map_cons,ih _ (by omega),wl_hit h]
   have hL:s.data.toList.length = s.size:=by rw [Array.length_toList]; rfl
   rw [zzo,zzo,List.drop_zero,Nat.add_zero]
   rw [List.take_of_length_le (show s.data.toList.length≤s.size by omega)]
   rfl
def wb (l:List UInt8):ByteArray:=⟨l.toArray⟩
def ws (l:List (List UInt8)):List AV:=l.map fun x=>.str (wb x)
theorem z9t (s:ByteArray):(z3d s ⟨#[32]⟩).map AV.str = ws (wl s.data.toList):=by
 unfold ws z3d
 rw [← split_wl _ s rfl,List.map_map]
 refine List.map_congr_left fun x _=>?_
 show AV.str x = AV.str (wb x.data.toList)
 congr 1
theorem wl_len:∀ l:List UInt8,(wl l).length≤l.length + 1
 | []=>by simp [wl]
 | c :: l=>by
  have:=wl_len l
  rw [wl]
  split
  ·simp; omega
  ·cases hw:wl l with
   | nil=>simp
   | cons w wss=>rw [hw] at this; simp at this ⊢; omega
theorem ycf:∀ (l:List UInt8),∀ x,x ∈ wl l->x.length≤l.length
 | [],x,h=>by simp [wl] at h; subst h; simp
 | c :: l,x,h=>by
  have ih:=ycf l
  rw [wl] at h
  split at h
  ·rcases List.mem_cons.1 h with rfl | h
   ·simp
   ·have:=ih x h; simp; omega
  ·cases hw:wl l with
   | nil=>exact absurd hw (wl_ne l)
   | cons w wss =>
    rw [hw] at h ih
    rcases List.mem_cons.1 h with rfl | h
    ·have:=ih w (by simp); simp; omega
    ·have:=ih x (by simp [h]); simp; omega
end
end Go.Proofs.YthpbokjnfloeoaaGreatDoor
