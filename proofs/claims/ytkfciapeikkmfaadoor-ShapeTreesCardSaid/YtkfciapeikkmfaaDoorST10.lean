/-
  Part 10 of a proof: PkB, PkC, PkA, PkE, PkF, PkG, PkH, PkI, PkJ, Join, ShA, ShB.
-/
import Derived.IntWalk
import Derived.Lib.Bytealg
import Derived.Shelf.Strings.BuilderK
import Derived.Lib.CutLaws
import Derived.Lib.Split
import Derived.StillTailTactics
import Derived.Lib.ItoaLen
import Derived.Lib.AppendIntMem
import Derived.Test.YtkfciapeikkmfaaDoorST9
set_option linter.unusedVariables false
set_option linter.unusedSimpArgs false
set_option maxRecDepth 100000
namespace Go.Proofs.YtkfciapeikkmfaaDoor
attribute [local go_sem] ev0 ev1 ev2 ev3 ev4 evA zhx.eq_1 zhx.eq_2 zhw.eq_1 zhw.eq_2 okV valV fzV okF valF okBld zfq mxOk.eq_1 mxOk.eq_2 y3k.eq_1 y3k.eq_2 z1s.eq_1 z1s.eq_2 z1s.eq_3 z4n.eq_1 z4n.eq_2 z4n.eq_3 upd_at AV.flatB AV.flatBs zu1 binIV zu0 binSV z2d.eq_1 z2d.eq_2 z26.eq_1 z26.eq_2 z09.eq_1 z09.eq_2 objZ.eq_1 objZ.eq_2 z1b.eq_1 z1b.eq_2 zlc zd4.eq_1 zd4.eq_2 zd4.eq_3 z0w.eq_1 z0w.eq_2 z0w.eq_3 z8t.eq_1 z8t.eq_2 z8t.eq_3 z8t.eq_4 z3t.eq_1 z3t.eq_2 z3t.eq_3 z3t.eq_4 faOk.eq_1 faOk.eq_2 faOk.eq_3 zmd.eq_1 zmd.eq_2 zmd.eq_3 iaOk.eq_1 iaOk.eq_2 iaOk.eq_3 zm1.eq_1 zm1.eq_2 zm1.eq_3 z2j.eq_1 z2j.eq_2 z2j.eq_3 z2j.eq_4 bdOk.eq_1 bdOk.eq_2 z6m.eq_1 z6m.eq_2 z5g.eq_1 z5g.eq_2 z5g.eq_3 z5g.eq_4 z5g.eq_5 zhz.eq_1 zhz.eq_2 zhz.eq_3 z41.eq_1 z41.eq_2 z41.eq_3 z41.eq_4 zvy.eq_1 zvy.eq_2 loK.eq_1 loK.eq_2 loK.eq_3 zcw.eq_1 zcw.eq_2 zcw.eq_3 byOk.eq_1 byOk.eq_2 byOk.eq_3 byOk.eq_4 byOk.eq_5 byOk.eq_6 byOk.eq_7 byOk.eq_8 z1c.eq_1 z1c.eq_2 z1c.eq_3 byFz.eq_1 byFz.eq_2 byFz.eq_3 z5b z19 z6l zmx z6x.eq_1 z6x.eq_2 z1d.eq_1 z1d.eq_2 stOk.eq_1 stOk.eq_2 zn2.eq_1 zn2.eq_2 stSt.eq_1 stSt.eq_2 AV.patch z8p gB.eq_1 gB.eq_2 gB.eq_3 gIs.eq_1 gIs.eq_2 gIs.eq_3 retV resV zwr z06 z2q St.byval List.getD_cons_zero List.getD_cons_succ List.getD_nil List.map_cons List.map_nil List.length_cons List.length_nil List.take_succ_cons List.take_zero List.drop_succ_cons List.drop_zero List.headD_cons List.set_cons_zero List.append_nil List.nil_append List.cons_append List.contains_cons List.contains_nil List.elem_cons List.elem_nil List.all_cons List.all_nil List.getElem?_cons_zero List.getElem?_cons_succ List.filterMap_cons List.filterMap_nil Option.isSome_some Option.isSome_none Option.map_some Option.map_none Option.some.injEq AV.int.injEq AV.bool.injEq AV.str.injEq AV.tup.injEq AV.agg.injEq AV.sl.injEq List.cons.injEq Bool.false_eq_true Bool.true_eq_false Bool.not_true Bool.not_false Bool.and_true Bool.true_and Bool.or_false Bool.or_true Bool.false_or Bool.true_or Bool.or_self Bool.and_self Bool.not_eq_true' Bool.not_eq_false' Bool.not_not beq_self_eq_true true_and and_true false_and and_false and_self not_true_eq_false not_false_eq_true forall_const true_implies false_implies implies_true imp_self Nat.lt_add_one Nat.le_refl Nat.zero_le Nat.add_zero Nat.zero_add decide_true decide_false decide_eq_true_eq decide_eq_false_iff_not exists_eq_left exists_eq_left' ge_iff_le gt_iff_lt zdc z8v zv8.eq_1 zv8.eq_2 z9m.eq_1 z9m.eq_2 AV.isSl.eq_1 z9l.eq_1 z9l.eq_2 apSt.eq_1 y2i.eq_1 y2i.eq_2 y2h.eq_1 y2h.eq_2 apSt2.eq_1 zf1.eq_1 zf1.eq_2 slOf.eq_1 y3v List.mem_cons List.not_mem_nil Bool.false_and Bool.and_false z1z.eq_1 z1z.eq_2 z1z.eq_3 z1z.eq_4 z1z.eq_5 z0o.eq_1 z0o.eq_2 z0o.eq_3 z0o.eq_4 z0o.eq_5 mOk.eq_1 mOk.eq_2 mVal.eq_1 mVal.eq_2 mFz.eq_1 mFz.eq_2 mOks zvb mFzs z9o.eq_1 z9o.eq_2 mFn.eq_1 mFn.eq_2 zvc.eq_1 zvc.eq_2 ckOk.eq_1 ckOk.eq_2 cloOk.eq_1 ptrAt.eq_1 sh.eq_1 sh.eq_2 sh.eq_3 sh.eq_4 sh.eq_5 sh.eq_6 retM zi1 evM z0l.eq_1 z0l.eq_2 ents.eq_1 ents.eq_2 kI.eq_1 mpOk.eq_1 mpR.eq_1 lkV.eq_1 lkV.eq_2 remp.eq_2 evP pvOk.eq_1 pvOk.eq_2 zv2.eq_1 zv2.eq_2 plOk.eq_1 plOk.eq_2 plOk.eq_3 plV.eq_1 plV.eq_2 plF.eq_1 plF.eq_2 zn5.eq_1 zn5.eq_2 plFz.eq_1 plFz.eq_2 lpOk.eq_1 lpOk.eq_2 y0t.eq_1 y0t.eq_2 lpFz.eq_1 lpFz.eq_2 zn1.eq_1 zn1.eq_2 zf2.eq_1 zf2.eq_2 zhv.eq_1 zn8.eq_1 zn8.eq_2 evCl
section
open Go.RowKit
attribute [local go_sem ↓] z1m z0h
abbrev bz (c:UInt8):AV:=.int .u8 (c.toNat:Int)
theorem z6v (c:UInt8):(AV.int .u8 (c.toNat:Int)).byteB = true:=by
 have:=c.toNat_lt
 simp [AV.byteB]; omega
theorem znf (c:UInt8):(AV.int .u8 (c.toNat:Int)).toB = c:=by
 simp [AV.toB]
def z2l (c:UInt8):Bool:=(decide (97≤(c.toNat:Int)) && decide ((c.toNat:Int)≤122)) || (decide (65≤(c.toNat:Int)) && decide ((c.toNat:Int)≤90)) || (decide (48≤(c.toNat:Int)) && decide ((c.toNat:Int)≤57)) || ((c.toNat:Int) == 95)
def zzh:Reg:=⟨[],[⟨.mv (.c (.bool false)),some 2,none,[],[]⟩],[],[],false⟩
def zh8:List ROp:=[⟨.mv (.t 0),some 3,none,[],[]⟩,⟨.bin .geq (.t 3) (.c (.int .u8 97)),some 4,none,[],[]⟩,⟨.mv (.t 4),some 5,none,[],[]⟩,⟨.mv (.t 0),some 6,(some (5,true)),[],[]⟩,⟨.bin .leq (.t 6) (.c (.int .u8 122)),some 7,(some (5,true)),[],[]⟩,⟨.pick (.t 5) (.t 7) (.c (.bool false)),some 8,none,[],[]⟩,⟨.mv (.t 8),some 9,none,[],[]⟩,⟨.mv (.t 0),some 10,(some (9,false)),[],[]⟩,⟨.bin .geq (.t 10) (.c (.int .u8 65)),some 11,(some (9,false)),[],[]⟩,⟨.mv (.t 11),some 12,(some (9,false)),[],[]⟩,⟨.mv (.t 0),some 13,(some (12,true)),[],[]⟩,⟨.bin .leq (.t 13) (.c (.int .u8 90)),some 14,(some (12,true)),[],[]⟩,⟨.pick (.t 12) (.t 14) (.c (.bool false)),some 15,(some (9,false)),[],[]⟩,⟨.pick (.t 9) (.c (.bool true)) (.t 15),some 16,none,[],[]⟩,⟨.mv (.t 16),some 17,none,[],[]⟩,⟨.mv (.t 0),some 18,(some (17,false)),[],[]⟩,⟨.bin .geq (.t 18) (.c (.int .u8 48)),some 19,(some (17,false)),[],[]⟩,⟨.mv (.t 19),some 20,(some (17,false)),[],[]⟩,⟨.mv (.t 0),some 21,(some (20,true)),[],[]⟩,⟨.bin .leq (.t 21) (.c (.int .u8 57)),some 22,(some (20,true)),[],[]⟩,⟨.pick (.t 20) (.t 22) (.c (.bool false)),some 23,(some (17,false)),[],[]⟩,⟨.pick (.t 17) (.c (.bool true)) (.t 23),some 24,none,[],[]⟩,⟨.mv (.t 24),some 25,none,[],[]⟩,⟨.mv (.t 0),some 26,(some (25,false)),[],[]⟩,⟨.bin .eql (.t 26) (.c (.int .u8 95)),some 27,(some (25,false)),[],[]⟩,⟨.pick (.t 25) (.c (.bool true)) (.t 27),some 28,none,[],[]⟩,⟨.mv (.t 28),some 2,none,[],[]⟩]
def zzg:Reg:=⟨[],zh8,[],[],false⟩
def y8q:IR:=(.seq (.reg zzh)
 (.seq (.reg zzg)
 .ret))
def zwl:List RDesc:=[(.tmp 2)]
theorem e_plain_0:EqR zzh [⟨.mv (.c (.bool false)),some 2,none,[],[]⟩] []:=fun _ _ _=>rfl
theorem e_plain_1:EqR zzg zh8 []:=fun _ _ _=>rfl
theorem fn_plain {args:List AV} {r:AV} (ha:args.length.ble Tryd.f45.ntmps = true) (h:run (AFn Tryd.prog) y8q (endQ zwl r) (z0a args)):AFn Tryd.prog 45 args r :=
 AFn.of_code (pv:=false) (hint:=fun _=>[]) (c:=Tryd.f45.body.getD .skip) (by kernel_rfl) (by kernel_rfl) Tryd.func45 (by kernel_rfl) (by kernel_rfl) (by kernel_rfl) (of_decide_eq_true (by kernel_rfl)) (Nat.le_of_ble_eq_true ha) (Nat.le_of_ble_eq_true (by kernel_rfl)) (z0b h)
def y76:Reg:=⟨[],[⟨.mv (.c (.bool false)),some 2,none,[],[]⟩],[],[],false⟩
def zuf:List ROp:=[⟨.mv (.t 0),some 3,none,[],[]⟩,⟨.bin .leq (.c (.int .u8 97)) (.t 3),some 4,none,[],[]⟩,⟨.mv (.t 4),some 5,none,[],[]⟩,⟨.mv (.t 0),some 6,(some (5,true)),[],[]⟩,⟨.bin .leq (.t 6) (.c (.int .u8 122)),some 7,(some (5,true)),[],[]⟩,⟨.pick (.t 5) (.t 7) (.c (.bool false)),some 8,none,[],[]⟩,⟨.mv (.t 8),some 9,none,[],[]⟩,⟨.mv (.t 0),some 10,(some (9,false)),[],[]⟩,⟨.bin .leq (.c (.int .u8 65)) (.t 10),some 11,(some (9,false)),[],[]⟩,⟨.mv (.t 11),some 12,(some (9,false)),[],[]⟩,⟨.mv (.t 0),some 13,(some (12,true)),[],[]⟩,⟨.bin .leq (.t 13) (.c (.int .u8 90)),some 14,(some (12,true)),[],[]⟩,⟨.pick (.t 12) (.t 14) (.c (.bool false)),some 15,(some (9,false)),[],[]⟩,⟨.pick (.t 9) (.c (.bool true)) (.t 15),some 16,none,[],[]⟩,⟨.mv (.t 16),some 17,none,[],[]⟩,⟨.mv (.t 0),some 18,(some (17,false)),[],[]⟩,⟨.bin .leq (.c (.int .u8 48)) (.t 18),some 19,(some (17,false)),[],[]⟩,⟨.mv (.t 19),some 20,(some (17,false)),[],[]⟩,⟨.mv (.t 0),some 21,(some (20,true)),[],[]⟩,⟨.bin .leq (.t 21) (.c (.int .u8 57)),some 22,(some (20,true)),[],[]⟩,⟨.pick (.t 20) (.t 22) (.c (.bool false)),some 23,(some (17,false)),[],[]⟩,⟨.pick (.t 17) (.c (.bool true)) (.t 23),some 24,none,[],[]⟩,⟨.mv (.t 24),some 25,none,[],[]⟩,⟨.mv (.t 0),some 26,(some (25,false)),[],[]⟩,⟨.bin .eql (.t 26) (.c (.int .u8 95)),some 27,(some (25,false)),[],[]⟩,⟨.pick (.t 25) (.c (.bool true)) (.t 27),some 28,none,[],[]⟩,⟨.mv (.t 28),some 2,none,[],[]⟩]
def y75:Reg:=⟨[],zuf,[],[],false⟩
def ir_rOwn:IR:=(.seq (.reg y76)
 (.seq (.reg y75)
 .ret))
def y6o:List RDesc:=[(.tmp 2)]
theorem e_rOwn_0:EqR y76 [⟨.mv (.c (.bool false)),some 2,none,[],[]⟩] []:=fun _ _ _=>rfl
theorem e_rOwn_1:EqR y75 zuf []:=fun _ _ _=>rfl
theorem fn_rOwn {args:List AV} {r:AV} (ha:args.length.ble Tryd.f34.ntmps = true) (h:run (AFn Tryd.prog) ir_rOwn (endQ y6o r) (z0a args)):AFn Tryd.prog 34 args r :=
 AFn.of_code (pv:=false) (hint:=fun _=>[]) (c:=Tryd.f34.body.getD .skip) (by kernel_rfl) (by kernel_rfl) Tryd.func34 (by kernel_rfl) (by kernel_rfl) (by kernel_rfl) (of_decide_eq_true (by kernel_rfl)) (Nat.le_of_ble_eq_true ha) (Nat.le_of_ble_eq_true (by kernel_rfl)) (z0b h)
attribute [local go_sem ↓] y8q
attribute [local go_sem] zwl e_plain_0 e_plain_1 zh8
attribute [local go_sem ↓] ir_rOwn
attribute [local go_sem] y6o e_rOwn_0 e_rOwn_1 zuf
theorem plain_ok (c:UInt8):AFn Tryd.prog 45 [bz c] (.bool (z2l c)):=by
 refine fn_plain rfl ?_
 simp (maxSteps:=9^7) only [go_sem,↓reduceIte,reduceCtorEq,Nat.reduceEqDiff,Nat.reduceBEq,Nat.reduceAdd,Nat.reduceSub,Nat.reduceMul,Nat.reduceLT,Nat.reduceLeDiff,Nat.reduceBNe,Int.reduceBEq,Int.reduceBNe,Int.reduceLT,Int.reduceLE]
 repeat' split
 all_goals (simp [z2l, *] <;> omega)
theorem rOwn_ok (c:UInt8):AFn Tryd.prog 34 [bz c] (.bool (z2l c)):=by
 refine fn_rOwn rfl ?_
 simp (maxSteps:=9^7) only [go_sem,↓reduceIte,reduceCtorEq,Nat.reduceEqDiff,Nat.reduceBEq,Nat.reduceAdd,Nat.reduceSub,Nat.reduceMul,Nat.reduceLT,Nat.reduceLeDiff,Nat.reduceBNe,Int.reduceBEq,Int.reduceBNe,Int.reduceLT,Int.reduceLE]
 repeat' split
 all_goals (simp [z2l, *] <;> omega)
def b0 (s:ByteArray):UInt8:=s.data.toList.getD 0 0
theorem AFn.flat1 {P:Program} {f:FuncId} (hok:z9t P f = true) {d r:AV} {v u:Value} (hd:∀ Q w v',VR Q w d v'->v' = v) (hr:∀ Q base w,RR Q base w r u)
  (h:∀ w,Glob w->Calls P f #[v] w fun e w'=>e = .returned u∧Below w.heap.size w w'):AFn P f [d] r:=by
 refine ⟨hok,fun w Pr vs hG hPr hlen hvs=>?_⟩
 obtain ⟨v',rfl⟩:∃ v',vs = [v']:=by
  match vs,hlen with
  | [v'],_=>exact ⟨v',rfl⟩
 rw [hd _ _ _ (hvs 0 _ v' rfl rfl)]
 exact (h w hG).mono fun e w' ⟨he,hb⟩=>⟨u,he,hb,hr _ _ _⟩
theorem AFn.flat2 {P:Program} {f:FuncId} (hok:z9t P f = true) {d1 d2 r:AV} {v1 v2 u:Value} (hd1:∀ Q w v',VR Q w d1 v'->v' = v1) (hd2:∀ Q w v',VR Q w d2 v'->v' = v2) (hr:∀ Q base w,RR Q base w r u)
  (h:∀ w,Glob w->Calls P f #[v1,v2] w fun e w'=>e = .returned u∧Below w.heap.size w w'):AFn P f [d1,d2] r:=by
 refine ⟨hok,fun w Pr vs hG hPr hlen hvs=>?_⟩
 obtain ⟨a,b,rfl⟩:∃ a b,vs = [a,b]:=by
  match vs,hlen with
  | [a,b],_=>exact ⟨a,b,rfl⟩
 rw [hd1 _ _ _ (hvs 0 _ a rfl rfl),hd2 _ _ _ (hvs 1 _ b rfl rfl)]
 exact (h w hG).mono fun e w' ⟨he,hb⟩=>⟨u,he,hb,hr _ _ _⟩
theorem y6g {s:ByteArray}:∀ Q w v',VR Q w (.str s) v'->v' = .string s:=fun _ _ _ h=>h.str_of
theorem y8w {k:IntKind} {m:Int}:∀ Q w v',VR Q w (.int k m) v'->v' = .int k m:=fun _ _ _ h=>h.int_of
def hexL:List UInt8:=[48,49,50,51,52,53,54,55,56,57,97,98,99,100,101,102]
def digF (c:UInt8):Int:=Lib.indexByte hexL c
end
section
open Go.RowKit
def hexV (a b:UInt8):UInt8:=UInt8.ofNat (digF a * 16 + digF b).toNat
theorem z9z {s:ByteArray}:(s.toList == (ByteArray.mk #[]).toList) = decide (s.size = 0):=by
 rw [ByteArray.toList_eq,ByteArray.toList_eq]
 have:s.size = s.data.toList.length:=by rw [Array.length_toList]; rfl
 rw [this]
 cases s.data.toList with
 | nil=>rfl
 | cons c l=>simp
end
section
open Go.RowKit Go.Shelf
def renB:Go.Shelf.Ren:=⟨fun | 167=>46 | n=>Tryd.lays156_ren.f n,Tryd.lays156_ren.t,Tryd.lays156_ren.g⟩
theorem laysCC:Go.Proofs.Lays.n240 Tryd.prog renB:={ Tryd.lays156 with }
theorem y96:Builder.Extra Tryd.prog renB:={
 sizeBuilder:=by kernel_rfl
 liesBuilder:=by kernel_rfl
 t5:=Tryd.underlying5
 a5:=Tryd.isAgg5
 z5:=Tryd.sizeOf5
 v5:=Tryd.zeroValue5
 infoByte:=by kernel_rfl
 cellsByte:=by kernel_rfl
 sizeByte:=by kernel_rfl
 neB5:=by decide }
def z23 (N b:Nat) (bs:List Value) (w:World):Prop:=b < N∧N≤w.heap.size∧∃ p v,(p = .pointer none∨p = .pointer (some ⟨b,0,none⟩))∧w.heap[b]? = some (.cells #[p,v] 85 (0,0))∧w.ownsRow N 5 1 v bs.length bs
def z5e (N b:Nat) (w w':World):Prop:=Below b w w'∧∀ g,g < N->g ≠ b->w'.heap[g]? = w.heap[g]?
theorem zet {w:World} {N b:Nat} {v:Value} {n:Nat} {xs:List Value} (h:w.ownsRow N 5 1 v n xs) (hb:b < N):v.ownBlock ≠ some b:=by
 rcases h.2 with ⟨rfl,_⟩ | ⟨g,cap,cur,rfl,hg,_⟩
 ·simp [Value.ownBlock]
 ·intro e
  simp only [Value.ownBlock,Option.some.injEq] at e
  omega
theorem zv6 {w:World} {N b:Nat} {v:Value} {n:Nat} {xs:List Value} (h:w.ownsRow N 5 1 v n xs) (hb:b≤N):w.ownsRow b 5 1 v n xs:=by
 refine ⟨h.1,?_⟩
 rcases h.2 with h | ⟨g,cap,cur,h1,h2,h3⟩
 ·exact .inl h
 ·exact .inr ⟨g,cap,cur,h1,by omega,h3⟩
theorem z23.is {N b:Nat} {bs:List Value} {w:World} (h:z23 N b bs w):Lib.IsBuilder 85 5 b b bs w:=by
 obtain ⟨h1,h2,p,v,h3,h4,h5⟩:=h
 rcases h3 with rfl | rfl
 ·exact .inl ⟨Nat.le_refl _,v,h4,zv6 h5 (by omega),zet h5 h1⟩
 ·exact .inr ⟨Nat.le_refl _,v,h4,zv6 h5 (by omega),zet h5 h1⟩
theorem own_set {w:World} {N b o:Nat} {v u:Value} {n:Nat} {xs:List Value} (h:w.ownsRow N 5 1 v n xs) (hb:b < N):(w.setCell ⟨b,o,none⟩ u).ownsRow N 5 1 v n xs :=
 h.kept (row:=some b) ⟨rfl,rfl,rfl,by simp [World.setCell],fun k _ hk=>Below.heap_setCell _ _ _ _ (fun e=>hk (by simp [e]))⟩ (Or.inr (zet h hb))
theorem z23.below {N b:Nat} {bs:List Value} {w w':World} (h:z23 N b bs w) (hb:Below w.heap.size w w'):z23 N b bs w':=by
 obtain ⟨h1,h2,p,v,h3,h4,h5⟩:=h
 refine ⟨h1,Nat.le_trans h2 hb.size,p,v,h3,by rw [hb.block b (by omega)]; exact h4,h5.1,?_⟩
 rcases h5.2 with h | ⟨g,cap,cur,e1,e2,e3,e4⟩
 ·exact .inl h
 ·refine .inr ⟨g,cap,cur,e1,e2,?_,e4⟩
  have hg:g < w.heap.size:=by
   rcases Nat.lt_or_ge g w.heap.size with h | h
   ·exact h
   ·rw [Array.getElem?_eq_none h] at e3; cases e3
  rw [hb.block g hg]; exact e3
theorem z5e.refl (N b:Nat) (w:World):z5e N b w w:=⟨Below.refl _ _,fun _ _ _=>rfl⟩
theorem z5e.trans {N b:Nat} {w w1 w2:World} (h:z5e N b w w1) (h':z5e N b w1 w2):z5e N b w w2 :=
 ⟨h.1.trans h'.1,fun g h1 h2=>(h'.2 g h1 h2).trans (h.2 g h1 h2)⟩
theorem z5e.below {N b:Nat} {w w1 w2:World} (h:z5e N b w w1) (hN:N≤w1.heap.size) (hbN:b < N) (h':Below w1.heap.size w1 w2):z5e N b w w2 :=
 ⟨h.1.trans (h'.mono (by omega)),fun g h1 h2=>by rw [h'.block g (by omega)]; exact h.2 g h1 h2⟩
theorem zty (N b:Nat) (bs:List Value) (w0:World) (h0:z23 N b bs w0) :
  Calls Tryd.prog 62 #[.pointer (some ⟨b,0,none⟩)] w0 fun e w'=>e = .returned (.tuple #[])∧(∃ v,w'.heap[b]? = some (.cells #[.pointer (some ⟨b,0,none⟩),v] 85 (0,0))∧w'.ownsRow N 5 1 v bs.length bs)∧N≤w'.heap.size∧z5e N b w0 w'∧∀ g o,g ≠ b->w'.cell? ⟨g,o,none⟩ = w0.cell? ⟨g,o,none⟩:=by
 obtain ⟨q1,q2,p,v,q3,q4,q5⟩:=h0
 have hi:∀ p,w0.heap[b]? = some (.cells #[p,v] 85 (0,0))->Lib.BuilderAt 85 5 b b p bs w0:=fun p hp=>⟨Nat.le_refl _,v,hp,zv6 q5 (by omega),zet q5 q1⟩
 rcases q3 with rfl | rfl
 ·have hi:=hi _ q4
  refine (Any.Builder_copyCheck_fresh laysCC y96.toX72 b w0 hi.cell0 hi.shape hi.frozen0).mono ?_
  rintro e w' ⟨rfl,rfl⟩
  refine ⟨rfl,⟨v,?_,own_set q5 q1⟩,by simpa [World.setCell] using q2,⟨(Below.refl b w0).setCell (p:=⟨b,0,none⟩) (Nat.le_refl _) _,fun g hg hgb=>Below.heap_setCell _ _ _ _ (fun e=>hgb e)⟩,fun g o hg=>World.cell?_setCell_other _ _ _ _ (fun e=>hg (by cases e; rfl))⟩
  simp [World.setCell,Array.getElem?_modify,q4]
 ·have hi:=hi _ q4
  refine (Any.Builder_copyCheck_used laysCC y96.toX72 b w0 hi.cell0).mono ?_
  rintro e w' ⟨rfl,rfl⟩
  exact ⟨rfl,⟨v,q4,q5⟩,q2,z5e.refl _ _ _,fun _ _ _=>rfl⟩
theorem z23.put {N b:Nat} {bs':List Value} {w:World} {p v v':Value} (h1:b < N) (h2:N≤w.heap.size) (hp:p = .pointer none∨p = .pointer (some ⟨b,0,none⟩)) (hb:w.heap[b]? = some (.cells #[p,v] 85 (0,0))) (ho:w.ownsRow N 5 1 v' bs'.length bs') :
  z23 N b bs' (w.setCell ⟨b,1,none⟩ v'):=by
 refine ⟨h1,by simpa [World.setCell] using h2,p,v',hp,?_,own_set ho h1⟩
 simp [World.setCell,Array.getElem?_modify,hb]
set_option maxHeartbeats 2000000 in
theorem writeB (N b:Nat) (bs:List Value) (bk o n cap:Nat) (xs:List Value) (w:World) (h:z23 N b bs w) (hlen:bs.length + xs.length≤140737488355328) (hn:xs.length = n) (hp:0 < n)
  (hbb:bk ≠ b) (hx:∀ (j:Nat) (u:Value),xs[j]? = some u->w.cell? ⟨bk,o + j,none⟩ = some u) (hone:∀ u,u ∈ xs->u.oneCell' = true) :
  Calls Tryd.prog 47 #[.pointer (some ⟨b,0,none⟩),.slice (some ⟨bk,o,none⟩) n cap] w fun e w'=>e = .returned (.tuple #[.int .i64 n,.nilIface])∧z23 N b (bs ++ xs) w'∧z5e N b w w':=by
 have hN:=h.1
 obtain ⟨i0,hi,hz0,hz1,hz2⟩:=info_parts y96.infoByte
 go_enter Tryd.func47,Tryd.ntmps47
 go_wp2_with fail
 refine (zty N b bs _ h).mono ?_
 rintro e w1 ⟨rfl,⟨v,hbk',hown⟩,hN1,hk1,hc1⟩
 have c0:w1.cell? ⟨b,0,none⟩ = some (.pointer (some ⟨b,0,none⟩)):=by rw [Lib.cell_of_heap hbk']; rfl
 have c1:w1.cell? ⟨b,1,none⟩ = some v:=by rw [Lib.cell_of_heap hbk']; rfl
 go_wp2_with (at_builtin; refine wpList_append_own _ rfl _ _ 68 rfl N 5 i0 (.int .u8 0) 1 1 Tryd.underlying68 hi hz0 hz1 hz2 rfl (by decide) _ _ _ rfl hown ⟨bk,o,none⟩ n cap xs rfl (by omega) ?c1 ?c2 ?c3 ?c4 ?c5 ?_)
 case c1 =>
  intro j u hj
  have hplain:(⟨bk,o,none⟩:Addr).add j = ⟨bk,o + j,none⟩:=by unfold Addr.add; split <;> simp_all
  rw [hplain,hc1 _ _ hbb]
  exact hx j u hj
 case c2=>exact hone
 case c3=>unfold maxLen; omega
 case c4=>omega
 case c5=>exact hN1
 intro v' w2 hown' hgrow _
 have hlt:b < w1.heap.size:=by omega
 have hb2:w2.heap[b]? = some (.cells #[.pointer (some ⟨b,0,none⟩),v] 85 (0,0)):=by
  rw [hgrow.block b hlt (fun e=>zet hown hN e.symm)]
  exact hbk'
 have d0:w2.cell? ⟨b,0,none⟩ = some (.pointer (some ⟨b,0,none⟩)):=by rw [Lib.cell_of_heap hb2]; rfl
 have d1:w2.cell? ⟨b,1,none⟩ = some v:=by rw [Lib.cell_of_heap hb2]; rfl
 have f1:w2.frozen? ⟨b,1,none⟩ = false:=Lib.frozen_of_heap hb2 1
 have hN2:N≤w2.heap.size:=Nat.le_trans hN1 hgrow.size
 obtain ⟨g,cap2,rfl⟩:∃ g cap2,v' = .slice (some ⟨g,0,none⟩) (bs.length + n) cap2:=by
  rcases hown'.2 with ⟨_,h0⟩ | ⟨g,cap,cur,hv,_⟩
  ·omega
  ·exact ⟨g,cap,hv⟩
 go_wp2
 go_ret2
 refine ⟨rfl,z23.put hN hN2 (.inr rfl) hb2 (bs':=bs ++ xs) (by rw [List.length_append,hn]; exact hown'),?_,fun q hq hqb=>?_⟩
 ·exact (hk1.1.grown hgrow (by omega) (fun k hk=>by have:=(hown.lt k hk).1; omega)).setCell (p:=⟨b,1,none⟩) (Nat.le_refl _) _
 ·rw [Below.heap_setCell _ _ _ _ (fun e=>hqb e),hgrow.block q (by omega) (fun e=>zet hown hq e.symm)]
  exact hk1.2 q hq hqb
set_option maxHeartbeats 2000000 in
theorem writeByteB (N b:Nat) (bs:List Value) (c:Int) (w:World) (h:z23 N b bs w) (hlen:bs.length + 1≤140737488355328) :
  Calls Tryd.prog 46 #[.pointer (some ⟨b,0,none⟩),.int .u8 c] w fun e w'=>e = .returned .nilIface∧z23 N b (bs ++ [.int .u8 c]) w'∧z5e N b w w':=by
 have hN:=h.1
 obtain ⟨i0,hi,hz0,hz1,hz2⟩:=info_parts y96.infoByte
 go_enter Tryd.func46,Tryd.ntmps46
 go_wp2_with fail
 refine (zty N b bs _ h).mono ?_
 rintro e w1 ⟨rfl,⟨v,hbk',hown⟩,hN1,hk1,hc1⟩
 have c0:w1.cell? ⟨b,0,none⟩ = some (.pointer (some ⟨b,0,none⟩)):=by rw [Lib.cell_of_heap hbk']; rfl
 have c1:w1.cell? ⟨b,1,none⟩ = some v:=by rw [Lib.cell_of_heap hbk']; rfl
 go_wp2_with (at_builtin; refine wpList_append_own _ rfl _ _ 68 rfl N 5 i0 (.int .u8 0) 1 1 Tryd.underlying68 hi hz0 hz1 hz2 rfl (by decide) _ _ _ rfl (hown.alloc _) ⟨w1.heap.size,0,none⟩ 1 1 [.int .u8 c] rfl rfl ?c1 ?c2 ?c3 ?c4 ?c5 ?_)
 case c1 =>
  intro j u hj
  match j,hj with
  | 0,hj=>simp at hj; subst hj; simp [Addr.add]
 case c2=>intro u hu; simp at hu; subst hu; rfl
 case c3=>unfold maxLen; omega
 case c4=>omega
 case c5=>simp; omega
 intro v' w2 hown' hgrow _
 have hlt:b < w1.heap.size:=by omega
 have hb2:w2.heap[b]? = some (.cells #[.pointer (some ⟨b,0,none⟩),v] 85 (0,0)):=by
  rw [hgrow.block b (by simp; omega) (fun e=>zet hown hN e.symm),Lib.alloc_old w1 _ b hlt]
  exact hbk'
 have d0:w2.cell? ⟨b,0,none⟩ = some (.pointer (some ⟨b,0,none⟩)):=by rw [Lib.cell_of_heap hb2]; rfl
 have d1:w2.cell? ⟨b,1,none⟩ = some v:=by rw [Lib.cell_of_heap hb2]; rfl
 have f1:w2.frozen? ⟨b,1,none⟩ = false:=Lib.frozen_of_heap hb2 1
 have hN2:N≤w2.heap.size:=by have:=hgrow.size; simp at this; omega
 obtain ⟨g,cap2,rfl⟩:∃ g cap2,v' = .slice (some ⟨g,0,none⟩) (bs.length + 1) cap2:=by
  rcases hown'.2 with ⟨_,h0⟩ | ⟨g,cap,cur,hv,_⟩
  ·omega
  ·exact ⟨g,cap,hv⟩
 go_wp2
 go_ret
 refine ⟨rfl,z23.put hN hN2 (.inr rfl) hb2 (bs':=bs ++ [.int .u8 c]) (by simpa using hown'),?_,fun q hq hqb=>?_⟩
 ·exact ((hk1.1.alloc (by omega) _).grown hgrow (by simp; omega) (fun k hk=>by have:=(hown.lt k hk).1; omega)).setCell (p:=⟨b,1,none⟩) (Nat.le_refl _) _
 ·rw [Below.heap_setCell _ _ _ _ (fun e=>hqb e),hgrow.block q (by simp; omega) (fun e=>zet hown hq e.symm),Lib.alloc_old w1 _ q (by omega)]
  exact hk1.2 q hq hqb
theorem stringB (N b:Nat) (l:List UInt8) (w:World) (h:z23 N b (Lib.byteCells l) w) :
  Calls Tryd.prog 43 #[.pointer (some ⟨b,0,none⟩)] w fun e w'=>e = .returned (.string ⟨l.toArray⟩)∧Below b w w' :=
 Tryd.Builder_String_any b b l w h.is (by have:=h.1; have:=h.2.1; omega)
end
section
open Go.RowKit
def hexD (n:Nat):UInt8:=hexL.getD n 0
def z0u:List UInt8->List UInt8
 | []=>[]
 | c :: l=>(if z2l c then [c] else [37,hexD (c.toNat / 16),hexD (c.toNat % 16)]) ++ z0u l
theorem z6r:∀ (l m:List UInt8),z0u (l ++ m) = z0u l ++ z0u m
 | [],m=>rfl
 | c :: l,m=>by
  rw [List.cons_append,z0u,z0u,z6r l m,List.append_assoc]
theorem zd3 (c:UInt8):z0u [c] = if z2l c then [c] else [37,hexD (c.toNat / 16),hexD (c.toNat % 16)]:=by
 rw [z0u,z0u,List.append_nil]
theorem z6q:∀ l:List UInt8,(z0u l).length≤3 * l.length
 | []=>Nat.le_refl _
 | c :: l=>by
  have:=z6q l
  rw [z0u,List.length_append,List.length_cons]
  split <;> simp <;> omega
def z1e (s:ByteArray):ByteArray:=if s.size = 0 then ⟨#[45]⟩ else ⟨(z0u s.data.toList).toArray⟩
theorem plain_any (c:UInt8) (w:World) (hG:Glob w):Calls Tryd.prog 45 #[.int .u8 (c.toNat:Int)] w fun e w'=>e = .returned (.bool (z2l c))∧Below w.heap.size w w':=by
 have:=(plain_ok c).calls w (fun _ _=>False) [.int .u8 (c.toNat:Int)] hG (fun _ _ h=>h.elim) rfl (fun j d u hj hu=>by
  cases j with
  | zero=>cases hj; cases hu; exact .int _ _
  | succ j=>simp at hj)
 refine this.mono fun e w' ⟨u,he,hb,hr⟩=>?_
 have hr':VR _ w' (.bool (z2l c)) u:=hr
 cases hr'
 exact ⟨he,hb⟩
theorem hexB (n:Nat) (h:n < 16):({ data:=#[48,49,50,51,52,53,54,55,56,57,97,98,99,100,101,102] }:ByteArray)[n]'h = hexD n:=by
 have:∀ i:Fin 16,({ data:=#[48,49,50,51,52,53,54,55,56,57,97,98,99,100,101,102] }:ByteArray)[i.val]'(i.isLt) = hexD i.val:=by decide +kernel
 exact this ⟨n,h⟩
theorem and15 (c:UInt8):bits BinOp.and IntKind.u8 (c.toNat:Int) 15 = (c.toNat:Int) % 16:=by
 have h:∀ n:Fin 256,bits BinOp.and IntKind.u8 (n.val:Int) 15 = (n.val:Int) % 16:=by decide +kernel
 exact h ⟨c.toNat,c.toNat_lt⟩
set_option maxRecDepth 100000 in
set_option maxHeartbeats 2000000 in
theorem quote_any (s:ByteArray) (w:World) (hG:Glob w) (hs:s.size≤1000000):Calls Tryd.prog 24 #[.string s] w fun e w'=>e = .returned (.string (z1e s))∧Below w.heap.size w w':=by
 by_cases h0:s.size = 0
 ·have he:s = ⟨#[]⟩:=by cases s; congr 1; exact Array.eq_empty_of_size_eq_zero h0
  subst he
  go_enter Tryd.func24,Tryd.ntmps24
  go_wp2_with fail
  go_ret
  exact ⟨rfl,Below.refl _ _⟩
 ·have he:s.toList.isEmpty = false:=by
   have:=z9z (s:=s)
   rw [show ((ByteArray.mk #[]).toList) = [] by rw [ByteArray.toList_eq]] at this
   cases hq:s.toList with
   | nil =>
    rw [hq,show decide (s.size = 0) = false by simpa using h0] at this
    simp at this
   | cons c l=>rfl
  have hL:s.data.toList.length = s.size:=by rw [Array.length_toList]; rfl
  obtain ⟨b,hb⟩:∃ b,w.heap.size = b:=⟨_,rfl⟩
  obtain ⟨W1,hW1⟩:∃ W1,w.alloc (.cells #[.pointer none,.slice none 0 0] 85) = W1:=⟨_,rfl⟩
  have hconv:=run_bytes_of_string (P:=Tryd.prog) W1 9 68 5 s Tryd.underlying9 Tryd.underlying68 Tryd.underlying5
  have hs1:W1.heap.size = b + 1:=by rw [← hW1,← hb]; simp
  obtain ⟨cp,hcp⟩:∃ cp,grownCap W1 s.size 0 5 = cp:=⟨_,rfl⟩
  rw [hcp,hs1] at hconv
  have hcp1:s.size≤cp:=by rw [← hcp]; exact grownCap_ge _ _ _ _
  have hcp2:cp≤maxLen:=by rw [← hcp]; exact grownCap_le_maxLen _ _ _ _ (by unfold maxLen; omega)
  obtain ⟨W2,hW2⟩:∃ W2,W1.drew.alloc (.cells (bytesRow s cp) 5 ((bytesRow s cp).size,(bytesRow s cp).size + 1)) = W2:=⟨_,rfl⟩
  rw [hW2] at hconv
  have hs2:W2.heap.size = b + 2:=by rw [← hW2]; simp [hs1]
  have hbW:Hid (Below b w W2):=by
   rw [← hW2,← hW1]
   exact (((Below.refl b w).alloc (by omega) _).drew).alloc (by simp; omega) _
  have hB0:Hid (z23 (b + 2) b (Lib.byteCells (z0u (s.data.toList.take 0))) W2):=by
   refine ⟨by omega,by omega,.pointer none,.slice none 0 0,.inl rfl,?_,⟨rfl,.inl ⟨rfl,rfl⟩⟩⟩
   have e1:W1.heap[b]? = some (.cells #[.pointer none,.slice none 0 0] 85 (0,0)):=by rw [← hW1,← hb]; exact heap_alloc_new w _
   rw [← hW2]
   exact (Lib.alloc_old W1.drew _ b (by simp [hs1])).trans e1
  have hcells:Hid (∀ (k:Nat) (c:UInt8),s.data.toList[k]? = some c->∀ wr:World,wr.heap[b + 1]? = W2.heap[b + 1]?->wr.cell? ⟨b + 1,k,none⟩ = some (.int .u8 (c.toNat:Int))):=by
   intro k c hk wr hwr
   have e2:=World.cell?_alloc_mark W1.drew (bytesRow s cp) 5 ((bytesRow s cp).size,(bytesRow s cp).size + 1) k
   rw [show W1.drew.heap.size = b + 1 from hs1,hW2] at e2
   have e3:wr.cell? ⟨b + 1,k,none⟩ = W2.cell? ⟨b + 1,k,none⟩:=by simp only [World.cell?,hwr]
   rw [e3,e2]
   have hk':k < s.data.size:=(List.getElem?_eq_some_iff.1 hk).1
   unfold bytesRow
   rw [Array.getElem?_append_left (by simpa using hk'),Array.getElem?_map]
   rw [Array.getElem?_toList] at hk
   rw [hk]; rfl
  have hGH:=Lib.hid hG
  have hLL:=Lib.hid hL
  have hSS:=Lib.hid hs2
  clear hG hL hcp hs1 hs2 hcp2
  go_enter Tryd.func24,Tryd.ntmps24
  go_wp2_with fail
  go_loopw [11] (fun j wr=>∃ k:Nat,j = .int .i64 k∧k≤s.size∧Hid (z23 (b + 2) b (Lib.byteCells (z0u (s.data.toList.take k))) wr)∧Hid (z5e (b + 2) b W2 wr)) (fun j _=>s.size - (intOf j).toNat)
  case atStart=>exact ⟨0,rfl,Nat.zero_le _,hB0,z5e.refl _ _ _⟩
  case round =>
   obtain ⟨k,rfl,hk,HB,HK⟩:=hrel
   have HG:Hid (Glob wr):=hGH.out.below (by rw [hb]; exact hbW.out.trans (HK.out.1))
   by_cases hlt:k < s.size
   ·obtain ⟨c,hc⟩:∃ c,s.data.toList[k]? = some c:=⟨_,List.getElem?_eq_getElem (by rw [hLL.out]; exact hlt)⟩
    have hcell:=hcells.out k c hc wr (HK.out.2 (b + 1) (by omega) (by omega))
    have hq:Hid (z0u (s.data.toList.take (k + 1)) = z0u (s.data.toList.take k) ++ (if z2l c then [c] else [37,hexD (c.toNat / 16),hexD (c.toNat % 16)])):=by
     show _ = _
     rw [List.take_add_one,hc]
     rw [z6r]; congr 1; exact zd3 c
    have hlen:Hid ((Lib.byteCells (z0u (s.data.toList.take k))).length≤3000000):=by
     show _≤_
     rw [Lib.byteCells_length]
     have h1:=z6q (s.data.toList.take k)
     have h2:(s.data.toList.take k).length≤s.size:=by rw [List.length_take,hLL.out]; omega
     omega
    have HC:=Lib.hid hc
    clear hc
    go_wp2_with fail
    refine (plain_any c _ HG.out).mono ?_
    rintro e w1 ⟨rfl,hb1⟩
    have HB1:Hid (z23 (b + 2) b (Lib.byteCells (z0u (s.data.toList.take k))) w1):=HB.out.below hb1
    have HK1:Hid (z5e (b + 2) b W2 w1):=HK.out.below HB.out.2.1 (by omega) hb1
    clear hb1 hcell
    cases hp:z2l c with
    | true =>
     go_wp2_with fail
     refine (writeByteB (b + 2) b _ (c.toNat:Int) _ HB1.out (by have:=hlen.out; omega)).mono ?_
     rintro e w2 ⟨rfl,h2,h3⟩
     have HB2:Hid (z23 (b + 2) b (Lib.byteCells (z0u (s.data.toList.take (k + 1)))) w2):=by
      have e:Lib.byteCells (z0u (s.data.toList.take (k + 1))) = Lib.byteCells (z0u (s.data.toList.take k)) ++ [.int .u8 (c.toNat:Int)]:=by
       rw [hq.out,hp,if_pos rfl]; simp [Lib.byteCells]
      show z23 _ _ _ _
      rw [e]; exact h2
     have HK2:Hid (z5e (b + 2) b W2 w2):=HK1.out.trans h3
     clear h2 h3
     go_wp2_with fail
     go_roundw
     case rel=>exact ⟨k + 1,by go_num,by omega,HB2,HK2⟩
     case measure=>simp [intOf]; omega
    | false =>
     go_wp2_with fail
     have hd0:(0:Int)≤(c.toNat:Int) / 16:=by omega
     have hd1:(c.toNat:Int) / 16 < 16:=by have:=c.toNat_lt; omega
     have hd2:=and15 c
     have hd3:(0:Int)≤(c.toNat:Int) % 16:=by omega
     have hd4:(c.toNat:Int) % 16 < 16:=by omega
     go_still_tail 6,(by kernel_rfl)
     change wpList _ _ _ _ _ w1.drew
     have HB2:Hid (z23 (b + 2) b (Lib.byteCells (z0u (s.data.toList.take k))) w1.drew):=HB1.out.below (Below.refl _ _).drew
     have HK2:Hid (z5e (b + 2) b W2 w1.drew):=HK1.out.below HB1.out.2.1 (by omega) (Below.refl _ _).drew
     generalize w1.drew = w2 at *
     go_wp2_with fail
     have hba:∀ o,Below w2.heap.size w2 (w2.alloc o):=fun o=>(Below.refl _ _).alloc (Nat.le_refl _) o
     have hw2:b + 2≤w2.heap.size:=HB2.out.2.1
     refine (writeB (b + 2) b _ w2.heap.size 0 3 3 [.int .u8 37,.int .u8 ((hexD (c.toNat / 16)).toNat:Int),.int .u8 ((hexD (c.toNat % 16)).toNat:Int)] _ (HB2.out.below (hba _)) (by have:=hlen.out; simp; omega) rfl (by omega) (by omega) (fun j u hj=>?_) (fun u hu=>by simp at hu; rcases hu with rfl | rfl | rfl <;> rfl)).mono ?_
     ·have hcell:=fun C=>World.cell?_alloc_mark w2 C 5 (0,0) j
      rw [Nat.zero_add]
      refine (hcell _).trans ?_
      have hc:=c.toNat_lt
      match j,hj with
      | 0,hj=>exact hj
      | 1,hj=>rw [← hj]; simp [hexB _ (show c.toNat / 16 < 16 by omega)]
      | 2,hj=>rw [← hj]; simp [hexB _ (show c.toNat % 16 < 16 by omega)]
     rintro e w3 ⟨rfl,h2,h3⟩
     have HB3:Hid (z23 (b + 2) b (Lib.byteCells (z0u (s.data.toList.take (k + 1)))) w3):=by
      have e:Lib.byteCells (z0u (s.data.toList.take (k + 1))) = Lib.byteCells (z0u (s.data.toList.take k)) ++ [.int .u8 37,.int .u8 ((hexD (c.toNat / 16)).toNat:Int),.int .u8 ((hexD (c.toNat % 16)).toNat:Int)]:=by
       rw [hq.out,hp,if_neg (by simp)]; simp [Lib.byteCells]
      show z23 _ _ _ _
      rw [e]; exact h2
     have HK3:Hid (z5e (b + 2) b W2 w3):=(HK2.out.below hw2 (by omega) (hba _)).trans h3
     clear h2 h3
     go_wp2_with fail
     go_roundw
     case rel=>exact ⟨k + 1,by go_num,by omega,HB3,HK3⟩
     case measure=>simp [intOf]; omega
   ·have hk2:k = s.size:=by omega
    have hall:Hid (s.data.toList.take s.size = s.data.toList):=List.take_of_length_le (by rw [hLL.out]; exact Nat.le_refl _)
    go_wp2_with fail
    refine (stringB (b + 2) b (z0u (s.data.toList.take k)) _ HB.out).mono ?_
    rintro e w1 ⟨rfl,hb1⟩
    go_wp2_with fail
    go_ret
    refine ⟨?_,?_⟩
    ·show Ending.returned (Value.string ⟨(z0u (s.data.toList.take s.size)).toArray⟩) = _
     rw [hall.out]; unfold z1e; rw [if_neg h0]
    ·rw [hb]; exact (hbW.out.trans HK.out.1).trans hb1
theorem zfb (s:ByteArray) (hs:s.size≤1000000):AFn Tryd.prog 24 [.str s] (.str (z1e s)) :=
 .flat1 (by kernel_rfl) y6g (fun _ _ _=>.str _) fun w hG=>quote_any s w hG hs
end
section
open Go.RowKit
theorem bext7 {a b:ByteArray} (h:a.data.toList = b.data.toList):a = b:=by
 cases a; cases b; congr 1; exact Array.ext' h
theorem ext_list (s:ByteArray) (i j:Nat):(s.extract i j).data.toList = (s.data.toList.take j).drop i:=by
 rw [ByteArray.data_extract,Array.toList_extract,List.extract_eq_take_drop,List.drop_take]
theorem run_args {f:FuncId} {w:World} {ds:List AV} {vs:List Value} (hG:Glob w) (hl:ds.length = vs.length) (h:∀ (j:Nat) (d:AV) (u:Value),ds[j]? = some d->vs[j]? = some u->VR (fun b _=>b < w.heap.size) w d u) (hA:AFn Tryd.prog f ds (.bool true)) :
  Calls Tryd.prog f ⟨vs⟩ w fun e w'=>e = .returned (.bool true)∧Below w.heap.size w w':=by
 have:=hA.calls w (fun b _=>b < w.heap.size) vs hG (fun b o hb=>hb) hl h
 refine this.mono fun e w' ⟨u,he,hb,hr⟩=>?_
 have hr':VR (fun b o=>(fun b _=>b < w.heap.size) b o∨w.heap.size≤b) w' (.bool true) u:=hr
 cases hr'
 exact ⟨he,hb⟩
end
section
open Go.RowKit
def uqL:List UInt8->Option (List UInt8)
 | []=>some []
 | c :: l=>if z2l c then (uqL l).map (c :: ·) else if c ≠ 37 then none else match l with
  | a :: b :: m=>if digF a < 0∨digF b < 0 then none else if z2l (hexV a b) then none else (uqL m).map (hexV a b :: ·)
  | _=>none
theorem y6d (c:UInt8) (l:List UInt8):uqL (c :: l) = if z2l c then (uqL l).map (c :: ·) else if c ≠ 37 then none else match l with
  | a :: b :: m=>if digF a < 0∨digF b < 0 then none else if z2l (hexV a b) then none else (uqL m).map (hexV a b :: ·)
  | _=>none:=by
 match l with
 | []=>rfl
 | [_]=>rfl
 | _ :: _ :: _=>rfl
theorem y1n {p:UInt8->Prop} (h:∀ n:Fin 256,p (UInt8.ofFin n)) (c:UInt8):p c:=by
 have:=h c.toFin
 simpa using this
theorem plain37:z2l 37 = false:=by decide +kernel
theorem dig_hi:∀ c:UInt8,digF (hexD (c.toNat / 16)) = ((c.toNat / 16:Nat):Int):=y1n (by decide +kernel)
theorem dig_lo:∀ c:UInt8,digF (hexD (c.toNat % 16)) = ((c.toNat % 16:Nat):Int):=y1n (by decide +kernel)
theorem hexV_of (c:UInt8):hexV (hexD (c.toNat / 16)) (hexD (c.toNat % 16)) = c:=by
 unfold hexV
 rw [dig_hi,dig_lo]
 have hc:=c.toNat_lt
 rw [show (((c.toNat / 16:Nat):Int) * 16 + ((c.toNat % 16:Nat):Int)).toNat = c.toNat by omega]
 simp
theorem zu4:∀ l:List UInt8,uqL (z0u l) = some l
 | []=>rfl
 | c :: l=>by
  rw [z0u]
  cases hp:z2l c with
  | true =>
   rw [if_pos rfl,List.singleton_append,y6d,hp,if_pos rfl,zu4 l]; rfl
  | false =>
   rw [if_neg (by simp)]
   show uqL (37 :: hexD (c.toNat / 16) :: hexD (c.toNat % 16) :: z0u l) = _
   rw [y6d,plain37,if_neg (by simp),if_neg (by simp)]
   simp only
   rw [if_neg (by rw [dig_hi,dig_lo]; omega),hexV_of,hp,if_neg (by simp),zu4 l]; rfl
theorem z4a {a b:ByteArray} (h:a.data.toList = b.data.toList):a = b:=by
 cases a; cases b; congr 1; exact Array.ext' h
theorem y39 (s:ByteArray):(z1e s).data.toList = if s.data.toList = [] then [45] else z0u s.data.toList:=by
 have hL:s.data.toList.length = s.size:=by rw [Array.length_toList]; rfl
 unfold z1e
 by_cases h:s.size = 0
 ·rw [if_pos h,if_pos (List.eq_nil_of_length_eq_zero (by omega))]
 ·rw [if_neg h,if_neg (fun e=>h (by rw [← hL,e]; rfl))]
theorem quoteL_nil {l:List UInt8} (h:z0u l = []):l = []:=by
 have:=zu4 l
 rw [h] at this
 simp [uqL] at this
 exact this
end
section
open Go.RowKit
attribute [local go_sem ↓] z1m z0h
def zqp:Reg:=⟨[],[⟨.mv (.c (.str ⟨#[]⟩)),some 2,none,[],[]⟩],[],[],false⟩
def zqo:Reg:=⟨[],[⟨.mv (.c (.str ⟨#[48,49,50,51,52,53,54,55,56,57,97,98,99,100,101,102]⟩)),some 3,none,[],[]⟩],[],[],false⟩
def zqn:Reg:=⟨[],[⟨.mv (.c (.str ⟨#[]⟩)),some 4,none,[],[]⟩],[],[],false⟩
def zqm:Reg:=⟨[],[⟨.mv (.c (.int .i64 0)),some 5,none,[],[]⟩],[],[],false⟩
def zbo:List ROp:=[⟨.mv (.t 5),some 6,none,[],[]⟩,⟨.mv (.t 0),some 7,none,[],[]⟩,⟨.len true (.t 7),some 8,none,[],[]⟩,⟨.bin .lss (.t 6) (.t 8),some 9,none,[],[]⟩]
def zql:Reg:=⟨[],zbo,[],[],false⟩
def zbn:List ROp:=[⟨.mv (.t 0),some 12,none,[15],[]⟩,⟨.mv (.t 5),some 13,none,[15],[]⟩,⟨.idx (.t 12) (.t 13),some 14,none,[15],[]⟩,⟨.callv (.c (.clo 34 [] [])) [(.t 14)],some 15,none,[],[]⟩]
def zqk:Reg:=⟨[],zbn,[15],[],false⟩
def zbm:List ROp:=[⟨.mv (.t 4),some 16,none,[],[]⟩,⟨.mv (.t 0),some 17,none,[],[]⟩,⟨.mv (.t 5),some 18,none,[],[]⟩,⟨.mv (.t 5),some 19,none,[],[]⟩,⟨.bin .add (.t 19) (.c (.int .i64 1)),some 20,none,[],[]⟩,⟨.slc true 0 (.t 17) (some (.t 18)) (some (.t 20)),some 21,none,[],[]⟩,⟨.bin .add (.t 16) (.t 21),some 22,none,[],[]⟩,⟨.mv (.t 22),some 4,none,[],[]⟩]
def zqj:Reg:=⟨[],zbm,[],[],false⟩
def zdk:List ROp:=[⟨.mv (.t 4),some 23,none,[],[]⟩,⟨.mv (.t 3),some 24,none,[],[]⟩,⟨.mv (.t 0),some 25,none,[],[]⟩,⟨.mv (.t 5),some 26,none,[],[]⟩,⟨.idx (.t 25) (.t 26),some 27,none,[],[]⟩,⟨.bin .quo (.t 27) (.c (.int .u8 16)),some 28,none,[],[]⟩,⟨.mv (.t 0),some 29,none,[],[]⟩,⟨.mv (.t 5),some 30,none,[],[]⟩,⟨.idx (.t 29) (.t 30),some 31,none,[],[]⟩,⟨.bin .quo (.t 31) (.c (.int .u8 16)),some 32,none,[],[]⟩,⟨.bin .add (.t 32) (.c (.int .u8 1)),some 33,none,[],[]⟩,⟨.slc true 0 (.t 24) (some (.t 28)) (some (.t 33)),some 34,none,[],[]⟩,⟨.bin .add (.c (.str ⟨#[37]⟩)) (.t 34),some 35,none,[],[]⟩,⟨.mv (.t 3),some 36,none,[],[]⟩,⟨.mv (.t 0),some 37,none,[],[]⟩,⟨.mv (.t 5),some 38,none,[],[]⟩,⟨.idx (.t 37) (.t 38),some 39,none,[],[]⟩,⟨.bin .rem (.t 39) (.c (.int .u8 16)),some 40,none,[],[]⟩,⟨.mv (.t 0),some 41,none,[],[]⟩,⟨.mv (.t 5),some 42,none,[],[]⟩,⟨.idx (.t 41) (.t 42),some 43,none,[],[]⟩,⟨.bin .rem (.t 43) (.c (.int .u8 16)),some 44,none,[],[]⟩,⟨.bin .add (.t 44) (.c (.int .u8 1)),some 45,none,[],[]⟩,⟨.slc true 0 (.t 36) (some (.t 40)) (some (.t 45)),some 46,none,[],[]⟩,⟨.bin .add (.t 35) (.t 46),some 47,none,[],[]⟩]
def zqi:Reg:=⟨zdk,[⟨.bin .add (.t 23) (.t 47),some 48,none,[],[]⟩,⟨.mv (.t 48),some 4,none,[],[]⟩],[],[],true⟩
def zbl:List ROp:=[⟨.mv (.t 5),some 10,none,[],[]⟩,⟨.bin .add (.t 10) (.c (.int .i64 1)),some 11,none,[],[]⟩,⟨.mv (.t 11),some 5,none,[],[]⟩]
def zqh:Reg:=⟨[],zbl,[],[],false⟩
def zk1:IR:=(.seq (.seq (.reg zql)
 (.cond (.t 9) .skip
 (.exit 0)))
 (.seq (.block 1 (.seq (.reg zqk)
 (.cond (.t 15) (.reg zqj)
 (.reg zqi))))
 (.reg zqh)))
def zk4:Reg:=⟨[],[⟨.mv (.t 4),some 49,none,[],[]⟩,⟨.bin .eql (.t 49) (.c (.str ⟨#[]⟩)),some 50,none,[],[]⟩],[],[],false⟩
def zk3:Reg:=⟨[],[⟨.mv (.c (.str ⟨#[45]⟩)),some 2,none,[],[]⟩],[],[],false⟩
def zk2:Reg:=⟨[],[⟨.mv (.t 4),some 51,none,[],[]⟩,⟨.mv (.t 51),some 2,none,[],[]⟩],[],[],false⟩
def y19:IR:=(.seq (.reg zqp)
 (.seq (.reg zqo)
 (.seq (.reg zqn)
 (.seq (.seq (.reg zqm)
 (.block 0 (.loop zk1)))
 (.seq (.seq (.reg zk4)
 (.cond (.t 50) (.seq (.reg zk3)
 .ret)
 .skip))
 (.seq (.reg zk2)
 .ret))))))
def znu:List RDesc:=[(.tmp 2)]
theorem e_rQuote_0:EqR zqp [⟨.mv (.c (.str ⟨#[]⟩)),some 2,none,[],[]⟩] []:=fun _ _ _=>rfl
theorem e_rQuote_1:EqR zqo [⟨.mv (.c (.str ⟨#[48,49,50,51,52,53,54,55,56,57,97,98,99,100,101,102]⟩)),some 3,none,[],[]⟩] []:=fun _ _ _=>rfl
theorem e_rQuote_2:EqR zqn [⟨.mv (.c (.str ⟨#[]⟩)),some 4,none,[],[]⟩] []:=fun _ _ _=>rfl
theorem e_rQuote_3:EqR zqm [⟨.mv (.c (.int .i64 0)),some 5,none,[],[]⟩] []:=fun _ _ _=>rfl
theorem e_rQuote_4:EqR zql zbo []:=fun _ _ _=>rfl
theorem e_rQuote_5:EqR zqk zbn [15]:=fun _ _ _=>rfl
theorem e_rQuote_6:EqR zqj zbm []:=fun _ _ _=>rfl
theorem e_rQuote_7 (C:FuncId->List AV->AV->Prop) (σ:St) (K:St->Prop):z0m C zqi σ K = z07 C [] [⟨.bin .add (.t 23) (.t 47),some 48,none,[],[]⟩,⟨.mv (.t 48),some 4,none,[],[]⟩] zdk (σ.kills []) K:=rfl
theorem e_rQuote_8:EqR zqh zbl []:=fun _ _ _=>rfl
theorem y56:EqR zk4 [⟨.mv (.t 4),some 49,none,[],[]⟩,⟨.bin .eql (.t 49) (.c (.str ⟨#[]⟩)),some 50,none,[],[]⟩] []:=fun _ _ _=>rfl
theorem y55:EqR zk3 [⟨.mv (.c (.str ⟨#[45]⟩)),some 2,none,[],[]⟩] []:=fun _ _ _=>rfl
theorem y54:EqR zk2 [⟨.mv (.t 4),some 51,none,[],[]⟩,⟨.mv (.t 51),some 2,none,[],[]⟩] []:=fun _ _ _=>rfl
theorem fn_rQuote {args:List AV} {r:AV} (ha:args.length.ble Tryd.f13.ntmps = true) (h:run (AFn Tryd.prog) y19 (endQ znu r) (z0a args)):AFn Tryd.prog 13 args r :=
 AFn.of_code (pv:=false) (hint:=fun _=>[]) (c:=Tryd.f13.body.getD .skip) (by kernel_rfl) (by kernel_rfl) Tryd.func13 (by kernel_rfl) (by kernel_rfl) (by kernel_rfl) (of_decide_eq_true (by kernel_rfl)) (Nat.le_of_ble_eq_true ha) (Nat.le_of_ble_eq_true (by kernel_rfl)) (z0b h)
attribute [local go_sem ↓] y19
attribute [local go_sem] znu e_rQuote_0 e_rQuote_1 e_rQuote_2 e_rQuote_3 e_rQuote_4 zbo e_rQuote_5 zbn e_rQuote_6 zbm e_rQuote_7 zdk e_rQuote_8 zbl y56 y55 y54
def qs (l:List UInt8):ByteArray:=⟨(z0u l).toArray⟩
def hexS:ByteArray:=⟨#[48,49,50,51,52,53,54,55,56,57,97,98,99,100,101,102]⟩
theorem y8x:∀ n:Fin 16,hexS.extract n.val (n.val + 1) = ⟨#[hexD n.val]⟩:=by decide +kernel
theorem qs_size (l:List UInt8):(qs l).size = (z0u l).length:=rfl
theorem qs_plain {s:List UInt8} {j:Nat} {c:UInt8} (hc:s[j]? = some c) (hp:z2l c = true):qs (s.take j) ++ (⟨#[c]⟩:ByteArray) = qs (s.take (j + 1)):=by
 apply z4a
 rw [ByteArray.data_append,Array.toList_append]
 unfold qs
 rw [List.take_add_one,hc]
 simp only [Option.toList]
 rw [z6r,zd3,hp,if_pos rfl]
theorem qs_other {s:List UInt8} {j:Nat} {c:UInt8} (hc:s[j]? = some c) (hp:z2l c = false):qs (s.take j) ++ ((⟨#[37]⟩:ByteArray) ++ ⟨#[hexD (c.toNat / 16)]⟩ ++ ⟨#[hexD (c.toNat % 16)]⟩) = qs (s.take (j + 1)):=by
 apply z4a
 rw [ByteArray.data_append,Array.toList_append]
 unfold qs
 rw [List.take_add_one,hc]
 simp only [Option.toList]
 rw [z6r,zd3,hp,if_neg (by simp)]
 rfl
theorem ext_one {s:ByteArray} {j:Nat} {c:UInt8} (hc:s.data.toList[j]? = some c):s.extract j (j + 1) = ⟨#[c]⟩:=by
 apply bext7
 rw [ext_list,List.take_add_one,hc]
 have hj:=(List.getElem?_eq_some_iff.1 hc).1
 simp only [Option.toList]
 rw [List.drop_append,List.length_take,Nat.min_eq_left (by omega),Nat.sub_self,List.drop_zero,List.drop_eq_nil_of_le (by rw [List.length_take]; omega),List.nil_append]
def rqInv (s:ByteArray) (k:Nat) (σ:St):Prop :=
 ∃ j:Nat,j≤s.size∧k = s.size - j∧σ.T 0 = .str s∧σ.T 3 = .str hexS∧σ.T 4 = .str (qs (s.data.toList.take j))∧σ.T 5 = .int .i64 j
theorem qs_eq {s:ByteArray}:(if s.size = 0 then (⟨#[45]⟩:ByteArray) else qs s.data.toList) = z1e s:=rfl
theorem z3s (s:ByteArray) (hs:s.size≤1000000):AFn Tryd.prog 13 [.str s] (.str (z1e s)):=by
 have hL:s.data.toList.length = s.size:=by rw [Array.length_toList]; rfl
 refine fn_rQuote rfl ?_
 simp (maxSteps:=9^7) only [go_sem,↓reduceIte,reduceCtorEq,Nat.reduceEqDiff,Nat.reduceBEq,Nat.reduceAdd,Nat.reduceSub,Nat.reduceMul,Nat.reduceLT,Nat.reduceLeDiff,Nat.reduceBNe,Int.reduceBEq,Int.reduceBNe,Int.reduceLT,Int.reduceLE]
 refine z08 (rqInv s) (k:=s.size) ⟨0,by omega,rfl,?_,?_,?_,?_⟩ ?_
 ·simp (maxSteps:=9^7) only [go_sem,↓reduceIte,reduceCtorEq,Nat.reduceEqDiff,Nat.reduceBEq,Nat.reduceAdd,Nat.reduceSub,Nat.reduceMul,Nat.reduceLT,Nat.reduceLeDiff,Nat.reduceBNe,Int.reduceBEq,Int.reduceBNe,Int.reduceLT,Int.reduceLE]
 ·simp (maxSteps:=9^7) only [go_sem,↓reduceIte,reduceCtorEq,Nat.reduceEqDiff,Nat.reduceBEq,Nat.reduceAdd,Nat.reduceSub,Nat.reduceMul,Nat.reduceLT,Nat.reduceLeDiff,Nat.reduceBNe,Int.reduceBEq,Int.reduceBNe,Int.reduceLT,Int.reduceLE]
  rfl
 ·simp (maxSteps:=9^7) only [go_sem,↓reduceIte,reduceCtorEq,Nat.reduceEqDiff,Nat.reduceBEq,Nat.reduceAdd,Nat.reduceSub,Nat.reduceMul,Nat.reduceLT,Nat.reduceLeDiff,Nat.reduceBNe,Int.reduceBEq,Int.reduceBNe,Int.reduceLT,Int.reduceLE]
  rfl
 ·simp (maxSteps:=9^7) only [go_sem,↓reduceIte,reduceCtorEq,Nat.reduceEqDiff,Nat.reduceBEq,Nat.reduceAdd,Nat.reduceSub,Nat.reduceMul,Nat.reduceLT,Nat.reduceLeDiff,Nat.reduceBNe,Int.reduceBEq,Int.reduceBNe,Int.reduceLT,Int.reduceLE]
  rfl
 rintro k σ ⟨j,hj,rfl,t0,t3,t4,t5⟩
 simp only [zk1]
 have hsz:(qs (s.data.toList.take j)).size≤3000000:=by
  rw [qs_size]
  have h1:=z6q (s.data.toList.take j)
  have h2:(s.data.toList.take j).length≤s.size:=by rw [List.length_take,hL]; omega
  omega
 by_cases hlt:j < s.size
 ·have hlt':(j:Int) < (s.size:Int):=by omega
  have hw1:IntKind.i64.wrap ((j:Int) + 1) = ((j + 1:Nat):Int):=by rw [IntWalk.i64_in _ (by omega)]; rfl
  obtain ⟨c,hc⟩:∃ c,s.data.toList[j]? = some c:=⟨_,List.getElem?_eq_getElem (by omega)⟩
  have hg:s.data.toList.getD j 0 = c:=by rw [List.getD_eq_getElem?_getD,hc]; rfl
  simp (maxSteps:=9^7) only [go_sem,↓reduceIte,reduceCtorEq,Nat.reduceEqDiff,Nat.reduceBEq,Nat.reduceAdd,Nat.reduceSub,Nat.reduceMul,Nat.reduceLT,Nat.reduceLeDiff,Nat.reduceBNe,Int.reduceBEq,Int.reduceBNe,Int.reduceLT,Int.reduceLE,t0,t3,t4,t5,hlt',hg,Int.toNat_natCast]
  (repeat refine And.intro (by omega) ?_)
  (first | refine z01 (rOwn_ok c) ?_ | refine z00 (rOwn_ok c) ?_)
  cases hp:z2l c with
  | true =>
   have hx:=ext_one hc
   have hq:=qs_plain hc hp
   simp (maxSteps:=9^7) only [go_sem,↓reduceIte,reduceCtorEq,Nat.reduceEqDiff,Nat.reduceBEq,Nat.reduceAdd,Nat.reduceSub,Nat.reduceMul,Nat.reduceLT,Nat.reduceLeDiff,Nat.reduceBNe,Int.reduceBEq,Int.reduceBNe,Int.reduceLT,Int.reduceLE,t0,t3,t4,t5,hp,hw1,hx,Int.toNat_natCast]
   (repeat refine And.intro (by omega) ?_)
   rw [hq]
   refine ⟨?_,s.size - (j + 1),by omega,j + 1,by omega,rfl,?_,?_,?_,?_⟩
   ·show (qs _).size + 1≤_
    omega
   all_goals (simp (maxSteps:=9^7) only [go_sem,↓reduceIte,reduceCtorEq,Nat.reduceEqDiff,Nat.reduceBEq,Nat.reduceAdd,Nat.reduceSub,Nat.reduceMul,Nat.reduceLT,Nat.reduceLeDiff,Nat.reduceBNe,Int.reduceBEq,Int.reduceBNe,Int.reduceLT,Int.reduceLE,t0,t3,t4,t5,hw1])
  | false =>
   have hcl:=c.toNat_lt
   have hq:=qs_other hc hp
   have e1:=y8x ⟨c.toNat / 16,by omega⟩
   have e2:=y8x ⟨c.toNat % 16,by omega⟩
   simp only at e1 e2
   have h16:hexS.size = 16:=rfl
   have s1:∀ x:UInt8,#[x].size = 1:=fun _=>rfl
   have d1:IntKind.u8.wrap ((c.toNat:Int).tdiv 16) = ((c.toNat / 16:Nat):Int):=by
    rw [Int.tdiv_eq_ediv_of_nonneg (by omega),show ((c.toNat:Int) / 16) = ((c.toNat / 16:Nat):Int) by omega]
    simp [IntKind.wrap,IntKind.signed,IntKind.bits]; omega
   have d2:(c.toNat:Int).tmod 16 = ((c.toNat % 16:Nat):Int):=by
    rw [Int.tmod_eq_emod_of_nonneg (by omega)]; omega
   have d3:IntKind.u8.wrap (((c.toNat / 16:Nat):Int) + 1) = ((c.toNat / 16 + 1:Nat):Int):=by
    simp [IntKind.wrap,IntKind.signed,IntKind.bits]; omega
   have d4:IntKind.u8.wrap (((c.toNat % 16:Nat):Int) + 1) = ((c.toNat % 16 + 1:Nat):Int):=by
    simp [IntKind.wrap,IntKind.signed,IntKind.bits]; omega
   simp (maxSteps:=9^7) only [go_sem,↓reduceIte,reduceCtorEq,Nat.reduceEqDiff,Nat.reduceBEq,Nat.reduceAdd,Nat.reduceSub,Nat.reduceMul,Nat.reduceLT,Nat.reduceLeDiff,Nat.reduceBNe,Int.reduceBEq,Int.reduceBNe,Int.reduceLT,Int.reduceLE,t0,t3,t4,t5,hp,hw1,hg,d1,d2,d3,d4,e1,e2,h16,s1,Int.toNat_natCast]
   (repeat refine And.intro (by omega) ?_)
   rw [hq]
   refine ⟨s.size - (j + 1),by omega,j + 1,by omega,rfl,?_,?_,?_,?_⟩ <;> (simp (maxSteps:=9^7) only [go_sem,↓reduceIte,reduceCtorEq,Nat.reduceEqDiff,Nat.reduceBEq,Nat.reduceAdd,Nat.reduceSub,Nat.reduceMul,Nat.reduceLT,Nat.reduceLeDiff,Nat.reduceBNe,Int.reduceBEq,Int.reduceBNe,Int.reduceLT,Int.reduceLE,t0,t3,t4,t5,hw1])
 ·have hlt':¬ (j:Int) < (s.size:Int):=by omega
  have hall:s.data.toList.take j = s.data.toList:=List.take_of_length_le (by omega)
  rw [hall] at t4
  by_cases h0:s.size = 0
  ·have hnil:s.data.toList = []:=List.eq_nil_of_length_eq_zero (by omega)
   have z1:((qs s.data.toList).toList == (ByteArray.mk #[]).toList) = true:=by rw [hnil]; decide +kernel
   have z2:z1e s = ⟨#[45]⟩:=by rw [← qs_eq,if_pos h0]
   rw [z2]
   simp (maxSteps:=9^7) only [go_sem,↓reduceIte,reduceCtorEq,Nat.reduceEqDiff,Nat.reduceBEq,Nat.reduceAdd,Nat.reduceSub,Nat.reduceMul,Nat.reduceLT,Nat.reduceLeDiff,Nat.reduceBNe,Int.reduceBEq,Int.reduceBNe,Int.reduceLT,Int.reduceLE,t0,t3,t4,t5,hlt',z1]
  ·have hq:qs s.data.toList = z1e s:=by rw [← qs_eq,if_neg h0]
   have z1:((qs s.data.toList).toList == (ByteArray.mk #[]).toList) = false:=by
    rw [z9z]
    refine decide_eq_false fun e=>h0 ?_
    rw [qs_size] at e
    have:=quoteL_nil (List.eq_nil_of_length_eq_zero e)
    rw [← hL,this]; rfl
   rw [← hq]
   simp (maxSteps:=9^7) only [go_sem,↓reduceIte,reduceCtorEq,Nat.reduceEqDiff,Nat.reduceBEq,Nat.reduceAdd,Nat.reduceSub,Nat.reduceMul,Nat.reduceLT,Nat.reduceLeDiff,Nat.reduceBNe,Int.reduceBEq,Int.reduceBNe,Int.reduceLT,Int.reduceLE,t0,t3,t4,t5,hlt',z1]
end
section
open Go.RowKit
attribute [local go_sem ↓] z1m z0h
def zyi:Reg:=⟨[],[⟨.mv (.c (.bool false)),some 4,none,[],[]⟩],[],[],false⟩
def zgr:List ROp:=[⟨.mv (.t 0),some 6,none,[],[]⟩,⟨.len false (.t 6),some 7,none,[],[]⟩,⟨.mv (.t 1),some 8,none,[],[]⟩,⟨.len false (.t 8),some 9,none,[],[]⟩,⟨.bin .neq (.t 7) (.t 9),some 10,none,[],[]⟩]
def zyh:Reg:=⟨[],zgr,[],[],false⟩
def zyg:Reg:=⟨[],[⟨.mv (.c (.bool false)),some 4,none,[],[]⟩],[],[],false⟩
def zyf:Reg:=⟨[],[⟨.mv (.c (.int .i64 0)),some 5,none,[],[]⟩],[],[],false⟩
def zgq:List ROp:=[⟨.mv (.t 5),some 11,none,[],[]⟩,⟨.mv (.t 0),some 12,none,[],[]⟩,⟨.len false (.t 12),some 13,none,[],[]⟩,⟨.bin .lss (.t 11) (.t 13),some 14,none,[],[]⟩]
def zye:Reg:=⟨[],zgq,[],[],false⟩
def zm4:List ROp:=[⟨.mv (.t 0),some 17,none,[],[]⟩,⟨.mv (.t 5),some 18,none,[],[]⟩,⟨.iaddr 1 (.t 17) (.t 18),some 19,none,[],[]⟩,⟨.load 1 false (.t 19),some 20,none,[],[]⟩,⟨.mv (.t 1),some 21,none,[],[]⟩,⟨.mv (.t 5),some 22,none,[],[]⟩,⟨.iaddr 1 (.t 21) (.t 22),some 23,none,[],[]⟩,⟨.load 1 false (.t 23),some 24,none,[],[]⟩]
def zyd:Reg:=⟨zm4,[⟨.bin .neq (.t 20) (.t 24),some 25,none,[],[]⟩],[],[],true⟩
def zyc:Reg:=⟨[],[⟨.mv (.c (.bool false)),some 4,none,[],[]⟩],[],[],false⟩
def zgp:List ROp:=[⟨.mv (.t 5),some 15,none,[],[]⟩,⟨.bin .add (.t 15) (.c (.int .i64 1)),some 16,none,[],[]⟩,⟨.mv (.t 16),some 5,none,[],[]⟩]
def zyb:Reg:=⟨[],zgp,[],[],false⟩
def zqa:IR:=(.seq (.seq (.reg zye)
 (.cond (.t 14) .skip
 (.exit 0)))
 (.seq (.block 1 (.seq (.reg zyd)
 (.cond (.t 25) (.seq (.reg zyc)
 .ret)
 .skip)))
 (.reg zyb)))
def zya:Reg:=⟨[],[⟨.mv (.c (.bool true)),some 4,none,[],[]⟩],[],[],false⟩
def y8l:IR:=(.seq (.reg zyi)
 (.seq (.seq (.reg zyh)
 (.cond (.t 10) (.seq (.reg zyg)
 .ret)
 .skip))
 (.seq (.seq (.reg zyf)
 (.block 0 (.loop zqa)))
 (.seq (.reg zya)
 .ret))))
def zwg:List RDesc:=[(.tmp 4)]
theorem e_rSame_0:EqR zyi [⟨.mv (.c (.bool false)),some 4,none,[],[]⟩] []:=fun _ _ _=>rfl
theorem e_rSame_1:EqR zyh zgr []:=fun _ _ _=>rfl
theorem e_rSame_2:EqR zyg [⟨.mv (.c (.bool false)),some 4,none,[],[]⟩] []:=fun _ _ _=>rfl
theorem e_rSame_3:EqR zyf [⟨.mv (.c (.int .i64 0)),some 5,none,[],[]⟩] []:=fun _ _ _=>rfl
theorem e_rSame_4:EqR zye zgq []:=fun _ _ _=>rfl
theorem e_rSame_5 (C:FuncId->List AV->AV->Prop) (σ:St) (K:St->Prop):z0m C zyd σ K = z07 C [] [⟨.bin .neq (.t 20) (.t 24),some 25,none,[],[]⟩] zm4 (σ.kills []) K:=rfl
theorem e_rSame_6:EqR zyc [⟨.mv (.c (.bool false)),some 4,none,[],[]⟩] []:=fun _ _ _=>rfl
theorem e_rSame_7:EqR zyb zgp []:=fun _ _ _=>rfl
theorem e_rSame_9:EqR zya [⟨.mv (.c (.bool true)),some 4,none,[],[]⟩] []:=fun _ _ _=>rfl
theorem fn_rSame {args:List AV} {r:AV} (ha:args.length.ble Tryd.f14.ntmps = true) (h:run (AFn Tryd.prog) y8l (endQ zwg r) (z0a args)):AFn Tryd.prog 14 args r :=
 AFn.of_code (pv:=false) (hint:=fun _=>[]) (c:=Tryd.f14.body.getD .skip) (by kernel_rfl) (by kernel_rfl) Tryd.func14 (by kernel_rfl) (by kernel_rfl) (by kernel_rfl) (of_decide_eq_true (by kernel_rfl)) (Nat.le_of_ble_eq_true ha) (Nat.le_of_ble_eq_true (by kernel_rfl)) (z0b h)
attribute [local go_sem ↓] y8l
attribute [local go_sem] zwg e_rSame_0 e_rSame_1 zgr e_rSame_2 e_rSame_3 e_rSame_4 zgq e_rSame_5 zm4 e_rSame_6 e_rSame_7 zgp e_rSame_9
def wb (l:List UInt8):ByteArray:=⟨l.toArray⟩
def sameInv7 (l:List ByteArray) (k:Nat) (σ:St):Prop :=
 ∃ j:Nat,j≤l.length∧k = l.length - j∧σ.T 0 = .sl (l.map .str)∧σ.T 1 = .sl (l.map .str)∧σ.T 5 = .int .i64 j
theorem zw1 (l:List ByteArray) (hl:l.length≤1000000):AFn Tryd.prog 14 [.sl (l.map .str),.sl (l.map .str)] (.bool true):=by
 refine fn_rSame rfl ?_
 simp (maxSteps:=9^7) only [go_sem,↓reduceIte,reduceCtorEq,Nat.reduceEqDiff,Nat.reduceBEq,Nat.reduceAdd,Nat.reduceSub,Nat.reduceMul,Nat.reduceLT,Nat.reduceLeDiff,Nat.reduceBNe,Int.reduceBEq,Int.reduceBNe,Int.reduceLT,Int.reduceLE,bne_self_eq_false]
 refine z08 (sameInv7 l) (k:=l.length) ⟨0,by omega,rfl,?_,?_,?_⟩ ?_
 iterate 2 focus ((simp (maxSteps:=9^7) only [go_sem,↓reduceIte,reduceCtorEq,Nat.reduceEqDiff,Nat.reduceBEq,Nat.reduceAdd,Nat.reduceSub,Nat.reduceMul,Nat.reduceLT,Nat.reduceLeDiff,Nat.reduceBNe,Int.reduceBEq,Int.reduceBNe,Int.reduceLT,Int.reduceLE]) <;> rfl)
 ·simp (maxSteps:=9^7) only [go_sem,↓reduceIte,reduceCtorEq,Nat.reduceEqDiff,Nat.reduceBEq,Nat.reduceAdd,Nat.reduceSub,Nat.reduceMul,Nat.reduceLT,Nat.reduceLeDiff,Nat.reduceBNe,Int.reduceBEq,Int.reduceBNe,Int.reduceLT,Int.reduceLE]
  rfl
 rintro k σ ⟨j,hj,rfl,t0,t1,t5⟩
 simp only [zqa]
 by_cases hlt:j < l.length
 ·have hlt':(j:Int) < (l.length:Int):=by omega
  have hw1:IntKind.i64.wrap ((j:Int) + 1) = ((j + 1:Nat):Int):=by rw [IntWalk.i64_in _ (by omega)]; rfl
  obtain ⟨x,hx⟩:∃ x,l[j]? = some x:=⟨_,List.getElem?_eq_getElem hlt⟩
  have hg:(l.map AV.str).getD j .und = .str x:=by rw [List.getD_eq_getElem?_getD,List.getElem?_map,hx]; rfl
  simp (maxSteps:=9^7) only [go_sem,↓reduceIte,reduceCtorEq,Nat.reduceEqDiff,Nat.reduceBEq,Nat.reduceAdd,Nat.reduceSub,Nat.reduceMul,Nat.reduceLT,Nat.reduceLeDiff,Nat.reduceBNe,Int.reduceBEq,Int.reduceBNe,Int.reduceLT,Int.reduceLE,t0,t1,t5,hlt',hg,hw1,beq_self_eq_true,List.length_map,Int.toNat_natCast]
  (repeat refine And.intro (by omega) ?_)
  refine ⟨l.length - (j + 1),by omega,j + 1,by omega,rfl,?_,?_,?_⟩ <;> (simp (maxSteps:=9^7) only [go_sem,↓reduceIte,reduceCtorEq,Nat.reduceEqDiff,Nat.reduceBEq,Nat.reduceAdd,Nat.reduceSub,Nat.reduceMul,Nat.reduceLT,Nat.reduceLeDiff,Nat.reduceBNe,Int.reduceBEq,Int.reduceBNe,Int.reduceLT,Int.reduceLE,t0,t1,t5,hw1])
 ·have hlt':¬ (j:Int) < (l.length:Int):=by omega
  simp (maxSteps:=9^7) only [go_sem,↓reduceIte,reduceCtorEq,Nat.reduceEqDiff,Nat.reduceBEq,Nat.reduceAdd,Nat.reduceSub,Nat.reduceMul,Nat.reduceLT,Nat.reduceLeDiff,Nat.reduceBNe,Int.reduceBEq,Int.reduceBNe,Int.reduceLT,Int.reduceLE,t0,t1,t5,hlt',List.length_map]
end
section
open Go.RowKit
attribute [local go_sem ↓] z1m z0h
def r_dec_0:Reg:=⟨[],[⟨.mv (.c (.str ⟨#[]⟩)),some 2,none,[],[]⟩],[],[],false⟩
def y2q:List ROp:=[⟨.mv (.t 0),some 3,none,[4],[]⟩,⟨.callv (.c (.clo 44 [] [])) [(.t 3)],some 4,none,[],[]⟩,⟨.mv (.t 4),some 2,none,[],[]⟩]
def r_dec_1:Reg:=⟨[],y2q,[4],[],false⟩
def ir_dec:IR:=(.seq (.reg r_dec_0)
 (.seq (.reg r_dec_1)
 .ret))
def res_dec:List RDesc:=[(.tmp 2)]
theorem e_dec_0:EqR r_dec_0 [⟨.mv (.c (.str ⟨#[]⟩)),some 2,none,[],[]⟩] []:=fun _ _ _=>rfl
theorem e_dec_1:EqR r_dec_1 y2q [4]:=fun _ _ _=>rfl
theorem fn_dec {args:List AV} {r:AV} (ha:args.length.ble Tryd.f22.ntmps = true) (h:run (AFn Tryd.prog) ir_dec (endQ res_dec r) (z0a args)):AFn Tryd.prog 22 args r :=
 AFn.of_code (pv:=false) (hint:=fun _=>[]) (c:=Tryd.f22.body.getD .skip) (by kernel_rfl) (by kernel_rfl) Tryd.func22 (by kernel_rfl) (by kernel_rfl) (by kernel_rfl) (of_decide_eq_true (by kernel_rfl)) (Nat.le_of_ble_eq_true ha) (Nat.le_of_ble_eq_true (by kernel_rfl)) (z0b h)
def y7h:Reg:=⟨[],[⟨.mv (.c (.str ⟨#[]⟩)),some 2,none,[],[]⟩],[],[],false⟩
def y7g:Reg:=⟨[],[⟨.mv (.c (.str ⟨#[]⟩)),some 3,none,[],[]⟩],[],[],false⟩
def y7f:Reg:=⟨[],[⟨.mv (.t 0),some 6,none,[],[]⟩,⟨.mv (.t 6),some 4,none,[],[]⟩],[],[],false⟩
def zuk:List ROp:=[⟨.mv (.t 4),some 7,none,[],[]⟩,⟨.bin .rem (.t 7) (.c (.int .i64 10)),some 8,none,[],[]⟩,⟨.mv (.t 8),some 5,none,[],[]⟩]
def y7e:Reg:=⟨[],zuk,[],[],false⟩
def y7d:Reg:=⟨[],[⟨.mv (.t 5),some 9,none,[],[]⟩,⟨.bin .lss (.t 9) (.c (.int .i64 0)),some 10,none,[],[]⟩],[],[],false⟩
def zuj:List ROp:=[⟨.mv (.t 5),some 11,none,[],[]⟩,⟨.un .neg (.t 11),some 12,none,[],[]⟩,⟨.mv (.t 12),some 5,none,[],[]⟩]
def y7c:Reg:=⟨[],zuj,[],[],false⟩
def zui:List ROp:=[⟨.mv (.t 5),some 13,none,[16,17],[]⟩,⟨.bin .add (.c (.int .i64 48)) (.t 13),some 14,none,[16,17],[]⟩,⟨.conv .u8 (.t 14),some 15,none,[16,17],[]⟩,⟨.bsl 1 5 [(.t 15)],some 16,none,[17],[]⟩,⟨.call 1 [(.t 16)],some 17,none,[],[]⟩,⟨.mv (.t 3),some 18,none,[],[]⟩,⟨.bin .add (.t 17) (.t 18),some 19,none,[],[]⟩,⟨.mv (.t 19),some 3,none,[],[]⟩]
def y7b:Reg:=⟨[],zui,[16,17],[],false⟩
def zuh:List ROp:=[⟨.mv (.t 4),some 20,none,[],[]⟩,⟨.bin .quo (.t 20) (.c (.int .i64 10)),some 21,none,[],[]⟩,⟨.mv (.t 21),some 4,none,[],[]⟩]
def y7a:Reg:=⟨[],zuh,[],[],false⟩
def y79:Reg:=⟨[],[⟨.mv (.t 4),some 22,none,[],[]⟩,⟨.bin .eql (.t 22) (.c (.int .i64 0)),some 23,none,[],[]⟩],[],[],false⟩
def zzb:IR:=(.block 1 (.seq (.reg y7e)
 (.seq (.seq (.reg y7d)
 (.cond (.t 10) (.reg y7c)
 .skip))
 (.seq (.reg y7b)
 (.seq (.reg y7a)
 (.seq (.reg y79)
 (.cond (.t 23) (.exit 0)
 .skip)))))))
def zze:Reg:=⟨[],[⟨.mv (.t 0),some 24,none,[],[]⟩,⟨.bin .lss (.t 24) (.c (.int .i64 0)),some 25,none,[],[]⟩],[],[],false⟩
def zh7:List ROp:=[⟨.mv (.t 3),some 26,none,[],[]⟩,⟨.bin .add (.c (.str ⟨#[45]⟩)) (.t 26),some 27,none,[],[]⟩,⟨.mv (.t 27),some 2,none,[],[]⟩]
def zzd:Reg:=⟨[],zh7,[],[],false⟩
def zzc:Reg:=⟨[],[⟨.mv (.t 3),some 28,none,[],[]⟩,⟨.mv (.t 28),some 2,none,[],[]⟩],[],[],false⟩
def ir_rDec:IR:=(.seq (.reg y7h)
 (.seq (.reg y7g)
 (.seq (.reg y7f)
 (.seq (.block 0 (.loop zzb))
 (.seq (.seq (.reg zze)
 (.cond (.t 25) (.seq (.reg zzd)
 .ret)
 .skip))
 (.seq (.reg zzc)
 .ret))))))
def y6q:List RDesc:=[(.tmp 2)]
theorem e_rDec_0:EqR y7h [⟨.mv (.c (.str ⟨#[]⟩)),some 2,none,[],[]⟩] []:=fun _ _ _=>rfl
theorem e_rDec_1:EqR y7g [⟨.mv (.c (.str ⟨#[]⟩)),some 3,none,[],[]⟩] []:=fun _ _ _=>rfl
theorem e_rDec_2:EqR y7f [⟨.mv (.t 0),some 6,none,[],[]⟩,⟨.mv (.t 6),some 4,none,[],[]⟩] []:=fun _ _ _=>rfl
theorem e_rDec_3:EqR y7e zuk []:=fun _ _ _=>rfl
theorem e_rDec_4:EqR y7d [⟨.mv (.t 5),some 9,none,[],[]⟩,⟨.bin .lss (.t 9) (.c (.int .i64 0)),some 10,none,[],[]⟩] []:=fun _ _ _=>rfl
theorem e_rDec_5:EqR y7c zuj []:=fun _ _ _=>rfl
theorem e_rDec_6:EqR y7b zui [16,17]:=fun _ _ _=>rfl
theorem e_rDec_7:EqR y7a zuh []:=fun _ _ _=>rfl
theorem e_rDec_8:EqR y79 [⟨.mv (.t 4),some 22,none,[],[]⟩,⟨.bin .eql (.t 22) (.c (.int .i64 0)),some 23,none,[],[]⟩] []:=fun _ _ _=>rfl
theorem e_rDec_10:EqR zze [⟨.mv (.t 0),some 24,none,[],[]⟩,⟨.bin .lss (.t 24) (.c (.int .i64 0)),some 25,none,[],[]⟩] []:=fun _ _ _=>rfl
theorem e_rDec_11:EqR zzd zh7 []:=fun _ _ _=>rfl
theorem e_rDec_12:EqR zzc [⟨.mv (.t 3),some 28,none,[],[]⟩,⟨.mv (.t 28),some 2,none,[],[]⟩] []:=fun _ _ _=>rfl
theorem fn_rDec {args:List AV} {r:AV} (ha:args.length.ble Tryd.f12.ntmps = true) (h:run (AFn Tryd.prog) ir_rDec (endQ y6q r) (z0a args)):AFn Tryd.prog 12 args r :=
 AFn.of_code (pv:=false) (hint:=fun _=>[]) (c:=Tryd.f12.body.getD .skip) (by kernel_rfl) (by kernel_rfl) Tryd.func12 (by kernel_rfl) (by kernel_rfl) (by kernel_rfl) (of_decide_eq_true (by kernel_rfl)) (Nat.le_of_ble_eq_true ha) (Nat.le_of_ble_eq_true (by kernel_rfl)) (z0b h)
attribute [local go_sem ↓] ir_dec
attribute [local go_sem] res_dec e_dec_0 e_dec_1 y2q
attribute [local go_sem ↓] ir_rDec
attribute [local go_sem] y6q e_rDec_0 e_rDec_1 e_rDec_2 e_rDec_3 zuk e_rDec_4 e_rDec_5 zuj e_rDec_6 zui e_rDec_7 zuh e_rDec_8 e_rDec_10 e_rDec_11 zh7 e_rDec_12
def decS (n:Int):ByteArray:=⟨(Lib.itoa n).toArray⟩
theorem decS_size (n:Int):(decS n).size = (Lib.itoa n).length:=rfl
def inI (n:Int):Prop:=-9223372036854775808≤n∧n≤9223372036854775807
theorem itoa_ok (n:Int) (h:inI n):AFn Tryd.prog 44 [.int .i64 n] (.str (decS n)) :=
 .flat1 (by kernel_rfl) y8w (fun _ _ _=>.str _) fun w hG=>(Tryd.strconv_Itoa n h.1 h.2 w hG.2).mono fun e w' ⟨he,k,os,hw⟩=>by
  subst hw
  exact ⟨he,Lib.below_grow _ _ (Nat.le_refl _) _ _⟩
theorem y2a (n:Int) (h:inI n):AFn Tryd.prog 22 [.int .i64 n] (.str (decS n)):=by
 refine fn_dec rfl ?_
 simp (maxSteps:=9^7) only [go_sem,↓reduceIte,reduceCtorEq,Nat.reduceEqDiff,Nat.reduceBEq,Nat.reduceAdd,Nat.reduceSub,Nat.reduceMul,Nat.reduceLT,Nat.reduceLeDiff,Nat.reduceBNe,Int.reduceBEq,Int.reduceBNe,Int.reduceLT,Int.reduceLE]
 (first | refine z01 (itoa_ok n h) ?_ | refine z00 (itoa_ok n h) ?_)
 simp (maxSteps:=9^7) only [go_sem,↓reduceIte,reduceCtorEq,Nat.reduceEqDiff,Nat.reduceBEq,Nat.reduceAdd,Nat.reduceSub,Nat.reduceMul,Nat.reduceLT,Nat.reduceLeDiff,Nat.reduceBNe,Int.reduceBEq,Int.reduceBNe,Int.reduceLT,Int.reduceLE]
open Lib (decDigits itoa nDigits)
theorem dd_step (u:Nat) (h:¬ u < 10):decDigits u = decDigits (u / 10) ++ [UInt8.ofNat (48 + u % 10)]:=by
 rw [Lib.decDigits,dif_neg h]
theorem dd_small (u:Nat) (h:u < 10):decDigits u = [UInt8.ofNat (48 + u)]:=Lib.decDigits_one h
def rdInv (n:Int) (k:Nat) (σ:St):Prop :=
 ∃ (m:Int) (s:List UInt8),k = m.natAbs∧inI m∧decDigits n.natAbs = decDigits m.natAbs ++ s∧(n < 0 ↔ n < 0)∧σ.T 0 = .int .i64 n∧σ.T 4 = .int .i64 m∧σ.T 3 = .str (wb s)
theorem u8_dig (d:Nat) (h:d < 10):IntKind.u8.wrap (IntKind.i64.wrap (48 + (d:Int))) = ((UInt8.ofNat (48 + d)).toNat:Int):=by
 rw [IntWalk.i64_in _ (by omega),show (UInt8.ofNat (48 + d)).toNat = (48 + d) % 256 from UInt8.toNat_ofNat' ..]
 simp [IntKind.wrap,IntKind.signed,IntKind.bits]
theorem zl7 (n:Int) (h:inI n):AFn Tryd.prog 12 [.int .i64 n] (.str (decS n)):=by
 refine fn_rDec rfl ?_
 simp (maxSteps:=9^7) only [go_sem,↓reduceIte,reduceCtorEq,Nat.reduceEqDiff,Nat.reduceBEq,Nat.reduceAdd,Nat.reduceSub,Nat.reduceMul,Nat.reduceLT,Nat.reduceLeDiff,Nat.reduceBNe,Int.reduceBEq,Int.reduceBNe,Int.reduceLT,Int.reduceLE]
 refine z08 (rdInv n) (k:=n.natAbs) ⟨n,[],rfl,h,by simp,Iff.rfl,?_,?_,?_⟩ ?_
 iterate 2 focus ((simp (maxSteps:=9^7) only [go_sem,↓reduceIte,reduceCtorEq,Nat.reduceEqDiff,Nat.reduceBEq,Nat.reduceAdd,Nat.reduceSub,Nat.reduceMul,Nat.reduceLT,Nat.reduceLeDiff,Nat.reduceBNe,Int.reduceBEq,Int.reduceBNe,Int.reduceLT,Int.reduceLE]) <;> rfl)
 ·simp (maxSteps:=9^7) only [go_sem,↓reduceIte,reduceCtorEq,Nat.reduceEqDiff,Nat.reduceBEq,Nat.reduceAdd,Nat.reduceSub,Nat.reduceMul,Nat.reduceLT,Nat.reduceLeDiff,Nat.reduceBNe,Int.reduceBEq,Int.reduceBNe,Int.reduceLT,Int.reduceLE]
  rfl
 rintro k σ ⟨m,s,rfl,hm,hds,-,t0,t4,t3⟩
 simp only [zzb]
 obtain ⟨hm0,hm1⟩:=hm
 have hlen:s.length≤21:=by
  have h1:=congrArg List.length hds
  have h2:=Lib.itoa_length_le n h.1 h.2
  have h3:(decDigits n.natAbs).length≤(itoa n).length:=by
   unfold Lib.itoa
   split
   ·simp
   ·rename_i hn
    rw [show n.natAbs = n.toNat by omega]; exact Nat.le_refl _
  rw [List.length_append] at h1
  omega
 have hd:m.natAbs % 10 < 10:=Nat.mod_lt _ (by decide)
 have hqa:(m.tdiv 10).natAbs = m.natAbs / 10:=by
  rw [Int.natAbs_tdiv]; rfl
 have hta:(m.tmod 10).natAbs = m.natAbs % 10:=by
  rw [Int.natAbs_tmod]; rfl
 have hq:IntKind.i64.wrap (m.tdiv 10) = m.tdiv 10:=IntWalk.i64_in _ (by omega)
 have h45:#[(45:UInt8)].size = 1:=rfl
 have hu:=u8_dig (m.natAbs % 10) hd
 obtain ⟨c,hc⟩:∃ c,UInt8.ofNat (48 + m.natAbs % 10) = c:=⟨_,rfl⟩
 rw [hc] at hu
 have hcat:∀ x:ByteArray,x = ⟨#[c]⟩->x ++ wb s = wb (c :: s):=fun x hx=>by
  subst hx
  apply z4a
  rw [ByteArray.data_append,Array.toList_append]; rfl
 have hcs:=hcat _ rfl
 have hwc:(wb (c :: s)).size = s.length + 1:=rfl
 have hws:(wb s).size = s.length:=rfl
 have s1:#[c].size = 1:=rfl
 have hsplit:m.natAbs < 10->decDigits n.natAbs = c :: s:=fun hlt=>by
  rw [hds,dd_small _ hlt,← hc,Nat.mod_eq_of_lt hlt]; rfl
 have hsplit2:¬ m.natAbs < 10->decDigits n.natAbs = decDigits (m.tdiv 10).natAbs ++ (c :: s):=fun hge=>by
  rw [hds,dd_step _ hge,hqa,hc,List.append_assoc]; rfl
 have hfin:decDigits n.natAbs = c :: s->decS n = if n < 0 then (⟨#[45]⟩:ByteArray) ++ wb (c :: s) else wb (c :: s):=fun e=>by
  apply z4a
  unfold decS Lib.itoa
  by_cases hn:n < 0
  ·rw [if_pos hn,if_pos hn,ByteArray.data_append,Array.toList_append,e]; rfl
  ·rw [if_neg hn,if_neg hn,show n.toNat = n.natAbs by omega,e]; rfl
 by_cases hneg:m.tmod 10 < 0
 ·have hw:IntKind.i64.wrap (0 - m.tmod 10) = ((m.natAbs % 10:Nat):Int):=by
   rw [IntWalk.i64_in _ (by omega)]; omega
  by_cases hz:m.tdiv 10 = 0
  ·have hz':(m.tdiv 10 == 0) = true:=by rw [hz]; rfl
   have e:=hfin (hsplit (by omega))
   rw [e]
   by_cases hn:n < 0
   ·rw [if_pos hn]
    simp (maxSteps:=9^7) only [go_sem,↓reduceIte,reduceCtorEq,Nat.reduceEqDiff,Nat.reduceBEq,Nat.reduceAdd,Nat.reduceSub,Nat.reduceMul,Nat.reduceLT,Nat.reduceLeDiff,Nat.reduceBNe,Int.reduceBEq,Int.reduceBNe,Int.reduceLT,Int.reduceLE,t0,t4,t3,hneg,hw,hu,hq,hz',hcs,hn,znf,z6v]
    omega
   ·rw [if_neg hn]
    simp (maxSteps:=9^7) only [go_sem,↓reduceIte,reduceCtorEq,Nat.reduceEqDiff,Nat.reduceBEq,Nat.reduceAdd,Nat.reduceSub,Nat.reduceMul,Nat.reduceLT,Nat.reduceLeDiff,Nat.reduceBNe,Int.reduceBEq,Int.reduceBNe,Int.reduceLT,Int.reduceLE,t0,t4,t3,hneg,hw,hu,hq,hz',hcs,hn,znf,z6v]
    omega
  ·have hz':(m.tdiv 10 == 0) = false:=by rw [beq_eq_false_iff_ne]; exact hz
   have e:=hsplit2 (by omega)
   simp (maxSteps:=9^7) only [go_sem,↓reduceIte,reduceCtorEq,Nat.reduceEqDiff,Nat.reduceBEq,Nat.reduceAdd,Nat.reduceSub,Nat.reduceMul,Nat.reduceLT,Nat.reduceLeDiff,Nat.reduceBNe,Int.reduceBEq,Int.reduceBNe,Int.reduceLT,Int.reduceLE,t0,t4,t3,hneg,hw,hu,hq,hz',hcs,znf,z6v]
   refine ⟨by omega,by omega,by omega,(m.tdiv 10).natAbs,by omega,m.tdiv 10,c :: s,rfl,⟨by omega,by omega⟩,e,Iff.rfl,?_,?_,?_⟩ <;> (simp (maxSteps:=9^7) only [go_sem,↓reduceIte,reduceCtorEq,Nat.reduceEqDiff,Nat.reduceBEq,Nat.reduceAdd,Nat.reduceSub,Nat.reduceMul,Nat.reduceLT,Nat.reduceLeDiff,Nat.reduceBNe,Int.reduceBEq,Int.reduceBNe,Int.reduceLT,Int.reduceLE,t0,t4,t3,hcs])
 ·have hw:m.tmod 10 = ((m.natAbs % 10:Nat):Int):=by omega
  rw [hw] at hneg
  by_cases hz:m.tdiv 10 = 0
  ·have hz':(m.tdiv 10 == 0) = true:=by rw [hz]; rfl
   have e:=hfin (hsplit (by omega))
   rw [e]
   by_cases hn:n < 0
   ·rw [if_pos hn]
    simp (maxSteps:=9^7) only [go_sem,↓reduceIte,reduceCtorEq,Nat.reduceEqDiff,Nat.reduceBEq,Nat.reduceAdd,Nat.reduceSub,Nat.reduceMul,Nat.reduceLT,Nat.reduceLeDiff,Nat.reduceBNe,Int.reduceBEq,Int.reduceBNe,Int.reduceLT,Int.reduceLE,t0,t4,t3,hneg,hw,hu,hq,hz',hcs,hn,znf,z6v]
    omega
   ·rw [if_neg hn]
    simp (maxSteps:=9^7) only [go_sem,↓reduceIte,reduceCtorEq,Nat.reduceEqDiff,Nat.reduceBEq,Nat.reduceAdd,Nat.reduceSub,Nat.reduceMul,Nat.reduceLT,Nat.reduceLeDiff,Nat.reduceBNe,Int.reduceBEq,Int.reduceBNe,Int.reduceLT,Int.reduceLE,t0,t4,t3,hneg,hw,hu,hq,hz',hcs,hn,znf,z6v]
    omega
  ·have hz':(m.tdiv 10 == 0) = false:=by rw [beq_eq_false_iff_ne]; exact hz
   have e:=hsplit2 (by omega)
   simp (maxSteps:=9^7) only [go_sem,↓reduceIte,reduceCtorEq,Nat.reduceEqDiff,Nat.reduceBEq,Nat.reduceAdd,Nat.reduceSub,Nat.reduceMul,Nat.reduceLT,Nat.reduceLeDiff,Nat.reduceBNe,Int.reduceBEq,Int.reduceBNe,Int.reduceLT,Int.reduceLE,t0,t4,t3,hneg,hw,hu,hq,hz',hcs,znf,z6v]
   refine ⟨by omega,by omega,by omega,(m.tdiv 10).natAbs,by omega,m.tdiv 10,c :: s,rfl,⟨by omega,by omega⟩,e,Iff.rfl,?_,?_,?_⟩ <;> (simp (maxSteps:=9^7) only [go_sem,↓reduceIte,reduceCtorEq,Nat.reduceEqDiff,Nat.reduceBEq,Nat.reduceAdd,Nat.reduceSub,Nat.reduceMul,Nat.reduceLT,Nat.reduceLeDiff,Nat.reduceBNe,Int.reduceBEq,Int.reduceBNe,Int.reduceLT,Int.reduceLE,t0,t4,t3,hcs])
end
section
open Go.RowKit
theorem z6w (a b c:ByteArray):a ++ b ++ c = a ++ (b ++ c):=by
 apply z4a
 simp only [ByteArray.data_append,Array.toList_append,List.append_assoc]
def z8u (l:List ByteArray) (sep:ByteArray):ByteArray:=⟨(Lib.join (l.map (·.data.toList)) sep.data.toList).toArray⟩
theorem join_ok (l:List ByteArray) (sep:ByteArray) (hl:l.length≤140737488355328) (hj:(Lib.join (l.map (·.data.toList)) sep.data.toList).length≤140737488355328):AFn Tryd.prog 25 [.sl (l.map .str),.str sep] (.str (z8u l sep)):=by
 refine ⟨by kernel_rfl,fun w Pr vs hG hPr hlen hvs=>?_⟩
 obtain ⟨a,b,rfl⟩:∃ a b,vs = [a,b]:=by
  match vs,hlen with
  | [a,b],_=>exact ⟨a,b,rfl⟩
 have h1:=hvs 0 _ a rfl rfl
 have h2:=hvs 1 _ b rfl rfl
 obtain rfl:=h2.str_of
 have fin:∀ {v:Value},(Calls Tryd.prog 25 #[v,.string sep] w fun e w'=>e = .returned (.string (z8u l sep))∧Below w.heap.size w w')->Calls Tryd.prog 25 [v,.string sep].toArray w fun e w'=>∃ u,e = .returned u∧Below w.heap.size w w'∧RR (fun b o=>Pr b o∨w.heap.size≤b) w.heap.size w' (.str (z8u l sep)) u:=fun hc =>
  hc.mono fun e w' ⟨he,hb⟩=>⟨_,he,hb,.str _⟩
 generalize hq:l.map AV.str = q at h1
 cases h1 with
 | sl _ A cap z u hcap hmax hA h =>
  subst hq
  rw [List.length_map] at hcap hA ⊢
  refine fin ?_
  by_cases h0:l.length = 0
  ·have e0:l = []:=List.length_eq_zero_iff.1 h0
   subst e0
   refine (Tryd.strings_Join_none A cap sep w).mono fun e w' ⟨he,hw⟩=>⟨?_,by rw [hw]; exact Below.refl _ _⟩
   rw [he]; rfl
  ·obtain ⟨b,off,rfl,hlies⟩:=hA (by omega)
   have hz:z = 1:=by
    obtain ⟨x,hx⟩:∃ x,l[0]? = some x:=⟨_,List.getElem?_eq_getElem (by omega)⟩
    exact (hlies.len (.str x) (List.mem_map.2 ⟨x,List.mem_of_getElem? hx,rfl⟩)).symm
   subst hz
   refine (Tryd.strings_Join b off cap l sep w (fun j x hx=>?_) hlies.lt hl hcap hj).mono fun e w' ⟨he,hb⟩=>⟨he,hb⟩
   have hjl:=(List.getElem?_eq_some_iff.1 hx).1
   have:=(hlies.at_ j 0 (by rw [List.length_map]; exact hjl) (by omega)).2
   rw [Nat.mul_one,Nat.add_zero] at this
   rw [this]
   have hv:=h j (.str x) 0 (.str x) (by rw [List.getElem?_map,hx]; rfl) rfl
   rw [hv.str_of]
theorem join_len (sep:List UInt8):∀ l:List (List UInt8),(Lib.join l sep).length≤(l.map fun x=>x.length + sep.length).sum
 | []=>by simp [Lib.join_nil]
 | x :: r=>by
  rw [Lib.join_cons]
  have:∀ r:List (List UInt8),(Lib.joinTail sep r).length = (r.map fun x=>x.length + sep.length).sum:=by
   intro r
   induction r with
   | nil=>rfl
   | cons y r ih =>
    show ((sep ++ y) ++ Lib.joinTail sep r).length = _
    rw [List.length_append,ih,List.length_append,List.map_cons,List.sum_cons]; omega
  rw [List.length_append,this,List.map_cons,List.sum_cons]; omega
theorem z0k (s:ByteArray):(z1e s).size≤3 * s.size + 1:=by
 have h:=congrArg List.length (y39 s)
 have hL:s.data.toList.length = s.size:=by rw [Array.length_toList]; rfl
 have e:(z1e s).data.toList.length = (z1e s).size:=by rw [Array.length_toList]; rfl
 have:=z6q s.data.toList
 rw [e] at h
 rw [h]
 split
 ·simp
 ·omega
theorem joinB1 (a s:ByteArray):z8u [a] s = a:=by
 apply z4a
 show Lib.join _ _ = _
 rw [List.map_cons,Lib.join_cons]; simp [Lib.joinTail]
theorem join_app (sep:List UInt8):∀ (l:List (List UInt8)) (x:List UInt8),l ≠ []->Lib.join (l ++ [x]) sep = Lib.join l sep ++ (sep ++ x)
 | [],_,h=>absurd rfl h
 | y :: r,x,_=>by
  rw [List.cons_append,Lib.join_cons,Lib.join_cons]
  have:∀ r:List (List UInt8),Lib.joinTail sep (r ++ [x]) = Lib.joinTail sep r ++ (sep ++ x):=by
   intro r; unfold Lib.joinTail; simp
  rw [this,List.append_assoc]
theorem y0z (l:List ByteArray) (x s:ByteArray) (h:l ≠ []):z8u (l ++ [x]) s = z8u l s ++ (s ++ x):=by
 apply z4a
 show Lib.join ((l ++ [x]).map (·.data.toList)) _ = (_ ++ (_ ++ _):ByteArray).data.toList
 rw [List.map_append,List.map_cons,List.map_nil,join_app _ _ _ (by simpa using h)]
 simp [z8u]
theorem zlz (sep:ByteArray) (n:Nat) (l:List ByteArray) (h:∀ x,x ∈ l->x.size + sep.size≤n):(Lib.join (l.map (·.data.toList)) sep.data.toList).length≤l.length * n:=by
 refine Nat.le_trans (join_len _ _) ?_
 induction l with
 | nil=>simp
 | cons y r ih =>
  have a:=ih (fun x hx=>h x (List.mem_cons_of_mem _ hx))
  have b:=h y (List.mem_cons_self ..)
  have c:y.data.toList.length = y.size:=by rw [Array.length_toList]; rfl
  have d:sep.data.toList.length = sep.size:=by rw [Array.length_toList]; rfl
  simp only [List.map_cons,List.sum_cons,List.length_cons]
  rw [c,d,Nat.add_mul,Nat.one_mul]
  rw [d] at a
  omega
theorem ztg (sep:ByteArray) (n:Nat) (l:List ByteArray) (h:∀ x,x ∈ l->x.size + sep.size≤n):(z8u l sep).size≤l.length * n:=zlz sep n l h
end
section
open Go.RowKit
def padF:Nat->ByteArray
 | 0=>⟨#[]⟩
 | n + 1=>padF n ++ ⟨#[32,32]⟩
theorem z9k:∀ n,(padF n).size = 2 * n
 | 0=>rfl
 | n + 1=>by
  rw [padF,ByteArray.size_append,z9k n]
  show 2 * n + 2 = _
  omega
theorem y83:∀ n,(padF n).data.toList = List.replicate (2 * n) 32
 | 0=>rfl
 | n + 1=>by
  rw [padF,ByteArray.data_append,Array.toList_append,y83 n,show 2 * (n + 1) = 2 * n + 2 by omega,← List.replicate_append_replicate]; rfl
theorem rep_pad:∀ n,Lib.repeatL [32,32] n = List.replicate (2 * n) 32
 | 0=>rfl
 | n + 1=>by
  rw [Lib.repeatL,rep_pad n,show 2 * (n + 1) = 2 + 2 * n by omega,← List.replicate_append_replicate]; rfl
theorem pad_of_rep (n:Nat):(⟨(Lib.repeatL (⟨#[32,32]⟩:ByteArray).data.toList n).toArray⟩:ByteArray) = padF n:=by
 apply z4a
 rw [y83]
 exact rep_pad n
def z2c (d:Int):Nat:=(min (max d 0) 100).toNat
theorem zfl (d:Int):z2c d≤100:=by unfold z2c; omega
def z5i (s:Spn):ByteArray:=if s.op then z1e s.lo ++ (⟨#[46,46,42]⟩:ByteArray) else z1e s.lo ++ (⟨#[46,46]⟩:ByteArray) ++ z1e s.hi
def z6a (n:Nd) (d:Int):ByteArray:=padF (z2c d) ++ decS n.slot
def zi4 (l:List Par):List ByteArray:=l.map fun p=>z1e p.key
def z8s (n:Nd) (s:Spn) (d:Int):List ByteArray :=
 if n.level = 0 then [z6a n d,z5i s,(⟨#[114,111,119,115]⟩:ByteArray),decS n.rows.length] ++ zi4 n.rows
 else [z6a n d,z5i s,(⟨#[107,105,100,115]⟩:ByteArray),decS n.kids.length,(⟨#[109,115,103,115]⟩:ByteArray),decS n.msgs.length]
def Nd.shp (n:Nd) (s:Spn) (d:Int):ByteArray:=z8u (z8s n s d) (⟨#[32]⟩:ByteArray)
theorem z13 (n:Int) (h0:-9223372036854775808≤n) (h1:n≤9223372036854775807):(decS n).size≤30:=by
 have:=Lib.itoa_length_le n (by omega) (by omega)
 rw [decS_size]; omega
theorem ztw (s:Spn) (h1:s.lo.size≤2000) (h2:s.hi.size≤2000):(z5i s).size≤12010:=by
 have q1:=z0k s.lo
 have q2:=z0k s.hi
 have e1:(⟨#[46,46,42]⟩:ByteArray).size = 3:=rfl
 have e2:(⟨#[46,46]⟩:ByteArray).size = 2:=rfl
 unfold z5i
 split <;> simp only [ByteArray.size_append,e1,e2] <;> omega
structure Nd.Thin (n:Nd):Prop where
 slot:-9223372036854775808≤n.slot∧n.slot≤9223372036854775807
 nkid:n.kids.length≤2000
 nrow:n.rows.length≤2000
 rws:∀ p,p ∈ n.rows->p.key.size≤2000
 nmsg:n.msgs.length≤2000
theorem ztq (n:Nd) (d:Int) (h:n.Thin):(z6a n d).size≤230:=by
 have a:=z9k (z2c d)
 have b:=zfl d
 have c:=z13 n.slot h.slot.1 h.slot.2
 unfold z6a
 rw [ByteArray.size_append]; omega
theorem y8c (n:Nd) (s:Spn) (d:Int) (h:n.Thin) (h1:s.lo.size≤2000) (h2:s.hi.size≤2000):(z8s n s d).length≤2004 + 2∧∀ x,x ∈ z8s n s d->x.size≤12010:=by
 have a:=ztq n d h
 have b:=ztw s h1 h2
 have c1:=h.nrow
 have c2:=h.nkid
 have c3:=h.nmsg
 have d1:=z13 n.rows.length (by omega) (by omega)
 have d2:=z13 n.kids.length (by omega) (by omega)
 have d3:=z13 n.msgs.length (by omega) (by omega)
 have e1:(⟨#[114,111,119,115]⟩:ByteArray).size = 4:=rfl
 have e2:(⟨#[107,105,100,115]⟩:ByteArray).size = 4:=rfl
 have e3:(⟨#[109,115,103,115]⟩:ByteArray).size = 4:=rfl
 unfold z8s
 by_cases h0:n.level = 0
 ·rw [if_pos h0]
  constructor
  ·unfold zi4
   simp only [List.length_append,List.length_cons,List.length_nil,List.length_map]; omega
  ·intro x hx
   rcases List.mem_append.1 hx with hx | hx
   ·simp only [List.mem_cons,List.not_mem_nil,or_false] at hx
    rcases hx with rfl | rfl | rfl | rfl <;> omega
   ·obtain ⟨p,hp,rfl⟩:=List.mem_map.1 hx
    have:=z0k p.key
    have:=h.rws p hp
    omega
 ·rw [if_neg h0]
  constructor
  ·simp only [List.length_cons,List.length_nil]; omega
  ·intro x hx
   simp only [List.mem_cons,List.not_mem_nil,or_false] at hx
   rcases hx with rfl | rfl | rfl | rfl | rfl | rfl <;> omega
theorem shp_kids (n:Nd) (s:Spn) (d:Int) (h0:¬ n.level = 0):n.shp s d = z6a n d ++ (⟨#[32]⟩:ByteArray) ++ z5i s ++ (⟨#[32,107,105,100,115,32]⟩:ByteArray) ++ decS n.kids.length ++ (⟨#[32,109,115,103,115,32]⟩:ByteArray) ++ decS n.msgs.length:=by
 unfold Nd.shp z8s
 rw [if_neg h0]
 apply z4a
 show Lib.join _ _ = _
 simp only [List.map_cons,List.map_nil,Lib.join_cons,Lib.joinTail,ByteArray.data_append,Array.toList_append,List.flatten_cons,List.flatten_nil,List.append_assoc,List.append_nil]
 rfl
def shpR (n:Nd) (s:Spn) (d:Int) (j:Nat):ByteArray:=z8u ([z6a n d,z5i s,(⟨#[114,111,119,115]⟩:ByteArray),decS n.rows.length] ++ zi4 (n.rows.take j)) (⟨#[32]⟩:ByteArray)
theorem shpR_zero (n:Nd) (s:Spn) (d:Int):shpR n s d 0 = z6a n d ++ (⟨#[32]⟩:ByteArray) ++ z5i s ++ (⟨#[32,114,111,119,115,32]⟩:ByteArray) ++ decS n.rows.length:=by
 unfold shpR
 apply z4a
 show Lib.join _ _ = _
 simp only [List.take_zero,zi4,List.map_nil,List.append_nil,List.map_cons,Lib.join_cons,Lib.joinTail,ByteArray.data_append,Array.toList_append,List.flatten_cons,List.flatten_nil,List.append_assoc]
 rfl
theorem z9d (n:Nd) (s:Spn) (d:Int) {j:Nat} {x:Par} (h:n.rows[j]? = some x):shpR n s d (j + 1) = shpR n s d j ++ (⟨#[32]⟩:ByteArray) ++ z1e x.key:=by
 unfold shpR zi4
 rw [za3 h,List.map_append,List.map_cons,List.map_nil,← List.append_assoc,y0z _ _ _ (by simp),z6w]
theorem shpR_all (n:Nd) (s:Spn) (d:Int) (h0:n.level = 0):shpR n s d n.rows.length = n.shp s d:=by
 unfold shpR Nd.shp z8s
 rw [if_pos h0,List.take_length]
theorem z9c (n:Nd) (s:Spn) (d:Int) (j:Nat) (h:n.Thin) (h0:n.level = 0) (h1:s.lo.size≤2000) (h2:s.hi.size≤2000):(shpR n s d j).size≤2006 * 12011:=by
 have a:=y8c n s d h h1 h2
 have e:(⟨#[32]⟩:ByteArray).size = 1:=rfl
 have hs:∀ x,x ∈ ([z6a n d,z5i s,(⟨#[114,111,119,115]⟩:ByteArray),decS n.rows.length] ++ zi4 (n.rows.take j))->x ∈ z8s n s d:=by
  intro x hx
  unfold z8s
  rw [if_pos h0]
  rcases List.mem_append.1 hx with hx | hx
  ·exact List.mem_append_left _ hx
  ·refine List.mem_append_right _ ?_
   obtain ⟨p,hp,rfl⟩:=List.mem_map.1 hx
   exact List.mem_map.2 ⟨p,List.mem_of_mem_take hp,rfl⟩
 have hl:([z6a n d,z5i s,(⟨#[114,111,119,115]⟩:ByteArray),decS n.rows.length] ++ zi4 (n.rows.take j)).length≤2006:=by
  have:=h.nrow
  unfold zi4
  simp only [List.length_append,List.length_cons,List.length_nil,List.length_map,List.length_take]; omega
 have b:=ztg (⟨#[32]⟩:ByteArray) 12011 _ (fun x hx=>by
  have:=a.2 x (hs x hx)
  rw [e]; omega)
 have:=Nat.mul_le_mul_right 12011 hl
 unfold shpR
 omega
end
section
open Go.RowKit
attribute [local go_sem ↓] z1m z0h
def zay:List ROp:=[⟨.box 10 27 (.t 0),some 3,none,[4],[]⟩,⟨.box 3 29 (.t 1),some 4,none,[],[]⟩,⟨.mv (.c (.str ⟨#[]⟩)),some 6,none,[],[]⟩]
def zph:Reg:=⟨[],zay,[3,4],[],false⟩
def zdf:List ROp:=[⟨.mv (.t 2),some 10,none,[13,16,19,20],[]⟩,⟨.mx true (.t 10) (.c (.int .i64 0)),some 11,none,[13,16,19,20],[]⟩,⟨.mx false (.t 11) (.c (.int .i64 100)),some 12,none,[13,16,19,20],[]⟩,⟨.callv (.c (.clo 21 [] [])) [(.c (.str ⟨#[32,32]⟩)),(.t 12)],some 13,none,[16,19,20],[]⟩,⟨.faddr 0 (.t 3),some 14,none,[13,16,19,20],[]⟩,⟨.load 1 false (.t 14),some 15,none,[13,16,19,20],[]⟩,⟨.callv (.c (.clo 22 [] [])) [(.t 15)],some 16,none,[19,20],[]⟩,⟨.bin .add (.t 13) (.t 16),some 17,none,[19,20],[]⟩,⟨.load 3 true (.t 4),some 18,none,[13,16,19,20],[]⟩,⟨.callv (.c (.clo 23 [] [])) [(.t 18)],some 19,none,[20],[]⟩]
def zpg:Reg:=⟨zdf,[⟨.bsl 1 9 [(.t 17),(.t 19)],some 20,none,[],[]⟩,⟨.mv (.t 20),some 7,none,[],[]⟩],[13,16,19,20],[],true⟩
def zax:List ROp:=[⟨.faddr 1 (.t 3),some 21,none,[],[]⟩,⟨.load 1 false (.t 21),some 22,none,[],[]⟩,⟨.bin .eql (.t 22) (.c (.int .i64 0)),some 23,none,[],[]⟩]
def zpf:Reg:=⟨[],zax,[],[],false⟩
def zaw:List ROp:=[⟨.mv (.t 7),some 24,none,[28,29],[]⟩,⟨.faddr 9 (.t 3),some 25,none,[28,29],[]⟩,⟨.load 1 false (.t 25),some 26,none,[28,29],[]⟩,⟨.len false (.t 26),some 27,none,[28,29],[]⟩,⟨.callv (.c (.clo 22 [] [])) [(.t 27)],some 28,none,[29],[]⟩,⟨.bsl 1 9 [(.c (.str ⟨#[114,111,119,115]⟩)),(.t 28)],some 29,none,[],[]⟩,⟨.append 1 9 16 (.t 24) (.t 29),some 30,none,[],[]⟩,⟨.mv (.t 30),some 7,none,[],[]⟩]
def zpe:Reg:=⟨[],zaw,[28,29],[],false⟩
def zav:List ROp:=[⟨.faddr 9 (.t 3),some 31,none,[],[]⟩,⟨.load 1 false (.t 31),some 32,none,[],[]⟩,⟨.len false (.t 32),some 33,none,[],[]⟩,⟨.mv (.c (.int .i64 0)),some 34,none,[],[]⟩]
def zpd:Reg:=⟨[],zav,[],[],false⟩
def zpc:Reg:=⟨[],[⟨.bin .lss (.t 34) (.t 33),some 35,none,[],[]⟩],[],[],false⟩
def zau:List ROp:=[⟨.iaddr 2 (.t 32) (.t 34),some 36,none,[9],[]⟩,⟨.load 2 true (.t 36),some 37,none,[9],[]⟩,⟨.alloc 2 54 (.agg [(.str ⟨#[]⟩),(.str ⟨#[]⟩)]),some 9,none,[],[]⟩,⟨.store 2 (.t 9) (.t 37),none,none,[],[]⟩]
def zpb:Reg:=⟨[],zau,[9],[],false⟩
def zat:List ROp:=[⟨.mv (.t 7),some 38,none,[41,42],[]⟩,⟨.faddr 0 (.t 9),some 39,none,[41,42],[]⟩,⟨.load 1 false (.t 39),some 40,none,[41,42],[]⟩,⟨.callv (.c (.clo 24 [] [])) [(.t 40)],some 41,none,[42],[]⟩,⟨.bsl 1 9 [(.t 41)],some 42,none,[],[]⟩,⟨.append 1 9 16 (.t 38) (.t 42),some 43,none,[],[]⟩,⟨.mv (.t 43),some 7,none,[],[]⟩]
def zpa:Reg:=⟨[],zat,[41,42],[],false⟩
def zp9:Reg:=⟨[],[⟨.bin .add (.t 34) (.c (.int .i64 1)),some 44,none,[],[]⟩,⟨.mv (.t 44),some 34,none,[],[]⟩],[],[],false⟩
def zit:IR:=(.seq (.reg zpc)
 (.seq (.cond (.t 35) .skip
 (.exit 0))
 (.seq (.block 1 (.seq (.reg zpb)
 (.reg zpa)))
 (.reg zp9))))
def z7j:List ROp:=[⟨.mv (.t 7),some 45,none,[46],[]⟩,⟨.callv (.c (.clo 25 [] [])) [(.t 45),(.c (.str ⟨#[32]⟩))],some 46,none,[],[]⟩,⟨.mv (.t 46),some 6,none,[],[]⟩]
def ziv:Reg:=⟨[],z7j,[46],[],false⟩
def z7i:List ROp:=[⟨.append 1 9 16 (.t 47) (.t 56),some 57,none,[58],[]⟩,⟨.callv (.c (.clo 25 [] [])) [(.t 57),(.c (.str ⟨#[32]⟩))],some 58,none,[],[]⟩,⟨.mv (.t 58),some 6,none,[],[]⟩]
def z8x:List ROp:=[⟨.mv (.t 7),some 47,none,[51,55,56,58],[]⟩,⟨.faddr 3 (.t 3),some 48,none,[51,55,56,58],[]⟩,⟨.load 1 false (.t 48),some 49,none,[51,55,56,58],[]⟩,⟨.len false (.t 49),some 50,none,[51,55,56,58],[]⟩,⟨.callv (.c (.clo 22 [] [])) [(.t 50)],some 51,none,[55,56,58],[]⟩,⟨.faddr 8 (.t 3),some 52,none,[51,55,56,58],[]⟩,⟨.load 1 false (.t 52),some 53,none,[51,55,56,58],[]⟩,⟨.len false (.t 53),some 54,none,[51,55,56,58],[]⟩,⟨.callv (.c (.clo 22 [] [])) [(.t 54)],some 55,none,[56,58],[]⟩,⟨.bsl 1 9 [(.c (.str ⟨#[107,105,100,115]⟩)),(.t 51),(.c (.str ⟨#[109,115,103,115]⟩)),(.t 55)],some 56,none,[58],[]⟩]
def ziu:Reg:=⟨z8x,z7i,[51,55,56,58],[],true⟩
def y16:IR:=(.seq (.reg zph)
 (.seq (.reg zpg)
 (.seq (.seq (.reg zpf)
 (.cond (.t 23) (.seq (.reg zpe)
 (.seq (.seq (.reg zpd)
 (.block 0 (.loop zit)))
 (.seq (.reg ziv)
 .ret)))
 .skip))
 (.seq (.reg ziu)
 .ret))))
def znr:List RDesc:=[(.tmp 6)]
theorem e_shLine_0:EqR zph zay [3,4]:=fun _ _ _=>rfl
theorem e_shLine_1 (C:FuncId->List AV->AV->Prop) (σ:St) (K:St->Prop):z0m C zpg σ K = z07 C [] [⟨.bsl 1 9 [(.t 17),(.t 19)],some 20,none,[],[]⟩,⟨.mv (.t 20),some 7,none,[],[]⟩] zdf (σ.kills [13,16,19,20]) K:=rfl
theorem e_shLine_2:EqR zpf zax []:=fun _ _ _=>rfl
theorem e_shLine_3:EqR zpe zaw [28,29]:=fun _ _ _=>rfl
theorem e_shLine_4:EqR zpd zav []:=fun _ _ _=>rfl
theorem e_shLine_5:EqR zpc [⟨.bin .lss (.t 34) (.t 33),some 35,none,[],[]⟩] []:=fun _ _ _=>rfl
theorem e_shLine_6:EqR zpb zau [9]:=fun _ _ _=>rfl
theorem e_shLine_7:EqR zpa zat [41,42]:=fun _ _ _=>rfl
theorem e_shLine_8:EqR zp9 [⟨.bin .add (.t 34) (.c (.int .i64 1)),some 44,none,[],[]⟩,⟨.mv (.t 44),some 34,none,[],[]⟩] []:=fun _ _ _=>rfl
theorem y4b:EqR ziv z7j [46]:=fun _ _ _=>rfl
theorem y4a (C:FuncId->List AV->AV->Prop) (σ:St) (K:St->Prop):z0m C ziu σ K = z07 C [] z7i z8x (σ.kills [51,55,56,58]) K:=rfl
theorem fn_shLine {args:List AV} {r:AV} (ha:args.length.ble Tryd.f8.ntmps = true) (h:run (AFn Tryd.prog) y16 (endQ znr r) (z0a args)):AFn Tryd.prog 8 args r :=
 AFn.of_code (pv:=false) (hint:=fun _=>[]) (c:=Tryd.f8.body.getD .skip) (by kernel_rfl) (by kernel_rfl) Tryd.func8 (by kernel_rfl) (by kernel_rfl) (by kernel_rfl) (of_decide_eq_true (by kernel_rfl)) (Nat.le_of_ble_eq_true ha) (Nat.le_of_ble_eq_true (by kernel_rfl)) (z0b h)
def zpl:Reg:=⟨[],[⟨.box 3 29 (.t 0),some 1,none,[],[]⟩,⟨.mv (.c (.str ⟨#[]⟩)),some 2,none,[],[]⟩],[1],[],false⟩
def zpk:Reg:=⟨[],[⟨.faddr 2 (.t 1),some 3,none,[],[]⟩,⟨.load 1 false (.t 3),some 4,none,[],[]⟩],[],[],false⟩
def zaz:List ROp:=[⟨.faddr 0 (.t 1),some 5,none,[7],[]⟩,⟨.load 1 false (.t 5),some 6,none,[7],[]⟩,⟨.callv (.c (.clo 24 [] [])) [(.t 6)],some 7,none,[],[]⟩,⟨.bin .add (.t 7) (.c (.str ⟨#[46,46,42]⟩)),some 8,none,[],[]⟩,⟨.mv (.t 8),some 2,none,[],[]⟩]
def zpj:Reg:=⟨[],zaz,[7],[],false⟩
def zdg:List ROp:=[⟨.faddr 0 (.t 1),some 9,none,[11,15],[]⟩,⟨.load 1 false (.t 9),some 10,none,[11,15],[]⟩,⟨.callv (.c (.clo 24 [] [])) [(.t 10)],some 11,none,[15],[]⟩,⟨.bin .add (.t 11) (.c (.str ⟨#[46,46]⟩)),some 12,none,[15],[]⟩,⟨.faddr 1 (.t 1),some 13,none,[11,15],[]⟩,⟨.load 1 false (.t 13),some 14,none,[11,15],[]⟩,⟨.callv (.c (.clo 24 [] [])) [(.t 14)],some 15,none,[],[]⟩]
def zpi:Reg:=⟨zdg,[⟨.bin .add (.t 12) (.t 15),some 16,none,[],[]⟩,⟨.mv (.t 16),some 2,none,[],[]⟩],[11,15],[],true⟩
def y17:IR:=(.seq (.reg zpl)
 (.seq (.seq (.reg zpk)
 (.cond (.t 4) (.seq (.reg zpj)
 .ret)
 .skip))
 (.seq (.reg zpi)
 .ret)))
def zns:List RDesc:=[(.tmp 2)]
theorem e_shEnds_0:EqR zpl [⟨.box 3 29 (.t 0),some 1,none,[],[]⟩,⟨.mv (.c (.str ⟨#[]⟩)),some 2,none,[],[]⟩] [1]:=fun _ _ _=>rfl
theorem e_shEnds_1:EqR zpk [⟨.faddr 2 (.t 1),some 3,none,[],[]⟩,⟨.load 1 false (.t 3),some 4,none,[],[]⟩] []:=fun _ _ _=>rfl
theorem e_shEnds_2:EqR zpj zaz [7]:=fun _ _ _=>rfl
theorem e_shEnds_3 (C:FuncId->List AV->AV->Prop) (σ:St) (K:St->Prop):z0m C zpi σ K = z07 C [] [⟨.bin .add (.t 12) (.t 15),some 16,none,[],[]⟩,⟨.mv (.t 16),some 2,none,[],[]⟩] zdg (σ.kills [11,15]) K:=rfl
theorem fn_shEnds {args:List AV} {r:AV} (ha:args.length.ble Tryd.f23.ntmps = true) (h:run (AFn Tryd.prog) y17 (endQ zns r) (z0a args)):AFn Tryd.prog 23 args r :=
 AFn.of_code (pv:=false) (hint:=fun _=>[]) (c:=Tryd.f23.body.getD .skip) (by kernel_rfl) (by kernel_rfl) Tryd.func23 (by kernel_rfl) (by kernel_rfl) (by kernel_rfl) (of_decide_eq_true (by kernel_rfl)) (Nat.le_of_ble_eq_true ha) (Nat.le_of_ble_eq_true (by kernel_rfl)) (z0b h)
attribute [local go_sem ↓] y16
attribute [local go_sem] znr e_shLine_0 zay e_shLine_1 zdf e_shLine_2 zax e_shLine_3 zaw e_shLine_4 zav e_shLine_5 e_shLine_6 zau e_shLine_7 zat e_shLine_8 y4b z7j y4a z7i z8x
attribute [local go_sem ↓] y17
attribute [local go_sem] zns e_shEnds_0 e_shEnds_1 e_shEnds_2 zaz e_shEnds_3 zdg
theorem repeat_ok (n:Nat) (h:n≤100):AFn Tryd.prog 21 [.str (⟨#[32,32]⟩:ByteArray),.int .i64 (n:Int)] (.str (padF n)) :=
 .flat2 (by kernel_rfl) y6g y8w (fun _ _ _=>.str _) fun w _=>(Tryd.strings_Repeat (⟨#[32,32]⟩:ByteArray) n w (by omega) (by
  have e:(⟨#[32,32]⟩:ByteArray).size = 2:=rfl
  rw [e]; omega)).mono fun e w' ⟨he,hb⟩=>⟨by rw [he,pad_of_rep],hb⟩
theorem y35 (d:Int):∃ y x:Int,(if d < 0 then 0 else d) = y∧(if 100 < y then 100 else y) = x∧AFn Tryd.prog 21 [.str (⟨#[32,32]⟩:ByteArray),.int .i64 x] (.str (padF (z2c d))):=by
 refine ⟨_,_,rfl,rfl,?_⟩
 have h:=repeat_ok (z2c d) (zfl d)
 have e:((z2c d:Nat):Int) = (if 100 < (if d < 0 then 0 else d) then 100 else (if d < 0 then 0 else d)):=by
  unfold z2c
  split <;> split <;> omega
 rw [e] at h
 exact h
theorem shEnds_ok (s:Spn) (h1:s.lo.size≤2000) (h2:s.hi.size≤2000):AFn Tryd.prog 23 [s.a] (.str (z5i s)):=by
 refine fn_shEnds rfl ?_
 have q1:=z0k s.lo
 have q2:=z0k s.hi
 have c1:=zfb s.lo (by omega)
 have c2:=zfb s.hi (by omega)
 have e1:(⟨#[46,46,42]⟩:ByteArray).size = 3:=rfl
 have e2:(⟨#[46,46]⟩:ByteArray).size = 2:=rfl
 obtain ⟨lo,hi,op⟩:=s
 simp only at q1 q2 c1 c2 h1 h2
 unfold z5i
 cases op with
 | true =>
  (repeat (first | simp (maxSteps:=9^7) only [go_sem,↓reduceIte,reduceCtorEq,Nat.reduceEqDiff,Nat.reduceBEq,Nat.reduceAdd,Nat.reduceSub,Nat.reduceMul,Nat.reduceLT,Nat.reduceLeDiff,Nat.reduceBNe,Int.reduceBEq,Int.reduceBNe,Int.reduceLT,Int.reduceLE,Nd.a,Par.a,Spn.a,e1,e2,ByteArray.size_append] | refine z01 (c1) ?_ | refine z00 (c1) ?_ | refine z01 (c2) ?_ | refine z00 (c2) ?_ | refine And.intro (by omega) ?_ | refine And.intro (fun d hd=>by (repeat (rcases hd with rfl | hd; · exact ⟨rfl,rfl⟩)); cases hd) ?_))
  omega
 | false =>
  (repeat (first | simp (maxSteps:=9^7) only [go_sem,↓reduceIte,reduceCtorEq,Nat.reduceEqDiff,Nat.reduceBEq,Nat.reduceAdd,Nat.reduceSub,Nat.reduceMul,Nat.reduceLT,Nat.reduceLeDiff,Nat.reduceBNe,Int.reduceBEq,Int.reduceBNe,Int.reduceLT,Int.reduceLE,Nd.a,Par.a,Spn.a,e1,e2,ByteArray.size_append] | refine z01 (c1) ?_ | refine z00 (c1) ?_ | refine z01 (c2) ?_ | refine z00 (c2) ?_ | refine And.intro (by omega) ?_ | refine And.intro (fun d hd=>by (repeat (rcases hd with rfl | hd; · exact ⟨rfl,rfl⟩)); cases hd) ?_))
  omega
def zn7 (n:Nd) (s:Spn) (d:Int) (j:Nat):List ByteArray:=[z6a n d,z5i s,(⟨#[114,111,119,115]⟩:ByteArray),decS n.rows.length] ++ zi4 (n.rows.take j)
theorem leafW_len {n:Nd} {s:Spn} {d:Int} {j:Nat} (h:j≤n.rows.length):((zn7 n s d j).map AV.str).length = j + 4:=by
 unfold zn7 zi4
 simp only [List.length_map,List.length_append,List.length_cons,List.length_nil,List.length_take]; omega
theorem leafW_next {n:Nd} {s:Spn} {d:Int} {j:Nat} {x:Par} (h:n.rows[j]? = some x):(zn7 n s d j).map AV.str ++ [AV.str (z1e x.key)] = (zn7 n s d (j + 1)).map AV.str:=by
 unfold zn7 zi4
 rw [za3 h]; simp
def slInv (n:Nd) (s:Spn) (d:Int) (k:Nat) (σ:St):Prop :=
 ∃ j:Nat,j≤n.rows.length∧k = n.rows.length - j∧σ.T 32 = .sl (n.rows.map Par.a)∧σ.T 33 = .int .i64 n.rows.length∧σ.T 34 = .int .i64 j∧σ.T 7 = .rs 20 0 (j + 4)∧σ.H 20 = some ⟨1,9,(zn7 n s d j).map .str,0⟩
set_option maxHeartbeats 2000000 in
theorem shLine_ok (n:Nd) (s:Spn) (d:Int) (h:n.Thin) (h1:s.lo.size≤2000) (h2:s.hi.size≤2000):AFn Tryd.prog 8 [n.a,s.a,.int .i64 d] (.str (n.shp s d)):=by
 refine fn_shLine rfl ?_
 obtain ⟨y,x,hy,hx,c1⟩:=y35 d
 have a1:=z9k (z2c d)
 have a2:=zfl d
 have a3:=z13 n.slot h.slot.1 h.slot.2
 have hrow:=h.nrow
 have hkid:=h.nkid
 have hmsg:=h.nmsg
 have c2:=y2a n.slot h.slot
 have c3:=shEnds_ok s h1 h2
 have c4:=y2a n.rows.length ⟨by omega,by omega⟩
 have c5:=y2a n.kids.length ⟨by omega,by omega⟩
 have c6:=y2a n.msgs.length ⟨by omega,by omega⟩
 have eh:padF (z2c d) ++ decS n.slot = z6a n d:=rfl
 have hw:=y8c n s d h h1 h2
 have hj:=zlz (⟨#[32]⟩:ByteArray) 12011 (z8s n s d) (fun x hx=>by
  have:=hw.2 x hx
  show _ + 1≤_
  omega)
 have hm:(z8s n s d).length * 12011≤2006 * 12011:=Nat.mul_le_mul_right _ hw.1
 have c7:=join_ok (z8s n s d) (⟨#[32]⟩:ByteArray) (by omega) (by omega)
 simp only [Spn.a] at c3
 by_cases h0:n.level = 0
 case neg =>
  have b0:(n.level == 0) = false:=by simp [h0]
  have el:z8s n s d = [z6a n d,z5i s,(⟨#[107,105,100,115]⟩:ByteArray),decS n.kids.length,(⟨#[109,115,103,115]⟩:ByteArray),decS n.msgs.length]:=by unfold z8s; rw [if_neg h0]
  unfold Nd.shp
  rw [el] at c7 ⊢
  simp only [List.map_cons,List.map_nil] at c7
  (repeat (first | simp (maxSteps:=9^7) only [go_sem,↓reduceIte,reduceCtorEq,Nat.reduceEqDiff,Nat.reduceBEq,Nat.reduceAdd,Nat.reduceSub,Nat.reduceMul,Nat.reduceLT,Nat.reduceLeDiff,Nat.reduceBNe,Int.reduceBEq,Int.reduceBNe,Int.reduceLT,Int.reduceLE,Nd.a,Par.a,Spn.a,hy,hx,eh,b0,List.length_map] | refine z01 (c1) ?_ | refine z00 (c1) ?_ | refine z01 (c2) ?_ | refine z00 (c2) ?_ | refine z01 (c3) ?_ | refine z00 (c3) ?_ | refine z01 (c5) ?_ | refine z00 (c5) ?_ | refine z01 (c6) ?_ | refine z00 (c6) ?_ | refine z01 (c7) ?_ | refine z00 (c7) ?_ | refine And.intro (by omega) ?_ | refine And.intro (fun d hd=>by (repeat (rcases hd with rfl | hd; · exact ⟨rfl,rfl⟩)); cases hd) ?_))
 have b0:(n.level == 0) = true:=by simp [h0]
 have el:z8s n s d = zn7 n s d n.rows.length:=by unfold z8s zn7; rw [if_pos h0,List.take_length]
 unfold Nd.shp
 rw [el] at c7 ⊢
 (repeat (first | simp (maxSteps:=9^7) only [go_sem,↓reduceIte,reduceCtorEq,Nat.reduceEqDiff,Nat.reduceBEq,Nat.reduceAdd,Nat.reduceSub,Nat.reduceMul,Nat.reduceLT,Nat.reduceLeDiff,Nat.reduceBNe,Int.reduceBEq,Int.reduceBNe,Int.reduceLT,Int.reduceLE,Nd.a,Par.a,Spn.a,hy,hx,eh,b0,List.length_map] | refine z01 (c1) ?_ | refine z00 (c1) ?_ | refine z01 (c2) ?_ | refine z00 (c2) ?_ | refine z01 (c3) ?_ | refine z00 (c3) ?_ | refine z01 (c4) ?_ | refine z00 (c4) ?_ | refine And.intro (by omega) ?_ | refine And.intro (fun d hd=>by (repeat (rcases hd with rfl | hd; · exact ⟨rfl,rfl⟩)); cases hd) ?_))
 refine z08 (slInv n s d) (k:=n.rows.length) ⟨0,by omega,rfl,?_,?_,?_,?_,?_⟩ ?_
 iterate 2 focus ((simp (maxSteps:=9^7) only [go_sem,↓reduceIte,reduceCtorEq,Nat.reduceEqDiff,Nat.reduceBEq,Nat.reduceAdd,Nat.reduceSub,Nat.reduceMul,Nat.reduceLT,Nat.reduceLeDiff,Nat.reduceBNe,Int.reduceBEq,Int.reduceBNe,Int.reduceLT,Int.reduceLE,Nd.a,Par.a,Spn.a,List.length_map]) <;> rfl)
 ·simp (maxSteps:=9^7) only [go_sem,↓reduceIte,reduceCtorEq,Nat.reduceEqDiff,Nat.reduceBEq,Nat.reduceAdd,Nat.reduceSub,Nat.reduceMul,Nat.reduceLT,Nat.reduceLeDiff,Nat.reduceBNe,Int.reduceBEq,Int.reduceBNe,Int.reduceLT,Int.reduceLE,Nd.a,Par.a,Spn.a]
  rfl
 ·simp (maxSteps:=9^7) only [go_sem,↓reduceIte,reduceCtorEq,Nat.reduceEqDiff,Nat.reduceBEq,Nat.reduceAdd,Nat.reduceSub,Nat.reduceMul,Nat.reduceLT,Nat.reduceLeDiff,Nat.reduceBNe,Int.reduceBEq,Int.reduceBNe,Int.reduceLT,Int.reduceLE,Nd.a,Par.a,Spn.a]
  try rfl
 ·simp (maxSteps:=9^7) only [go_sem,↓reduceIte,reduceCtorEq,Nat.reduceEqDiff,Nat.reduceBEq,Nat.reduceAdd,Nat.reduceSub,Nat.reduceMul,Nat.reduceLT,Nat.reduceLeDiff,Nat.reduceBNe,Int.reduceBEq,Int.reduceBNe,Int.reduceLT,Int.reduceLE,Nd.a,Par.a,Spn.a,List.length_map,eh]
  try rfl
 rintro k σ ⟨j,hj,rfl,t32,t33,t34,t7,o20⟩
 simp only [zit]
 have hpl:=leafW_len (n:=n) (s:=s) (d:=d) hj
 have htk:((zn7 n s d j).map AV.str).take (j + 4) = (zn7 n s d j).map AV.str:=List.take_of_length_le (by omega)
 by_cases hlt:j < n.rows.length
 ·have hlt':(j:Int) < (n.rows.length:Int):=by omega
  obtain ⟨x,hx⟩:=z0f hlt
  have hgj:=z0j (f:=Par.a) hx
  simp only [Par.a] at hgj
  have hw:=z1j (j:=j) (by omega)
  have s1:=h.rws x (List.mem_of_getElem? hx)
  have c8:=zfb x.key (by omega)
  have hn:=leafW_next (s:=s) (d:=d) hx
  (repeat (first | simp (maxSteps:=9^7) only [go_sem,↓reduceIte,reduceCtorEq,Nat.reduceEqDiff,Nat.reduceBEq,Nat.reduceAdd,Nat.reduceSub,Nat.reduceMul,Nat.reduceLT,Nat.reduceLeDiff,Nat.reduceBNe,Int.reduceBEq,Int.reduceBNe,Int.reduceLT,Int.reduceLE,Nd.a,Par.a,Spn.a,t32,t33,t34,t7,o20,hlt',hgj,List.length_map,Int.toNat_natCast] | refine z01 (c8) ?_ | refine z00 (c8) ?_ | refine And.intro (by omega) ?_ | refine And.intro (fun d hd=>by (repeat (rcases hd with rfl | hd; · exact ⟨rfl,rfl⟩)); cases hd) ?_))
  refine ⟨⟨⟨by omega,by omega⟩,fun d hd=>by rcases hd with rfl | hd; exact ⟨rfl,rfl⟩; cases hd⟩,n.rows.length - (j + 1),by omega,j + 1,by omega,rfl,?_,?_,?_,?_,?_⟩ <;>
   (simp (maxSteps:=9^7) only [go_sem,↓reduceIte,reduceCtorEq,Nat.reduceEqDiff,Nat.reduceBEq,Nat.reduceAdd,Nat.reduceSub,Nat.reduceMul,Nat.reduceLT,Nat.reduceLeDiff,Nat.reduceBNe,Int.reduceBEq,Int.reduceBNe,Int.reduceLT,Int.reduceLE,Nd.a,Par.a,Spn.a,t32,t33,t34,t7,o20,hw,htk,hn])
 ·have hlt':¬ (j:Int) < (n.rows.length:Int):=by omega
  obtain rfl:j = n.rows.length:=by omega
  (repeat (first | simp (maxSteps:=9^7) only [go_sem,↓reduceIte,reduceCtorEq,Nat.reduceEqDiff,Nat.reduceBEq,Nat.reduceAdd,Nat.reduceSub,Nat.reduceMul,Nat.reduceLT,Nat.reduceLeDiff,Nat.reduceBNe,Int.reduceBEq,Int.reduceBNe,Int.reduceLT,Int.reduceLE,Nd.a,Par.a,Spn.a,t32,t33,t34,t7,o20,hlt',htk,List.length_map] | refine z01 (c7) ?_ | refine z00 (c7) ?_ | refine And.intro (by omega) ?_ | refine And.intro (fun d hd=>by (repeat (rcases hd with rfl | hd; · exact ⟨rfl,rfl⟩)); cases hd) ?_))
end
end Go.Proofs.YtkfciapeikkmfaaDoor
